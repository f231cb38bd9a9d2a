/-
  Texts Tj, Tk.
-/
import Derived.Test.YtmfmokblmipagaaGreatR40
import Derived.Test.YtmfmokblmipagaaGreatR48
import Derived.Test.YtmfmokblmipagaaGreatR49
import Derived.Test.YtmfmokblmipagaaGreatR50
import Derived.Test.YtmfmokblmipagaaGreatR51
set_option linter.unusedSimpArgs false
set_option linter.unusedVariables false
set_option maxHeartbeats 8000000
open Pl
section
namespace Go.Proofs.YtmfmokblmipagaaGreat
open Go.RowKit Pl
theorem row_of {op : Int} {n : Nat} (h : (vrowAt op).map (fun r => (tyIn r).length) = some n) : ∃ r, vrowAt op = some r ∧ (tyIn r).length = n := by
 cases h2 : vrowAt op with
 | none => rw [h2] at h; cases h
 | some r => rw [h2] at h; exact ⟨r, rfl, by injection h⟩
theorem ref_bad_l (op a b lo hi : Int) (L : Value) (x : Int) (v : Vec) (hr : -9223372036854775808 ≤ op ∧ op ≤ 9223372036854775807) (h0 : 0 ≤ lo) (h : VBad op b lo false) (W : World) (p : Value) :
 Calls Tryz.prog 19 #[p, inV op a b lo hi L, .int .u32 x, .agg (cells v)] W fun e w' => e = .returned (.tuple #[.agg (cells 0), .int .i64 1]) ∧ Below W.heap.size W w' :=
 rload_e p op a b lo hi x L v 1 W (fun W => rerr_bad p op a b lo hi L false W hr h0 h) (by decide)
theorem ref_bad_s (op a b lo hi : Int) (L : Value) (x : Int) (v : Vec) (hr : -9223372036854775808 ≤ op ∧ op ≤ 9223372036854775807) (h0 : 0 ≤ lo) (h : VBad op b lo true) (W : World) (p : Value) :
 Calls Tryz.prog 18 #[p, inV op a b lo hi L, .int .u32 x, .agg (cells v)] W fun e w' => e = .returned (.int .i64 1) ∧ Below W.heap.size W w' :=
 rstore_e p op a b lo hi x L v 1 W (fun W => rerr_bad p op a b lo hi L true W hr h0 h) (by decide)
abbrev AccT (op : Int) : Prop := ∀ (a off : Int) (lo : Nat) (hi : Int) (L : Value) (x : Nat) (v : Vec) (pages : Nat) (w : World), pages ≤ 2 → x < 4294967296 →
 Calls Tryz.prog 7 #[inV op a off lo hi L, .int .u32 (x : Int), .agg (cells v), .int .i64 (pages : Int)] w fun e w' => e = .returned (.bool true) ∧ Below w.heap.size w w'
theorem acct_00 : AccT 64768 := by
 intro a off lo hi L x v pages w hp hx
 obtain ⟨r, hr, hrl⟩ := row_of (op := 64768) (n := 1) (by decide +kernel)
 have hZ : ∀ W, Calls Tryz.prog 13 #[.int .i64 64768] W fun e w' => e = .returned (.int .i64 16) ∧ w' = W := fun W => vsize_any 64768 W (by decide)
 have hk : IntKind.i64.wrap (64768 - 64768) = 0 := IntWalk.i64_in _ (by decide)
 by_cases h1 : off < 0
 ·exact access_b1 64768 a off lo hi L x v pages r w hp hx hr hrl (by decide) ⟨fun W => seq_neg 64768 0 16 a off lo hi 2 L W hk hZ (by decide) (by decide) h1, ref_bad_l 64768 a off lo hi L x v (by decide) (by omega) (.inr (.inr (.inl h1)))⟩
 by_cases h2 : 4294967296 ≤ off
 ·exact access_b1 64768 a off lo hi L x v pages r w hp hx hr hrl (by decide) ⟨fun W => seq_big 64768 0 16 a off lo hi 2 L W hk hZ (by decide) (by decide) h2, ref_bad_l 64768 a off lo hi L x v (by decide) (by omega) (.inr (.inr (.inr (.inl h2))))⟩
 obtain ⟨off, rfl⟩ := Int.eq_ofNat_of_zero_le (show 0 ≤ off by omega)
 exact access_l1 64768 a off lo hi L x v pages r w hp hx (by omega) (by decide) hr hrl (by decide) (accp_00 a off lo hi L x v (65536 * pages) (layB (65536 * pages)) hx (by omega) (fun i _ => layB_lt _ _))
theorem acct_01 : AccT 64769 := by
 intro a off lo hi L x v pages w hp hx
 obtain ⟨r, hr, hrl⟩ := row_of (op := 64769) (n := 1) (by decide +kernel)
 have hZ : ∀ W, Calls Tryz.prog 13 #[.int .i64 64769] W fun e w' => e = .returned (.int .i64 8) ∧ w' = W := fun W => vsize_any 64769 W (by decide)
 have hk : IntKind.i64.wrap (64769 - 64768) = 1 := IntWalk.i64_in _ (by decide)
 by_cases h1 : off < 0
 ·exact access_b1 64769 a off lo hi L x v pages r w hp hx hr hrl (by decide) ⟨fun W => seq_neg 64769 1 8 a off lo hi 2 L W hk hZ (by decide) (by decide) h1, ref_bad_l 64769 a off lo hi L x v (by decide) (by omega) (.inr (.inr (.inl h1)))⟩
 by_cases h2 : 4294967296 ≤ off
 ·exact access_b1 64769 a off lo hi L x v pages r w hp hx hr hrl (by decide) ⟨fun W => seq_big 64769 1 8 a off lo hi 2 L W hk hZ (by decide) (by decide) h2, ref_bad_l 64769 a off lo hi L x v (by decide) (by omega) (.inr (.inr (.inr (.inl h2))))⟩
 obtain ⟨off, rfl⟩ := Int.eq_ofNat_of_zero_le (show 0 ≤ off by omega)
 exact access_l1 64769 a off lo hi L x v pages r w hp hx (by omega) (by decide) hr hrl (by decide) (accp_01 a off lo hi L x v (65536 * pages) (layB (65536 * pages)) hx (by omega) (fun i _ => layB_lt _ _))
theorem acct_02 : AccT 64770 := by
 intro a off lo hi L x v pages w hp hx
 obtain ⟨r, hr, hrl⟩ := row_of (op := 64770) (n := 1) (by decide +kernel)
 have hZ : ∀ W, Calls Tryz.prog 13 #[.int .i64 64770] W fun e w' => e = .returned (.int .i64 8) ∧ w' = W := fun W => vsize_any 64770 W (by decide)
 have hk : IntKind.i64.wrap (64770 - 64768) = 2 := IntWalk.i64_in _ (by decide)
 by_cases h1 : off < 0
 ·exact access_b1 64770 a off lo hi L x v pages r w hp hx hr hrl (by decide) ⟨fun W => seq_neg 64770 2 8 a off lo hi 2 L W hk hZ (by decide) (by decide) h1, ref_bad_l 64770 a off lo hi L x v (by decide) (by omega) (.inr (.inr (.inl h1)))⟩
 by_cases h2 : 4294967296 ≤ off
 ·exact access_b1 64770 a off lo hi L x v pages r w hp hx hr hrl (by decide) ⟨fun W => seq_big 64770 2 8 a off lo hi 2 L W hk hZ (by decide) (by decide) h2, ref_bad_l 64770 a off lo hi L x v (by decide) (by omega) (.inr (.inr (.inr (.inl h2))))⟩
 obtain ⟨off, rfl⟩ := Int.eq_ofNat_of_zero_le (show 0 ≤ off by omega)
 exact access_l1 64770 a off lo hi L x v pages r w hp hx (by omega) (by decide) hr hrl (by decide) (accp_02 a off lo hi L x v (65536 * pages) (layB (65536 * pages)) hx (by omega) (fun i _ => layB_lt _ _))
theorem acct_03 : AccT 64771 := by
 intro a off lo hi L x v pages w hp hx
 obtain ⟨r, hr, hrl⟩ := row_of (op := 64771) (n := 1) (by decide +kernel)
 have hZ : ∀ W, Calls Tryz.prog 13 #[.int .i64 64771] W fun e w' => e = .returned (.int .i64 8) ∧ w' = W := fun W => vsize_any 64771 W (by decide)
 have hk : IntKind.i64.wrap (64771 - 64768) = 3 := IntWalk.i64_in _ (by decide)
 by_cases h1 : off < 0
 ·exact access_b1 64771 a off lo hi L x v pages r w hp hx hr hrl (by decide) ⟨fun W => seq_neg 64771 3 8 a off lo hi 2 L W hk hZ (by decide) (by decide) h1, ref_bad_l 64771 a off lo hi L x v (by decide) (by omega) (.inr (.inr (.inl h1)))⟩
 by_cases h2 : 4294967296 ≤ off
 ·exact access_b1 64771 a off lo hi L x v pages r w hp hx hr hrl (by decide) ⟨fun W => seq_big 64771 3 8 a off lo hi 2 L W hk hZ (by decide) (by decide) h2, ref_bad_l 64771 a off lo hi L x v (by decide) (by omega) (.inr (.inr (.inr (.inl h2))))⟩
 obtain ⟨off, rfl⟩ := Int.eq_ofNat_of_zero_le (show 0 ≤ off by omega)
 exact access_l1 64771 a off lo hi L x v pages r w hp hx (by omega) (by decide) hr hrl (by decide) (accp_03 a off lo hi L x v (65536 * pages) (layB (65536 * pages)) hx (by omega) (fun i _ => layB_lt _ _))
theorem acct_04 : AccT 64772 := by
 intro a off lo hi L x v pages w hp hx
 obtain ⟨r, hr, hrl⟩ := row_of (op := 64772) (n := 1) (by decide +kernel)
 have hZ : ∀ W, Calls Tryz.prog 13 #[.int .i64 64772] W fun e w' => e = .returned (.int .i64 8) ∧ w' = W := fun W => vsize_any 64772 W (by decide)
 have hk : IntKind.i64.wrap (64772 - 64768) = 4 := IntWalk.i64_in _ (by decide)
 by_cases h1 : off < 0
 ·exact access_b1 64772 a off lo hi L x v pages r w hp hx hr hrl (by decide) ⟨fun W => seq_neg 64772 4 8 a off lo hi 2 L W hk hZ (by decide) (by decide) h1, ref_bad_l 64772 a off lo hi L x v (by decide) (by omega) (.inr (.inr (.inl h1)))⟩
 by_cases h2 : 4294967296 ≤ off
 ·exact access_b1 64772 a off lo hi L x v pages r w hp hx hr hrl (by decide) ⟨fun W => seq_big 64772 4 8 a off lo hi 2 L W hk hZ (by decide) (by decide) h2, ref_bad_l 64772 a off lo hi L x v (by decide) (by omega) (.inr (.inr (.inr (.inl h2))))⟩
 obtain ⟨off, rfl⟩ := Int.eq_ofNat_of_zero_le (show 0 ≤ off by omega)
 exact access_l1 64772 a off lo hi L x v pages r w hp hx (by omega) (by decide) hr hrl (by decide) (accp_04 a off lo hi L x v (65536 * pages) (layB (65536 * pages)) hx (by omega) (fun i _ => layB_lt _ _))
theorem acct_05 : AccT 64773 := by
 intro a off lo hi L x v pages w hp hx
 obtain ⟨r, hr, hrl⟩ := row_of (op := 64773) (n := 1) (by decide +kernel)
 have hZ : ∀ W, Calls Tryz.prog 13 #[.int .i64 64773] W fun e w' => e = .returned (.int .i64 8) ∧ w' = W := fun W => vsize_any 64773 W (by decide)
 have hk : IntKind.i64.wrap (64773 - 64768) = 5 := IntWalk.i64_in _ (by decide)
 by_cases h1 : off < 0
 ·exact access_b1 64773 a off lo hi L x v pages r w hp hx hr hrl (by decide) ⟨fun W => seq_neg 64773 5 8 a off lo hi 2 L W hk hZ (by decide) (by decide) h1, ref_bad_l 64773 a off lo hi L x v (by decide) (by omega) (.inr (.inr (.inl h1)))⟩
 by_cases h2 : 4294967296 ≤ off
 ·exact access_b1 64773 a off lo hi L x v pages r w hp hx hr hrl (by decide) ⟨fun W => seq_big 64773 5 8 a off lo hi 2 L W hk hZ (by decide) (by decide) h2, ref_bad_l 64773 a off lo hi L x v (by decide) (by omega) (.inr (.inr (.inr (.inl h2))))⟩
 obtain ⟨off, rfl⟩ := Int.eq_ofNat_of_zero_le (show 0 ≤ off by omega)
 exact access_l1 64773 a off lo hi L x v pages r w hp hx (by omega) (by decide) hr hrl (by decide) (accp_05 a off lo hi L x v (65536 * pages) (layB (65536 * pages)) hx (by omega) (fun i _ => layB_lt _ _))
theorem acct_06 : AccT 64774 := by
 intro a off lo hi L x v pages w hp hx
 obtain ⟨r, hr, hrl⟩ := row_of (op := 64774) (n := 1) (by decide +kernel)
 have hZ : ∀ W, Calls Tryz.prog 13 #[.int .i64 64774] W fun e w' => e = .returned (.int .i64 8) ∧ w' = W := fun W => vsize_any 64774 W (by decide)
 have hk : IntKind.i64.wrap (64774 - 64768) = 6 := IntWalk.i64_in _ (by decide)
 by_cases h1 : off < 0
 ·exact access_b1 64774 a off lo hi L x v pages r w hp hx hr hrl (by decide) ⟨fun W => seq_neg 64774 6 8 a off lo hi 2 L W hk hZ (by decide) (by decide) h1, ref_bad_l 64774 a off lo hi L x v (by decide) (by omega) (.inr (.inr (.inl h1)))⟩
 by_cases h2 : 4294967296 ≤ off
 ·exact access_b1 64774 a off lo hi L x v pages r w hp hx hr hrl (by decide) ⟨fun W => seq_big 64774 6 8 a off lo hi 2 L W hk hZ (by decide) (by decide) h2, ref_bad_l 64774 a off lo hi L x v (by decide) (by omega) (.inr (.inr (.inr (.inl h2))))⟩
 obtain ⟨off, rfl⟩ := Int.eq_ofNat_of_zero_le (show 0 ≤ off by omega)
 exact access_l1 64774 a off lo hi L x v pages r w hp hx (by omega) (by decide) hr hrl (by decide) (accp_06 a off lo hi L x v (65536 * pages) (layB (65536 * pages)) hx (by omega) (fun i _ => layB_lt _ _))
theorem acct_07 : AccT 64775 := by
 intro a off lo hi L x v pages w hp hx
 obtain ⟨r, hr, hrl⟩ := row_of (op := 64775) (n := 1) (by decide +kernel)
 have hZ : ∀ W, Calls Tryz.prog 13 #[.int .i64 64775] W fun e w' => e = .returned (.int .i64 1) ∧ w' = W := fun W => vsize_any 64775 W (by decide)
 have hk : IntKind.i64.wrap (64775 - 64768) = 7 := IntWalk.i64_in _ (by decide)
 by_cases h1 : off < 0
 ·exact access_b1 64775 a off lo hi L x v pages r w hp hx hr hrl (by decide) ⟨fun W => seq_neg 64775 7 1 a off lo hi 2 L W hk hZ (by decide) (by decide) h1, ref_bad_l 64775 a off lo hi L x v (by decide) (by omega) (.inr (.inr (.inl h1)))⟩
 by_cases h2 : 4294967296 ≤ off
 ·exact access_b1 64775 a off lo hi L x v pages r w hp hx hr hrl (by decide) ⟨fun W => seq_big 64775 7 1 a off lo hi 2 L W hk hZ (by decide) (by decide) h2, ref_bad_l 64775 a off lo hi L x v (by decide) (by omega) (.inr (.inr (.inr (.inl h2))))⟩
 obtain ⟨off, rfl⟩ := Int.eq_ofNat_of_zero_le (show 0 ≤ off by omega)
 exact access_l1 64775 a off lo hi L x v pages r w hp hx (by omega) (by decide) hr hrl (by decide) (accp_07 a off lo hi L x v (65536 * pages) (layB (65536 * pages)) hx (by omega) (fun i _ => layB_lt _ _))
theorem acct_08 : AccT 64776 := by
 intro a off lo hi L x v pages w hp hx
 obtain ⟨r, hr, hrl⟩ := row_of (op := 64776) (n := 1) (by decide +kernel)
 have hZ : ∀ W, Calls Tryz.prog 13 #[.int .i64 64776] W fun e w' => e = .returned (.int .i64 2) ∧ w' = W := fun W => vsize_any 64776 W (by decide)
 have hk : IntKind.i64.wrap (64776 - 64768) = 8 := IntWalk.i64_in _ (by decide)
 by_cases h1 : off < 0
 ·exact access_b1 64776 a off lo hi L x v pages r w hp hx hr hrl (by decide) ⟨fun W => seq_neg 64776 8 2 a off lo hi 2 L W hk hZ (by decide) (by decide) h1, ref_bad_l 64776 a off lo hi L x v (by decide) (by omega) (.inr (.inr (.inl h1)))⟩
 by_cases h2 : 4294967296 ≤ off
 ·exact access_b1 64776 a off lo hi L x v pages r w hp hx hr hrl (by decide) ⟨fun W => seq_big 64776 8 2 a off lo hi 2 L W hk hZ (by decide) (by decide) h2, ref_bad_l 64776 a off lo hi L x v (by decide) (by omega) (.inr (.inr (.inr (.inl h2))))⟩
 obtain ⟨off, rfl⟩ := Int.eq_ofNat_of_zero_le (show 0 ≤ off by omega)
 exact access_l1 64776 a off lo hi L x v pages r w hp hx (by omega) (by decide) hr hrl (by decide) (accp_08 a off lo hi L x v (65536 * pages) (layB (65536 * pages)) hx (by omega) (fun i _ => layB_lt _ _))
theorem acct_09 : AccT 64777 := by
 intro a off lo hi L x v pages w hp hx
 obtain ⟨r, hr, hrl⟩ := row_of (op := 64777) (n := 1) (by decide +kernel)
 have hZ : ∀ W, Calls Tryz.prog 13 #[.int .i64 64777] W fun e w' => e = .returned (.int .i64 4) ∧ w' = W := fun W => vsize_any 64777 W (by decide)
 have hk : IntKind.i64.wrap (64777 - 64768) = 9 := IntWalk.i64_in _ (by decide)
 by_cases h1 : off < 0
 ·exact access_b1 64777 a off lo hi L x v pages r w hp hx hr hrl (by decide) ⟨fun W => seq_neg 64777 9 4 a off lo hi 2 L W hk hZ (by decide) (by decide) h1, ref_bad_l 64777 a off lo hi L x v (by decide) (by omega) (.inr (.inr (.inl h1)))⟩
 by_cases h2 : 4294967296 ≤ off
 ·exact access_b1 64777 a off lo hi L x v pages r w hp hx hr hrl (by decide) ⟨fun W => seq_big 64777 9 4 a off lo hi 2 L W hk hZ (by decide) (by decide) h2, ref_bad_l 64777 a off lo hi L x v (by decide) (by omega) (.inr (.inr (.inr (.inl h2))))⟩
 obtain ⟨off, rfl⟩ := Int.eq_ofNat_of_zero_le (show 0 ≤ off by omega)
 exact access_l1 64777 a off lo hi L x v pages r w hp hx (by omega) (by decide) hr hrl (by decide) (accp_09 a off lo hi L x v (65536 * pages) (layB (65536 * pages)) hx (by omega) (fun i _ => layB_lt _ _))
theorem acct_0a : AccT 64778 := by
 intro a off lo hi L x v pages w hp hx
 obtain ⟨r, hr, hrl⟩ := row_of (op := 64778) (n := 1) (by decide +kernel)
 have hZ : ∀ W, Calls Tryz.prog 13 #[.int .i64 64778] W fun e w' => e = .returned (.int .i64 8) ∧ w' = W := fun W => vsize_any 64778 W (by decide)
 have hk : IntKind.i64.wrap (64778 - 64768) = 10 := IntWalk.i64_in _ (by decide)
 by_cases h1 : off < 0
 ·exact access_b1 64778 a off lo hi L x v pages r w hp hx hr hrl (by decide) ⟨fun W => seq_neg 64778 10 8 a off lo hi 2 L W hk hZ (by decide) (by decide) h1, ref_bad_l 64778 a off lo hi L x v (by decide) (by omega) (.inr (.inr (.inl h1)))⟩
 by_cases h2 : 4294967296 ≤ off
 ·exact access_b1 64778 a off lo hi L x v pages r w hp hx hr hrl (by decide) ⟨fun W => seq_big 64778 10 8 a off lo hi 2 L W hk hZ (by decide) (by decide) h2, ref_bad_l 64778 a off lo hi L x v (by decide) (by omega) (.inr (.inr (.inr (.inl h2))))⟩
 obtain ⟨off, rfl⟩ := Int.eq_ofNat_of_zero_le (show 0 ≤ off by omega)
 exact access_l1 64778 a off lo hi L x v pages r w hp hx (by omega) (by decide) hr hrl (by decide) (accp_0a a off lo hi L x v (65536 * pages) (layB (65536 * pages)) hx (by omega) (fun i _ => layB_lt _ _))
theorem acct_0b : AccT 64779 := by
 intro a off lo hi L x v pages w hp hx
 obtain ⟨r, hr, hrl⟩ := row_of (op := 64779) (n := 2) (by decide +kernel)
 have hZ : ∀ W, Calls Tryz.prog 13 #[.int .i64 64779] W fun e w' => e = .returned (.int .i64 16) ∧ w' = W := fun W => vsize_any 64779 W (by decide)
 have hk : IntKind.i64.wrap (64779 - 64768) = 11 := IntWalk.i64_in _ (by decide)
 by_cases h1 : off < 0
 ·exact access_b3 64779 a off lo hi L x v pages r w hp hx hr hrl (by decide) ⟨fun W => seq_neg 64779 11 16 a off lo hi 2 L W hk hZ (by decide) (by decide) h1, ref_bad_s 64779 a off lo hi L x v (by decide) (by omega) (.inr (.inr (.inl h1)))⟩
 by_cases h2 : 4294967296 ≤ off
 ·exact access_b3 64779 a off lo hi L x v pages r w hp hx hr hrl (by decide) ⟨fun W => seq_big 64779 11 16 a off lo hi 2 L W hk hZ (by decide) (by decide) h2, ref_bad_s 64779 a off lo hi L x v (by decide) (by omega) (.inr (.inr (.inr (.inl h2))))⟩
 obtain ⟨off, rfl⟩ := Int.eq_ofNat_of_zero_le (show 0 ≤ off by omega)
 exact access_s 64779 a off lo hi L x v pages r w hp hx (by omega) (by decide) hr hrl (by decide) (accp_0b a off lo hi L x v (65536 * pages) (layB (65536 * pages)) hx (by omega) (fun i _ => layB_lt _ _))
theorem acct_54 : AccT 64852 := by
 intro a off lo hi L x v pages w hp hx
 obtain ⟨r, hr, hrl⟩ := row_of (op := 64852) (n := 2) (by decide +kernel)
 have hZ : ∀ W, Calls Tryz.prog 13 #[.int .i64 64852] W fun e w' => e = .returned (.int .i64 1) ∧ w' = W := fun W => vsize_any 64852 W (by decide)
 have hk : IntKind.i64.wrap (64852 - 64768) = 84 := IntWalk.i64_in _ (by decide)
 by_cases h1 : off < 0
 ·exact access_b2 64852 a off lo hi L x v pages r w hp hx hr hrl (by decide) ⟨fun W => seq_neg 64852 84 1 a off lo hi 2 L W hk hZ (by decide) (by decide) h1, ref_bad_l 64852 a off lo hi L x v (by decide) (by omega) (.inr (.inr (.inl h1)))⟩
 by_cases h2 : 4294967296 ≤ off
 ·exact access_b2 64852 a off lo hi L x v pages r w hp hx hr hrl (by decide) ⟨fun W => seq_big 64852 84 1 a off lo hi 2 L W hk hZ (by decide) (by decide) h2, ref_bad_l 64852 a off lo hi L x v (by decide) (by omega) (.inr (.inr (.inr (.inl h2))))⟩
 obtain ⟨off, rfl⟩ := Int.eq_ofNat_of_zero_le (show 0 ≤ off by omega)
 by_cases h3 : 16 ≤ lo
 ·exact access_b2 64852 a off lo hi L x v pages r w hp hx hr hrl (by decide) ⟨fun W => seq_lo_1 64852 84 1 a off lo hi 2 L W hk hZ (by decide) (by decide) (by omega) (by decide) rfl (by omega), ref_bad_l 64852 a off lo hi L x v (by decide) (by omega) (.inr (.inr (.inr (.inr ⟨by unfold vln; omega, by rw [show vszN 64852 = 1 by decide]; omega⟩))))⟩
 exact access_l2 64852 a off lo hi L x v pages r w hp hx (by omega) (by decide) hr hrl (by decide) (accp_54 a off lo hi L x v (65536 * pages) (layB (65536 * pages)) hx (by omega) (fun i _ => layB_lt _ _) (by omega))
theorem acct_55 : AccT 64853 := by
 intro a off lo hi L x v pages w hp hx
 obtain ⟨r, hr, hrl⟩ := row_of (op := 64853) (n := 2) (by decide +kernel)
 have hZ : ∀ W, Calls Tryz.prog 13 #[.int .i64 64853] W fun e w' => e = .returned (.int .i64 2) ∧ w' = W := fun W => vsize_any 64853 W (by decide)
 have hk : IntKind.i64.wrap (64853 - 64768) = 85 := IntWalk.i64_in _ (by decide)
 by_cases h1 : off < 0
 ·exact access_b2 64853 a off lo hi L x v pages r w hp hx hr hrl (by decide) ⟨fun W => seq_neg 64853 85 2 a off lo hi 2 L W hk hZ (by decide) (by decide) h1, ref_bad_l 64853 a off lo hi L x v (by decide) (by omega) (.inr (.inr (.inl h1)))⟩
 by_cases h2 : 4294967296 ≤ off
 ·exact access_b2 64853 a off lo hi L x v pages r w hp hx hr hrl (by decide) ⟨fun W => seq_big 64853 85 2 a off lo hi 2 L W hk hZ (by decide) (by decide) h2, ref_bad_l 64853 a off lo hi L x v (by decide) (by omega) (.inr (.inr (.inr (.inl h2))))⟩
 obtain ⟨off, rfl⟩ := Int.eq_ofNat_of_zero_le (show 0 ≤ off by omega)
 by_cases h3 : 8 ≤ lo
 ·exact access_b2 64853 a off lo hi L x v pages r w hp hx hr hrl (by decide) ⟨fun W => seq_lo_2 64853 85 2 a off lo hi 2 L W hk hZ (by decide) (by decide) (by omega) (by decide) rfl (by omega), ref_bad_l 64853 a off lo hi L x v (by decide) (by omega) (.inr (.inr (.inr (.inr ⟨by unfold vln; omega, by rw [show vszN 64853 = 2 by decide]; omega⟩))))⟩
 exact access_l2 64853 a off lo hi L x v pages r w hp hx (by omega) (by decide) hr hrl (by decide) (accp_55 a off lo hi L x v (65536 * pages) (layB (65536 * pages)) hx (by omega) (fun i _ => layB_lt _ _) (by omega))
theorem acct_56 : AccT 64854 := by
 intro a off lo hi L x v pages w hp hx
 obtain ⟨r, hr, hrl⟩ := row_of (op := 64854) (n := 2) (by decide +kernel)
 have hZ : ∀ W, Calls Tryz.prog 13 #[.int .i64 64854] W fun e w' => e = .returned (.int .i64 4) ∧ w' = W := fun W => vsize_any 64854 W (by decide)
 have hk : IntKind.i64.wrap (64854 - 64768) = 86 := IntWalk.i64_in _ (by decide)
 by_cases h1 : off < 0
 ·exact access_b2 64854 a off lo hi L x v pages r w hp hx hr hrl (by decide) ⟨fun W => seq_neg 64854 86 4 a off lo hi 2 L W hk hZ (by decide) (by decide) h1, ref_bad_l 64854 a off lo hi L x v (by decide) (by omega) (.inr (.inr (.inl h1)))⟩
 by_cases h2 : 4294967296 ≤ off
 ·exact access_b2 64854 a off lo hi L x v pages r w hp hx hr hrl (by decide) ⟨fun W => seq_big 64854 86 4 a off lo hi 2 L W hk hZ (by decide) (by decide) h2, ref_bad_l 64854 a off lo hi L x v (by decide) (by omega) (.inr (.inr (.inr (.inl h2))))⟩
 obtain ⟨off, rfl⟩ := Int.eq_ofNat_of_zero_le (show 0 ≤ off by omega)
 by_cases h3 : 4 ≤ lo
 ·exact access_b2 64854 a off lo hi L x v pages r w hp hx hr hrl (by decide) ⟨fun W => seq_lo_4 64854 86 4 a off lo hi 2 L W hk hZ (by decide) (by decide) (by omega) (by decide) rfl (by omega), ref_bad_l 64854 a off lo hi L x v (by decide) (by omega) (.inr (.inr (.inr (.inr ⟨by unfold vln; omega, by rw [show vszN 64854 = 4 by decide]; omega⟩))))⟩
 exact access_l2 64854 a off lo hi L x v pages r w hp hx (by omega) (by decide) hr hrl (by decide) (accp_56 a off lo hi L x v (65536 * pages) (layB (65536 * pages)) hx (by omega) (fun i _ => layB_lt _ _) (by omega))
theorem acct_57 : AccT 64855 := by
 intro a off lo hi L x v pages w hp hx
 obtain ⟨r, hr, hrl⟩ := row_of (op := 64855) (n := 2) (by decide +kernel)
 have hZ : ∀ W, Calls Tryz.prog 13 #[.int .i64 64855] W fun e w' => e = .returned (.int .i64 8) ∧ w' = W := fun W => vsize_any 64855 W (by decide)
 have hk : IntKind.i64.wrap (64855 - 64768) = 87 := IntWalk.i64_in _ (by decide)
 by_cases h1 : off < 0
 ·exact access_b2 64855 a off lo hi L x v pages r w hp hx hr hrl (by decide) ⟨fun W => seq_neg 64855 87 8 a off lo hi 2 L W hk hZ (by decide) (by decide) h1, ref_bad_l 64855 a off lo hi L x v (by decide) (by omega) (.inr (.inr (.inl h1)))⟩
 by_cases h2 : 4294967296 ≤ off
 ·exact access_b2 64855 a off lo hi L x v pages r w hp hx hr hrl (by decide) ⟨fun W => seq_big 64855 87 8 a off lo hi 2 L W hk hZ (by decide) (by decide) h2, ref_bad_l 64855 a off lo hi L x v (by decide) (by omega) (.inr (.inr (.inr (.inl h2))))⟩
 obtain ⟨off, rfl⟩ := Int.eq_ofNat_of_zero_le (show 0 ≤ off by omega)
 by_cases h3 : 2 ≤ lo
 ·exact access_b2 64855 a off lo hi L x v pages r w hp hx hr hrl (by decide) ⟨fun W => seq_lo_8 64855 87 8 a off lo hi 2 L W hk hZ (by decide) (by decide) (by omega) (by decide) rfl (by omega), ref_bad_l 64855 a off lo hi L x v (by decide) (by omega) (.inr (.inr (.inr (.inr ⟨by unfold vln; omega, by rw [show vszN 64855 = 8 by decide]; omega⟩))))⟩
 exact access_l2 64855 a off lo hi L x v pages r w hp hx (by omega) (by decide) hr hrl (by decide) (accp_57 a off lo hi L x v (65536 * pages) (layB (65536 * pages)) hx (by omega) (fun i _ => layB_lt _ _) (by omega))
theorem acct_58 : AccT 64856 := by
 intro a off lo hi L x v pages w hp hx
 obtain ⟨r, hr, hrl⟩ := row_of (op := 64856) (n := 2) (by decide +kernel)
 have hZ : ∀ W, Calls Tryz.prog 13 #[.int .i64 64856] W fun e w' => e = .returned (.int .i64 1) ∧ w' = W := fun W => vsize_any 64856 W (by decide)
 have hk : IntKind.i64.wrap (64856 - 64768) = 88 := IntWalk.i64_in _ (by decide)
 by_cases h1 : off < 0
 ·exact access_b3 64856 a off lo hi L x v pages r w hp hx hr hrl (by decide) ⟨fun W => seq_neg 64856 88 1 a off lo hi 2 L W hk hZ (by decide) (by decide) h1, ref_bad_s 64856 a off lo hi L x v (by decide) (by omega) (.inr (.inr (.inl h1)))⟩
 by_cases h2 : 4294967296 ≤ off
 ·exact access_b3 64856 a off lo hi L x v pages r w hp hx hr hrl (by decide) ⟨fun W => seq_big 64856 88 1 a off lo hi 2 L W hk hZ (by decide) (by decide) h2, ref_bad_s 64856 a off lo hi L x v (by decide) (by omega) (.inr (.inr (.inr (.inl h2))))⟩
 obtain ⟨off, rfl⟩ := Int.eq_ofNat_of_zero_le (show 0 ≤ off by omega)
 by_cases h3 : 16 ≤ lo
 ·exact access_b3 64856 a off lo hi L x v pages r w hp hx hr hrl (by decide) ⟨fun W => seq_lo_1 64856 88 1 a off lo hi 2 L W hk hZ (by decide) (by decide) (by omega) (by decide) rfl (by omega), ref_bad_s 64856 a off lo hi L x v (by decide) (by omega) (.inr (.inr (.inr (.inr ⟨by unfold vln; omega, by rw [show vszN 64856 = 1 by decide]; omega⟩))))⟩
 exact access_s 64856 a off lo hi L x v pages r w hp hx (by omega) (by decide) hr hrl (by decide) (accp_58 a off lo hi L x v (65536 * pages) (layB (65536 * pages)) hx (by omega) (fun i _ => layB_lt _ _) (by omega))
theorem acct_59 : AccT 64857 := by
 intro a off lo hi L x v pages w hp hx
 obtain ⟨r, hr, hrl⟩ := row_of (op := 64857) (n := 2) (by decide +kernel)
 have hZ : ∀ W, Calls Tryz.prog 13 #[.int .i64 64857] W fun e w' => e = .returned (.int .i64 2) ∧ w' = W := fun W => vsize_any 64857 W (by decide)
 have hk : IntKind.i64.wrap (64857 - 64768) = 89 := IntWalk.i64_in _ (by decide)
 by_cases h1 : off < 0
 ·exact access_b3 64857 a off lo hi L x v pages r w hp hx hr hrl (by decide) ⟨fun W => seq_neg 64857 89 2 a off lo hi 2 L W hk hZ (by decide) (by decide) h1, ref_bad_s 64857 a off lo hi L x v (by decide) (by omega) (.inr (.inr (.inl h1)))⟩
 by_cases h2 : 4294967296 ≤ off
 ·exact access_b3 64857 a off lo hi L x v pages r w hp hx hr hrl (by decide) ⟨fun W => seq_big 64857 89 2 a off lo hi 2 L W hk hZ (by decide) (by decide) h2, ref_bad_s 64857 a off lo hi L x v (by decide) (by omega) (.inr (.inr (.inr (.inl h2))))⟩
 obtain ⟨off, rfl⟩ := Int.eq_ofNat_of_zero_le (show 0 ≤ off by omega)
 by_cases h3 : 8 ≤ lo
 ·exact access_b3 64857 a off lo hi L x v pages r w hp hx hr hrl (by decide) ⟨fun W => seq_lo_2 64857 89 2 a off lo hi 2 L W hk hZ (by decide) (by decide) (by omega) (by decide) rfl (by omega), ref_bad_s 64857 a off lo hi L x v (by decide) (by omega) (.inr (.inr (.inr (.inr ⟨by unfold vln; omega, by rw [show vszN 64857 = 2 by decide]; omega⟩))))⟩
 exact access_s 64857 a off lo hi L x v pages r w hp hx (by omega) (by decide) hr hrl (by decide) (accp_59 a off lo hi L x v (65536 * pages) (layB (65536 * pages)) hx (by omega) (fun i _ => layB_lt _ _) (by omega))
theorem acct_5a : AccT 64858 := by
 intro a off lo hi L x v pages w hp hx
 obtain ⟨r, hr, hrl⟩ := row_of (op := 64858) (n := 2) (by decide +kernel)
 have hZ : ∀ W, Calls Tryz.prog 13 #[.int .i64 64858] W fun e w' => e = .returned (.int .i64 4) ∧ w' = W := fun W => vsize_any 64858 W (by decide)
 have hk : IntKind.i64.wrap (64858 - 64768) = 90 := IntWalk.i64_in _ (by decide)
 by_cases h1 : off < 0
 ·exact access_b3 64858 a off lo hi L x v pages r w hp hx hr hrl (by decide) ⟨fun W => seq_neg 64858 90 4 a off lo hi 2 L W hk hZ (by decide) (by decide) h1, ref_bad_s 64858 a off lo hi L x v (by decide) (by omega) (.inr (.inr (.inl h1)))⟩
 by_cases h2 : 4294967296 ≤ off
 ·exact access_b3 64858 a off lo hi L x v pages r w hp hx hr hrl (by decide) ⟨fun W => seq_big 64858 90 4 a off lo hi 2 L W hk hZ (by decide) (by decide) h2, ref_bad_s 64858 a off lo hi L x v (by decide) (by omega) (.inr (.inr (.inr (.inl h2))))⟩
 obtain ⟨off, rfl⟩ := Int.eq_ofNat_of_zero_le (show 0 ≤ off by omega)
 by_cases h3 : 4 ≤ lo
 ·exact access_b3 64858 a off lo hi L x v pages r w hp hx hr hrl (by decide) ⟨fun W => seq_lo_4 64858 90 4 a off lo hi 2 L W hk hZ (by decide) (by decide) (by omega) (by decide) rfl (by omega), ref_bad_s 64858 a off lo hi L x v (by decide) (by omega) (.inr (.inr (.inr (.inr ⟨by unfold vln; omega, by rw [show vszN 64858 = 4 by decide]; omega⟩))))⟩
 exact access_s 64858 a off lo hi L x v pages r w hp hx (by omega) (by decide) hr hrl (by decide) (accp_5a a off lo hi L x v (65536 * pages) (layB (65536 * pages)) hx (by omega) (fun i _ => layB_lt _ _) (by omega))
theorem acct_5b : AccT 64859 := by
 intro a off lo hi L x v pages w hp hx
 obtain ⟨r, hr, hrl⟩ := row_of (op := 64859) (n := 2) (by decide +kernel)
 have hZ : ∀ W, Calls Tryz.prog 13 #[.int .i64 64859] W fun e w' => e = .returned (.int .i64 8) ∧ w' = W := fun W => vsize_any 64859 W (by decide)
 have hk : IntKind.i64.wrap (64859 - 64768) = 91 := IntWalk.i64_in _ (by decide)
 by_cases h1 : off < 0
 ·exact access_b3 64859 a off lo hi L x v pages r w hp hx hr hrl (by decide) ⟨fun W => seq_neg 64859 91 8 a off lo hi 2 L W hk hZ (by decide) (by decide) h1, ref_bad_s 64859 a off lo hi L x v (by decide) (by omega) (.inr (.inr (.inl h1)))⟩
 by_cases h2 : 4294967296 ≤ off
 ·exact access_b3 64859 a off lo hi L x v pages r w hp hx hr hrl (by decide) ⟨fun W => seq_big 64859 91 8 a off lo hi 2 L W hk hZ (by decide) (by decide) h2, ref_bad_s 64859 a off lo hi L x v (by decide) (by omega) (.inr (.inr (.inr (.inl h2))))⟩
 obtain ⟨off, rfl⟩ := Int.eq_ofNat_of_zero_le (show 0 ≤ off by omega)
 by_cases h3 : 2 ≤ lo
 ·exact access_b3 64859 a off lo hi L x v pages r w hp hx hr hrl (by decide) ⟨fun W => seq_lo_8 64859 91 8 a off lo hi 2 L W hk hZ (by decide) (by decide) (by omega) (by decide) rfl (by omega), ref_bad_s 64859 a off lo hi L x v (by decide) (by omega) (.inr (.inr (.inr (.inr ⟨by unfold vln; omega, by rw [show vszN 64859 = 8 by decide]; omega⟩))))⟩
 exact access_s 64859 a off lo hi L x v pages r w hp hx (by omega) (by decide) hr hrl (by decide) (accp_5b a off lo hi L x v (65536 * pages) (layB (65536 * pages)) hx (by omega) (fun i _ => layB_lt _ _) (by omega))
theorem acct_5c : AccT 64860 := by
 intro a off lo hi L x v pages w hp hx
 obtain ⟨r, hr, hrl⟩ := row_of (op := 64860) (n := 1) (by decide +kernel)
 have hZ : ∀ W, Calls Tryz.prog 13 #[.int .i64 64860] W fun e w' => e = .returned (.int .i64 4) ∧ w' = W := fun W => vsize_any 64860 W (by decide)
 have hk : IntKind.i64.wrap (64860 - 64768) = 92 := IntWalk.i64_in _ (by decide)
 by_cases h1 : off < 0
 ·exact access_b1 64860 a off lo hi L x v pages r w hp hx hr hrl (by decide) ⟨fun W => seq_neg 64860 92 4 a off lo hi 2 L W hk hZ (by decide) (by decide) h1, ref_bad_l 64860 a off lo hi L x v (by decide) (by omega) (.inr (.inr (.inl h1)))⟩
 by_cases h2 : 4294967296 ≤ off
 ·exact access_b1 64860 a off lo hi L x v pages r w hp hx hr hrl (by decide) ⟨fun W => seq_big 64860 92 4 a off lo hi 2 L W hk hZ (by decide) (by decide) h2, ref_bad_l 64860 a off lo hi L x v (by decide) (by omega) (.inr (.inr (.inr (.inl h2))))⟩
 obtain ⟨off, rfl⟩ := Int.eq_ofNat_of_zero_le (show 0 ≤ off by omega)
 exact access_l1 64860 a off lo hi L x v pages r w hp hx (by omega) (by decide) hr hrl (by decide) (accp_5c a off lo hi L x v (65536 * pages) (layB (65536 * pages)) hx (by omega) (fun i _ => layB_lt _ _))
theorem acct_5d : AccT 64861 := by
 intro a off lo hi L x v pages w hp hx
 obtain ⟨r, hr, hrl⟩ := row_of (op := 64861) (n := 1) (by decide +kernel)
 have hZ : ∀ W, Calls Tryz.prog 13 #[.int .i64 64861] W fun e w' => e = .returned (.int .i64 8) ∧ w' = W := fun W => vsize_any 64861 W (by decide)
 have hk : IntKind.i64.wrap (64861 - 64768) = 93 := IntWalk.i64_in _ (by decide)
 by_cases h1 : off < 0
 ·exact access_b1 64861 a off lo hi L x v pages r w hp hx hr hrl (by decide) ⟨fun W => seq_neg 64861 93 8 a off lo hi 2 L W hk hZ (by decide) (by decide) h1, ref_bad_l 64861 a off lo hi L x v (by decide) (by omega) (.inr (.inr (.inl h1)))⟩
 by_cases h2 : 4294967296 ≤ off
 ·exact access_b1 64861 a off lo hi L x v pages r w hp hx hr hrl (by decide) ⟨fun W => seq_big 64861 93 8 a off lo hi 2 L W hk hZ (by decide) (by decide) h2, ref_bad_l 64861 a off lo hi L x v (by decide) (by omega) (.inr (.inr (.inr (.inl h2))))⟩
 obtain ⟨off, rfl⟩ := Int.eq_ofNat_of_zero_le (show 0 ≤ off by omega)
 exact access_l1 64861 a off lo hi L x v pages r w hp hx (by omega) (by decide) hr hrl (by decide) (accp_5d a off lo hi L x v (65536 * pages) (layB (65536 * pages)) hx (by omega) (fun i _ => layB_lt _ _))
theorem acct_any (op : Int) (h : vszN op ≠ 0) : AccT op := by
 by_cases hv : 64768 ≤ op ∧ op ≤ 64779 ∨ 64852 ≤ op ∧ op ≤ 64861
 ·rcases (show op = 64768 ∨ op = 64769 ∨ op = 64770 ∨ op = 64771 ∨ op = 64772 ∨ op = 64773 ∨ op = 64774 ∨ op = 64775 ∨ op = 64776 ∨ op = 64777 ∨ op = 64778 ∨ op = 64779 ∨ op = 64852 ∨ op = 64853 ∨ op = 64854 ∨ op = 64855 ∨ op = 64856 ∨ op = 64857 ∨ op = 64858 ∨ op = 64859 ∨ op = 64860 ∨ op = 64861 by omega) with rfl | rfl | rfl | rfl | rfl | rfl | rfl | rfl | rfl | rfl | rfl | rfl | rfl | rfl | rfl | rfl | rfl | rfl | rfl | rfl | rfl | rfl
  ·exact acct_00
  ·exact acct_01
  ·exact acct_02
  ·exact acct_03
  ·exact acct_04
  ·exact acct_05
  ·exact acct_06
  ·exact acct_07
  ·exact acct_08
  ·exact acct_09
  ·exact acct_0a
  ·exact acct_0b
  ·exact acct_54
  ·exact acct_55
  ·exact acct_56
  ·exact acct_57
  ·exact acct_58
  ·exact acct_59
  ·exact acct_5a
  ·exact acct_5b
  ·exact acct_5c
  ·exact acct_5d
 ·exact absurd (vsz_zero op hv) h
end Go.Proofs.YtmfmokblmipagaaGreat
end
section
namespace Go.Proofs.YtmfmokblmipagaaGreat
open Go.RowKit Pl
set_option maxRecDepth 100000 in
theorem memis_k (op : Int) (w : World) (hr : -9223372036854775808 ≤ op ∧ op ≤ 9223372036854775807) (h : vszN op = 0) : Calls Tryz.prog 6 #[.int .i64 op] w fun e w' => e = .returned (.bool false) ∧ w' = w := by
 have HS := Lib.hid (fun W => vsize_any op W hr)
 rw [h] at HS
 clear h
 go_enter Tryz.func6, Tryz.ntmps6
 go_wp2_with (go_at_call 13; (with_reducible refine (HS.out _).mono ?_); rintro e u ⟨rfl, rfl⟩)
 go_ret
 exact ⟨rfl, rfl⟩
set_option maxRecDepth 100000 in
theorem core_k (op a off : Int) (lo : Nat) (hi : Int) (L : Value) (x : Nat) (v : Vec) (w : World) (hr : -9223372036854775808 ≤ op ∧ op ≤ 9223372036854775807) (hx : x < 4294967296) :
 Calls Tryz.prog 3 #[inV op a off lo hi L, .int .u32 (x : Int), .agg (cells v)] w fun e w' => e = .returned (.bool true) ∧ Below w.heap.size w w' := by
 have HMK := Lib.hid makes_k
 have HSZ := Lib.hid (fun W => rsz_any op W hr)
 have HA := Lib.hid (fun (h : vszN op ≠ 0) => acct_any op h)
 have HIS := Lib.hid (fun (h : vszN op = 0) W => memis_k op W hr h)
 obtain ⟨z, hz⟩ : ∃ z, z = vszN op := ⟨_, rfl⟩
 rw [← hz] at HSZ HA HIS
 clear hz
 unfold inV
 go_enter Tryz.func3, Tryz.ntmps3
 go_upto_region 3 with (go_at_call 4; refine (HMK.out _).mono ?_; rintro e u1 ⟨rfl, hb1⟩)
 have hI := blk_keep (heap_alloc2_old w (.cells #[.int .i64 op, .int .i64 a, .int .i64 off, .int .u64 (lo : Int), .int .u64 hi, L] 25) (.cells (cells v) 28)) hb1
 have hV := blk_keep (heap_alloc2_new w (.cells #[.int .i64 op, .int .i64 a, .int .i64 off, .int .u64 (lo : Int), .int .u64 hi, L] 25) (.cells (cells v) 28)) hb1
 have hbw : Below w.heap.size w u1 := (((Below.refl _ _).alloc (Nat.le_refl _) _).alloc (by simp) _).trans (hb1.mono (by simp; omega))
 have HBW := Lib.hid hbw
 clear hb1 hbw
 by_cases hz0 : z = 0
 ·have HIS2 := Lib.hid (HIS.out hz0)
  subst hz0
  clear HIS HA
  go_wp2_with (first | ((with_reducible refine load_w ?_ 3 isAgg_int _ rfl _ _ rfl _ _ hI _ rfl ?_); (focus rfl)) | (go_at_call 5; (with_reducible refine (HSZ.out _).mono ?_); rintro e u2 ⟨rfl, hu2⟩; obtain rfl := hu2.symm) | (go_at_call 6; (with_reducible refine (HIS2.out _).mono ?_); rintro e u3 ⟨rfl, hu3⟩; obtain rfl := hu3.symm))
  go_ret
  exact ⟨rfl, HBW.out⟩
 ·have HA2 := Lib.hid (HA.out hz0)
  have tz : (z == 0) = false := beq_eq_false_iff_ne.2 hz0
  clear HIS HA hz0
  go_upto_region 6 with (first | ((with_reducible refine load_w ?_ 3 isAgg_int _ rfl _ _ rfl _ _ hI _ rfl ?_); (focus rfl)) | (go_at_call 5; (with_reducible refine (HSZ.out _).mono ?_); rintro e u2 ⟨rfl, hu2⟩; obtain rfl := hu2.symm))
  have HI := Lib.hid hI
  have HV := Lib.hid hV
  clear hI hV
  go_loopw [7] (fun iv wr => ∃ i : Nat, i ≤ 3 ∧ iv = .int .i64 (i : Int) ∧ Hid (Below u1.heap.size u1 wr)) (fun iv _ => 3 - (intOf iv).toNat)
  case atStart => exact ⟨0, by decide, rfl, Lib.hid (Below.refl _ _)⟩
  case round =>
   obtain ⟨i, hi3, rfl, HB⟩ := hrel
   have hI := blk_keep HI.out HB.out
   have hV := blk_keep HV.out HB.out
   by_cases hlt : i < 3
   ·go_wp2_with (first | ((with_reducible refine load_ins ?_ _ rfl _ rfl _ _ _ _ _ _ hI ?_); (focus rfl)) | (with_reducible refine load_vec rfl _ rfl _ rfl _ hV ?_) | (go_at_call 7; refine (HA2.out a off lo hi L x v i _ (by omega) hx).mono ?_; rintro e u4 ⟨rfl, hb4⟩))
    exact ⟨⟨i + 1, by omega, by go_num, Lib.hid (HB.out.trans (hb4.mono HB.out.size))⟩, by simp [intOf]; omega⟩
   ·obtain rfl : i = 3 := by omega
    go_wp2_with fail
    go_ret
    exact ⟨rfl, HBW.out.trans (HB.out.mono HBW.out.size)⟩
end Go.Proofs.YtmfmokblmipagaaGreat
end
