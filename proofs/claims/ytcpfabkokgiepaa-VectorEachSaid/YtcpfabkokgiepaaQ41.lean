/-
  Texts VcAw, VcRt, VcRj.
-/
import Derived.Test.YtcpfabkokgiepaaQ25
import Derived.Test.YtcpfabkokgiepaaQ30
import Derived.Test.YtcpfabkokgiepaaQ31
import Derived.Test.YtcpfabkokgiepaaQ32
import Derived.Test.YtcpfabkokgiepaaQ34
import Derived.Test.YtcpfabkokgiepaaQ35
import Derived.Test.YtcpfabkokgiepaaQ36
import Derived.Test.YtcpfabkokgiepaaQ37
import Derived.Test.YtcpfabkokgiepaaQ38
import Derived.Test.YtcpfabkokgiepaaQ39
import Derived.Test.YtcpfabkokgiepaaQ40
import Derived.Deep.Cut
set_option linter.unusedSimpArgs false
set_option linter.unusedVariables false
set_option maxHeartbeats 8000000
open Pl
section
namespace Go.Proofs.Ytcpfabkokgiepaa
open Go.RowKit Pl
theorem DoIs.view {B : Nat} {R : List Nat × Int} {e : Ending} {w : World} (h : DoIs B R e w) : ∃ rv, e = .returned (.tuple #[rv, .int .i64 R.2]) ∧ LView .u64 w rv (R.1.map Nat.cast) := by
 obtain ⟨rv, he, hx⟩ := h.ex
 refine ⟨rv, he, ?_⟩
 rcases hx with ⟨h1, rfl⟩ | ⟨h1, b, _, rfl, hb⟩
 ·rw [h1]
  exact ⟨none, 0, rfl, Nat.le_refl _, .inl rfl⟩
 ·refine ⟨_, R.1.length, by rw [List.length_map], by rw [List.length_map]; exact Nat.le_refl _, .inr ⟨b, 0, rfl, mF hb, fun i z hi => ?_⟩⟩
  rw [Nat.zero_add, cell_of_row w b i _ _ _ hb]
  rw [List.getElem?_map] at hi
  simp only [List.getElem?_toArray, List.getElem?_map]
  cases hr : R.1[i]? with
  | none => rw [hr] at hi; cases hi
  | some n => rw [hr] at hi; injection hi with hi; subst hi; rfl
theorem lv_lit {w : World} {b : Nat} (l : List Int) (h : w.heap[b]? = some (.cells (l.map (Value.int .u64)).toArray 22 (0, 0))) : LView .u64 w (.slice (some ⟨b, 0, none⟩) l.length l.length) l :=
 ⟨_, _, rfl, Nat.le_refl _, .inr ⟨b, 0, rfl, mF h, fun i z hi => by rw [Nat.zero_add, cell_of_row w b i _ _ _ h]; simp [hi]⟩⟩
theorem same_tt (x y : Value) (l : List Int) (w : World) (hx : LView .u64 w x l) (hy : LView .u64 w y l) (hl : l.length ≤ 1000) : Calls Try.prog 12 #[x, y] w fun e w' => e = .returned (.bool true) ∧ Below w.heap.size w w' := by
 have := same_k x y l l w hx hy hl
 simpa using this
theorem same_two (x : Value) (a b : Int) (w : World) (b0 : Nat) (hx : LView .u64 w x [a, b]) (hb : w.heap[b0]? = some (.cells #[.int .u64 a, .int .u64 b] 22 (0, 0))) : Calls Try.prog 12 #[x, .slice (some ⟨b0, 0, none⟩) 2 2] w fun e w' => e = .returned (.bool true) ∧ Below w.heap.size w w' :=
 same_tt x _ [a, b] w hx (lv_lit [a, b] hb) (by decide : (2 : Nat) ≤ 1000)
theorem aw1 : doV 64878 0 0 0 [72340172838076673, 72340172838076673, 144680345676153346, 144680345676153346] = ([217020518514230019, 217020518514230019], 0) := by decide +kernel
theorem aw2 : doV 64785 0 0 0 [4294967301] = ([21474836485, 21474836485], 0) := by decide +kernel
theorem aw3 : doV 64768 0 0 0 [1] = ([], 1) := by decide +kernel
theorem aw4 : isB 64878 = true := by decide +kernel
theorem do_lit (op : Int) (hs : List Nat) (R : List Nat × Int) (hR : doV op 0 0 0 hs = R) (w : World) (b : Nat) (ho : -9223372036854775808 ≤ op ∧ op ≤ 9223372036854775807) (hl : ∀ x ∈ hs, x < 18446744073709551616)
 (hb : w.heap[b]? = some (.cells ((hs.map (Nat.cast : Nat → Int)).map (Value.int .u64)).toArray 22 (0, 0))) :
 Calls Try.prog 10 #[.agg #[.int .i64 op, .int .i64 0, .int .i64 0, .int .u64 0, .int .u64 0, .slice none 0 0], .slice (some ⟨b, 0, none⟩) hs.length hs.length] w fun e w' => (∃ rv, e = .returned (.tuple #[rv, .int .i64 R.2]) ∧ LView .u64 w' rv (R.1.map Nat.cast)) ∧ Below w.heap.size w w' := by
 have hv := lv_lit _ hb
 rw [List.length_map] at hv
 refine (do_k op 0 0 0 0 (.slice none 0 0) _ hs w ho hv hl).mono fun e w' h => ⟨?_, h.2⟩
 rw [hR] at h
 exact h.1.view
set_option maxRecDepth 100000 in
theorem awake_k (w : World) : Calls Try.prog 9 #[] w fun e w' => e = .returned (.bool true) ∧ Below w.heap.size w w' := by
 go_enter Try.func9, Try.ntmps9
 go_upto_region 2 with (first | (go_at_call 10; refine (do_lit 64878 [72340172838076673, 72340172838076673, 144680345676153346, 144680345676153346] ([217020518514230019, 217020518514230019], 0) aw1 _ _ (by decide) (by decide) (heap_alloc_new _ _)).mono ?_; rintro e u1 ⟨⟨r1, rfl, hv1⟩, hb1⟩))
 have hZ1 := mB (Below.refl w.heap.size w) (Nat.le_refl _) _ hb1
 clear hb1
 go_upto_region 3 with (first | (go_at_call 10; refine (do_lit 64785 [4294967301] ([21474836485, 21474836485], 0) aw2 _ _ (by decide) (by decide) (heap_alloc_new _ _)).mono ?_; rintro e u2 ⟨⟨r2, rfl, hv2⟩, hb2⟩))
 have hZ2 := mB hZ1 (Nat.le_refl _) _ hb2
 replace hv1 := hv1.below (mB (Below.refl u1.heap.size u1) (Nat.le_refl _) _ hb2)
 clear hb2 hZ1
 go_upto_region 4 with (first | (go_at_call 10; refine (do_lit 64768 [1] ([], 1) aw3 _ _ (by decide) (by decide) (heap_alloc_new _ _)).mono ?_; rintro e u3 ⟨⟨r3, rfl, hv3⟩, hb3⟩))
 have hZ3 := mB hZ2 (Nat.le_refl _) _ hb3
 replace hv1 := hv1.below (mB (Below.refl u2.heap.size u2) (Nat.le_refl _) _ hb3)
 replace hv2 := hv2.below (mB (Below.refl u2.heap.size u2) (Nat.le_refl _) _ hb3)
 clear hb3 hZ2
 replace hv1 : LView .u64 u3 r1 [217020518514230019, 217020518514230019] := hv1
 replace hv2 : LView .u64 u3 r2 [21474836485, 21474836485] := hv2
 have hB4 := fun W => is_k 64878 W (by decide)
 rw [aw4] at hB4
 have HB4 := Lib.hid hB4
 clear hB4
 go_wp2_with (first
  | (go_at_call 12; (with_reducible refine (same_two r1 _ _ _ _ (hv1.below ((Below.refl _ _).alloc (Nat.le_refl _) _)) (heap_alloc_new _ _)).mono ?_); rintro e u4 ⟨rfl, hb4⟩; have hZ4 := mB hZ3 (Nat.le_refl _) _ hb4; have hv3' := hv2.below (mB (Below.refl u3.heap.size u3) (Nat.le_refl _) _ hb4))
  | (go_at_call 12; (with_reducible refine (same_two r2 _ _ _ _ (hv3'.below ((Below.refl _ _).alloc (Nat.le_refl _) _)) (heap_alloc_new _ _)).mono ?_); rintro e u5 ⟨rfl, hb5⟩; have hZ5 := mB hZ4 (Nat.le_refl _) _ hb5)
  | (go_at_call 13; refine (HB4.out _).mono ?_; rintro e u6 ⟨rfl, hb6⟩; have hZ6 := hZ5.trans (hb6.mono hZ5.size)))
 go_ret
 exact ⟨rfl, hZ6⟩
end Go.Proofs.Ytcpfabkokgiepaa
end
section
namespace Go.Proofs.Ytcpfabkokgiepaa
open Go.RowKit Pl
end Go.Proofs.Ytcpfabkokgiepaa
namespace Pl
open Go
open Go.Proofs.Ytcpfabkokgiepaa
def rowsT : List (List UInt8) := [
 [48, 32, 48, 32, 49, 32, 48, 32, 45],
 [49, 32, 49, 32, 49, 32, 48, 32, 58],
 [50, 32, 52, 32, 50, 32, 48, 32, 45],
 [53, 32, 53, 32, 49, 32, 48, 32, 45],
 [98, 32, 98, 32, 49, 32, 48, 32, 45],
 [99, 32, 100, 32, 51, 32, 48, 32, 45],
 [101, 32, 101, 32, 52, 32, 48, 32, 45],
 [102, 32, 102, 32, 49, 32, 48, 32, 45],
 [49, 48, 32, 49, 48, 32, 53, 32, 48, 32, 45],
 [49, 49, 32, 49, 49, 32, 54, 32, 48, 32, 45],
 [49, 97, 32, 49, 98, 32, 49, 32, 48, 32, 45],
 [50, 48, 32, 50, 52, 32, 53, 32, 48, 32, 45],
 [50, 56, 32, 50, 56, 32, 55, 32, 50, 32, 105, 58, 105],
 [50, 57, 32, 50, 57, 32, 55, 32, 51, 32, 105, 58, 108],
 [50, 99, 32, 50, 100, 32, 55, 32, 48, 32, 105, 58, 105],
 [50, 101, 32, 50, 102, 32, 55, 32, 49, 32, 105, 58, 105],
 [51, 48, 32, 51, 49, 32, 55, 32, 48, 32, 105, 58, 108],
 [51, 50, 32, 51, 51, 32, 55, 32, 49, 32, 105, 58, 108],
 [51, 52, 32, 51, 53, 32, 55, 32, 50, 32, 105, 58, 108],
 [51, 54, 32, 51, 54, 32, 55, 32, 50, 32, 105, 105, 58],
 [51, 55, 32, 51, 55, 32, 55, 32, 51, 32, 105, 108, 58],
 [51, 97, 32, 51, 97, 32, 55, 32, 48, 32, 105, 105, 58],
 [51, 98, 32, 51, 98, 32, 55, 32, 49, 32, 105, 105, 58],
 [51, 99, 32, 51, 99, 32, 55, 32, 48, 32, 105, 108, 58],
 [51, 100, 32, 51, 100, 32, 55, 32, 49, 32, 105, 108, 58],
 [51, 101, 32, 51, 101, 32, 55, 32, 50, 32, 105, 108, 58],
 [51, 102, 32, 51, 102, 32, 49, 52, 32, 48, 32, 58, 105],
 [52, 48, 32, 52, 48, 32, 49, 52, 32, 48, 32, 105, 58, 105],
 [52, 49, 32, 52, 49, 32, 57, 32, 48, 32, 58, 105],
 [52, 50, 32, 52, 50, 32, 49, 48, 32, 48, 32, 58, 108],
 [52, 53, 32, 52, 53, 32, 49, 32, 48, 32, 105, 58, 105],
 [52, 54, 32, 52, 102, 32, 49, 32, 48, 32, 105, 105, 58, 105],
 [53, 48, 32, 53, 48, 32, 49, 32, 48, 32, 108, 58, 105],
 [53, 49, 32, 53, 97, 32, 49, 32, 48, 32, 108, 108, 58, 105],
 [54, 55, 32, 54, 57, 32, 49, 32, 48, 32, 105, 58, 105],
 [54, 97, 32, 55, 56, 32, 49, 32, 48, 32, 105, 105, 58, 105],
 [55, 57, 32, 55, 98, 32, 49, 32, 48, 32, 108, 58, 108],
 [55, 99, 32, 56, 97, 32, 49, 32, 48, 32, 108, 108, 58, 108],
 [97, 55, 32, 97, 55, 32, 49, 32, 48, 32, 108, 58, 105],
 [97, 99, 32, 97, 100, 32, 49, 32, 48, 32, 105, 58, 108],
 [99, 48, 32, 99, 49, 32, 49, 32, 48, 32, 105, 58, 105],
 [99, 50, 32, 99, 52, 32, 49, 32, 48, 32, 108, 58, 108],
 [102, 100, 48, 48, 32, 102, 100, 48, 48, 32, 55, 32, 52, 32, 105, 58, 118],
 [102, 100, 48, 49, 32, 102, 100, 48, 54, 32, 55, 32, 51, 32, 105, 58, 118],
 [102, 100, 48, 55, 32, 102, 100, 48, 55, 32, 55, 32, 48, 32, 105, 58, 118],
 [102, 100, 48, 56, 32, 102, 100, 48, 56, 32, 55, 32, 49, 32, 105, 58, 118],
 [102, 100, 48, 57, 32, 102, 100, 48, 57, 32, 55, 32, 50, 32, 105, 58, 118],
 [102, 100, 48, 97, 32, 102, 100, 48, 97, 32, 55, 32, 51, 32, 105, 58, 118],
 [102, 100, 48, 98, 32, 102, 100, 48, 98, 32, 55, 32, 52, 32, 105, 118, 58],
 [102, 100, 48, 99, 32, 102, 100, 48, 99, 32, 49, 49, 32, 48, 32, 58, 118],
 [102, 100, 48, 100, 32, 102, 100, 48, 100, 32, 49, 50, 32, 48, 32, 118, 118, 58, 118],
 [102, 100, 48, 101, 32, 102, 100, 48, 101, 32, 49, 32, 48, 32, 118, 118, 58, 118],
 [102, 100, 48, 102, 32, 102, 100, 49, 49, 32, 49, 32, 48, 32, 105, 58, 118],
 [102, 100, 49, 50, 32, 102, 100, 49, 50, 32, 49, 32, 48, 32, 108, 58, 118],
 [102, 100, 49, 53, 32, 102, 100, 49, 54, 32, 49, 51, 32, 49, 54, 32, 118, 58, 105],
 [102, 100, 49, 55, 32, 102, 100, 49, 55, 32, 49, 51, 32, 49, 54, 32, 118, 105, 58, 118],
 [102, 100, 49, 56, 32, 102, 100, 49, 57, 32, 49, 51, 32, 56, 32, 118, 58, 105],
 [102, 100, 49, 97, 32, 102, 100, 49, 97, 32, 49, 51, 32, 56, 32, 118, 105, 58, 118],
 [102, 100, 49, 98, 32, 102, 100, 49, 98, 32, 49, 51, 32, 52, 32, 118, 58, 105],
 [102, 100, 49, 99, 32, 102, 100, 49, 99, 32, 49, 51, 32, 52, 32, 118, 105, 58, 118],
 [102, 100, 49, 100, 32, 102, 100, 49, 100, 32, 49, 51, 32, 50, 32, 118, 58, 108],
 [102, 100, 49, 101, 32, 102, 100, 49, 101, 32, 49, 51, 32, 50, 32, 118, 108, 58, 118],
 [102, 100, 50, 51, 32, 102, 100, 52, 48, 32, 49, 32, 48, 32, 118, 118, 58, 118],
 [102, 100, 52, 100, 32, 102, 100, 52, 100, 32, 49, 32, 48, 32, 118, 58, 118],
 [102, 100, 52, 101, 32, 102, 100, 53, 49, 32, 49, 32, 48, 32, 118, 118, 58, 118],
 [102, 100, 53, 50, 32, 102, 100, 53, 50, 32, 49, 32, 48, 32, 118, 118, 118, 58, 118],
 [102, 100, 53, 51, 32, 102, 100, 53, 51, 32, 49, 32, 48, 32, 118, 58, 105],
 [102, 100, 53, 52, 32, 102, 100, 53, 52, 32, 56, 32, 48, 32, 105, 118, 58, 118],
 [102, 100, 53, 53, 32, 102, 100, 53, 53, 32, 56, 32, 49, 32, 105, 118, 58, 118],
 [102, 100, 53, 54, 32, 102, 100, 53, 54, 32, 56, 32, 50, 32, 105, 118, 58, 118],
 [102, 100, 53, 55, 32, 102, 100, 53, 55, 32, 56, 32, 51, 32, 105, 118, 58, 118],
 [102, 100, 53, 56, 32, 102, 100, 53, 56, 32, 56, 32, 48, 32, 105, 118, 58],
 [102, 100, 53, 57, 32, 102, 100, 53, 57, 32, 56, 32, 49, 32, 105, 118, 58],
 [102, 100, 53, 97, 32, 102, 100, 53, 97, 32, 56, 32, 50, 32, 105, 118, 58],
 [102, 100, 53, 98, 32, 102, 100, 53, 98, 32, 56, 32, 51, 32, 105, 118, 58],
 [102, 100, 53, 99, 32, 102, 100, 53, 99, 32, 55, 32, 50, 32, 105, 58, 118],
 [102, 100, 53, 100, 32, 102, 100, 53, 100, 32, 55, 32, 51, 32, 105, 58, 118],
 [102, 100, 54, 48, 32, 102, 100, 54, 50, 32, 49, 32, 48, 32, 118, 58, 118],
 [102, 100, 54, 51, 32, 102, 100, 54, 52, 32, 49, 32, 48, 32, 118, 58, 105],
 [102, 100, 54, 53, 32, 102, 100, 54, 54, 32, 49, 32, 48, 32, 118, 118, 58, 118],
 [102, 100, 54, 98, 32, 102, 100, 54, 100, 32, 49, 32, 48, 32, 118, 105, 58, 118],
 [102, 100, 54, 101, 32, 102, 100, 55, 51, 32, 49, 32, 48, 32, 118, 118, 58, 118],
 [102, 100, 55, 54, 32, 102, 100, 55, 57, 32, 49, 32, 48, 32, 118, 118, 58, 118],
 [102, 100, 55, 98, 32, 102, 100, 55, 98, 32, 49, 32, 48, 32, 118, 118, 58, 118],
 [102, 100, 55, 99, 32, 102, 100, 56, 49, 32, 49, 32, 48, 32, 118, 58, 118],
 [102, 100, 56, 50, 32, 102, 100, 56, 50, 32, 49, 32, 48, 32, 118, 118, 58, 118],
 [102, 100, 56, 51, 32, 102, 100, 56, 52, 32, 49, 32, 48, 32, 118, 58, 105],
 [102, 100, 56, 53, 32, 102, 100, 56, 54, 32, 49, 32, 48, 32, 118, 118, 58, 118],
 [102, 100, 56, 55, 32, 102, 100, 56, 97, 32, 49, 32, 48, 32, 118, 58, 118],
 [102, 100, 56, 98, 32, 102, 100, 56, 100, 32, 49, 32, 48, 32, 118, 105, 58, 118],
 [102, 100, 56, 101, 32, 102, 100, 57, 51, 32, 49, 32, 48, 32, 118, 118, 58, 118],
 [102, 100, 57, 53, 32, 102, 100, 57, 57, 32, 49, 32, 48, 32, 118, 118, 58, 118],
 [102, 100, 57, 98, 32, 102, 100, 57, 102, 32, 49, 32, 48, 32, 118, 118, 58, 118],
 [102, 100, 97, 48, 32, 102, 100, 97, 49, 32, 49, 32, 48, 32, 118, 58, 118],
 [102, 100, 97, 51, 32, 102, 100, 97, 52, 32, 49, 32, 48, 32, 118, 58, 105],
 [102, 100, 97, 55, 32, 102, 100, 97, 97, 32, 49, 32, 48, 32, 118, 58, 118],
 [102, 100, 97, 98, 32, 102, 100, 97, 100, 32, 49, 32, 48, 32, 118, 105, 58, 118],
 [102, 100, 97, 101, 32, 102, 100, 97, 101, 32, 49, 32, 48, 32, 118, 118, 58, 118],
 [102, 100, 98, 49, 32, 102, 100, 98, 49, 32, 49, 32, 48, 32, 118, 118, 58, 118],
 [102, 100, 98, 53, 32, 102, 100, 98, 97, 32, 49, 32, 48, 32, 118, 118, 58, 118],
 [102, 100, 98, 99, 32, 102, 100, 98, 102, 32, 49, 32, 48, 32, 118, 118, 58, 118],
 [102, 100, 99, 48, 32, 102, 100, 99, 49, 32, 49, 32, 48, 32, 118, 58, 118],
 [102, 100, 99, 51, 32, 102, 100, 99, 52, 32, 49, 32, 48, 32, 118, 58, 105],
 [102, 100, 99, 55, 32, 102, 100, 99, 97, 32, 49, 32, 48, 32, 118, 58, 118],
 [102, 100, 99, 98, 32, 102, 100, 99, 100, 32, 49, 32, 48, 32, 118, 105, 58, 118],
 [102, 100, 99, 101, 32, 102, 100, 99, 101, 32, 49, 32, 48, 32, 118, 118, 58, 118],
 [102, 100, 100, 49, 32, 102, 100, 100, 49, 32, 49, 32, 48, 32, 118, 118, 58, 118],
 [102, 100, 100, 53, 32, 102, 100, 100, 102, 32, 49, 32, 48, 32, 118, 118, 58, 118]]
def rowsA : List Row := rowsS ++ rowsV
def rowSays (s : List UInt8) (r : Row) : Bool :=
 match dG s with
 | [w0, w1, w2, w3, w4] => decide (s.length ≤ 100) && decide (w0.length ≤ 6) && decide (w1.length ≤ 6) && decide (w2.length ≤ 6) && decide (w3.length ≤ 6) && decide ((uX 16 w0 : Int) = r.fr) && decide ((uX 16 w1 : Int) = r.to) && decide ((uX 10 w2 : Int) = r.form) && decide ((uX 10 w3 : Int) = r.lim) &&
   decide (w4.length ≤ 100) && (if w4 = [45] then r.sig.isEmpty else !r.sig.isEmpty && (w4.contains 58) && decide (tyS (w4.takeWhile (· != 58)) = (fY r.sig).2.1) && decide (tyS (w4.dropWhile (· != 58)) = (fY r.sig).2.2))
 | _ => false
theorem rows_say : (rowsT.zip rowsA).all (fun x => rowSays x.1 x.2) = true := by decide +kernel
theorem rows_len : rowsT.length = 108 ∧ rowsA.length = 108 := by decide +kernel
theorem rows_apart : rowsS.all (fun r => decide (r.to < 64768)) = true ∧ rowsV.all (fun r => decide (64768 ≤ r.fr)) = true := by decide +kernel
theorem find_rowsA (op : Int) : rowsA.find? (d5 op) = pA op := by
 unfold rowsA pA rowsOf
 rw [List.find?_append]
 by_cases h : 64768 ≤ op
 ·rw [if_pos h]
  have : rowsS.find? (d5 op) = none := by
   rw [List.find?_eq_none]
   intro r hr
   have := List.all_eq_true.1 rows_apart.1 r hr
   exact w7
  rw [this]; rfl
 ·rw [if_neg h]
  have : rowsV.find? (d5 op) = none := by
   rw [List.find?_eq_none]
   intro r hr
   have := List.all_eq_true.1 rows_apart.2 r hr
   exact w7
  rw [this]
  cases rowsS.find? (d5 op) <;> rfl
structure Said (s : List UInt8) (r : Row) (w0 w1 w2 w3 w4 : List UInt8) : Prop where
 len : s.length ≤ 100
 ws : dG s = [w0, w1, w2, w3, w4]
 l0 : w0.length ≤ 6
 l1 : w1.length ≤ 6
 l2 : w2.length ≤ 6
 l3 : w3.length ≤ 6
 fr : (uX 16 w0 : Int) = r.fr
 to : (uX 16 w1 : Int) = r.to
 form : (uX 10 w2 : Int) = r.form
 lim : (uX 10 w3 : Int) = r.lim
 l4 : w4.length ≤ 100
 none : w4 = [45] → r.sig = []
 some : w4 ≠ [45] → r.sig.isEmpty = false ∧ w4.contains 58 = true ∧ tyS (w4.takeWhile (· != 58)) = (fY r.sig).2.1 ∧ tyS (w4.dropWhile (· != 58)) = (fY r.sig).2.2
theorem said_at (i : Nat) (s : List UInt8) (r : Row) (hs : rowsT[i]? = some s) (hr : rowsA[i]? = some r) : ∃ w0 w1 w2 w3 w4, Said s r w0 w1 w2 w3 w4 := by
 have h := List.all_eq_true.1 rows_say (s, r) (List.mem_of_getElem? (i := i) (by rw [List.getElem?_zip_eq_some]; exact ⟨hs, hr⟩))
 unfold rowSays at h
 dsimp only at h
 split at h
 ·next w0 w1 w2 w3 w4 hw =>
  simp only [Bool.and_eq_true, decide_eq_true_eq] at h
  obtain ⟨⟨⟨⟨⟨⟨⟨⟨⟨⟨h1, h2⟩, h3⟩, h4⟩, h5⟩, h6⟩, h7⟩, h8⟩, h9⟩, h11⟩, h10⟩ := h
  refine ⟨w0, w1, w2, w3, w4, h1, hw, h2, h3, h4, h5, h6, h7, h8, h9, h11, fun e => ?_, fun e => ?_⟩
  ·rw [if_pos e] at h10
   simpa using h10
  ·rw [if_neg e] at h10
   simp only [Bool.and_eq_true, decide_eq_true_eq, Bool.not_eq_true'] at h10
   exact ⟨h10.1.1.1, h10.1.1.2, h10.1.2, h10.2⟩
 ·cases h
end Pl
namespace Go.Proofs.Ytcpfabkokgiepaa
open Go.RowKit Pl
theorem wpList_tab {ops : Array Oper} {rest : List Oper} {o : Oper} {a : Act} {w : World} {Q : Exit → Act → World → Prop} (hgd : o.guard = none)
 (hr : (execOp a.eval o).run Try.prog w = .ok (.value (.slice (some ⟨w.heap.size, 0, none⟩) 108 108)) (w.alloc (.cells (rowsT.map sV).toArray 9)))
 (h : wpList Try.prog ops Q rest (a.put o.dst (.slice (some ⟨w.heap.size, 0, none⟩) 108 108)) (w.alloc (.cells (rowsT.map sV).toArray 9))) : wpList Try.prog ops Q (o :: rest) a w := by
 refine wpList_plain hgd fun K hK => ?_
 unfold Oper.wp
 rw [hr]
 exact hK _ _ h
set_option maxRecDepth 100000 in
theorem table_s (w : World) : Calls Try.prog 63 #[] w fun e w' => ∃ b, e = .returned (.slice (some ⟨b, 0, none⟩) 108 108) ∧ w'.heap[b]? = some (.cells (rowsT.map sV).toArray 9 (0, 0)) ∧ Below w.heap.size w w' := by
 go_enter Try.func63, Try.ntmps63
 go_wp2_with (first | (refine wpList_tab rfl (by kernel_rfl) ?_))
 skip
 go_ret
 exact ⟨_, rfl, heap_alloc_new _ _, (Below.refl _ _).alloc (Nat.le_refl _) _⟩
end Go.Proofs.Ytcpfabkokgiepaa
end
section
namespace Go.Proofs.Ytcpfabkokgiepaa
open Go.RowKit Pl
theorem wF_in (op : Int) (h : wF op ≠ 0) : 64864 ≤ op ∧ op ≤ 64991 := by
 by_cases c : op < 64864 ∨ 64991 < op
 ·exact absurd (vrow_out op c) h
 ·omega
theorem roffV (op : Int) (ho : -9223372036854775808 ≤ op ∧ op ≤ 9223372036854775807) : ∃ κ : Int, (∀ W, Calls Try.prog 86 #[.int .i64 op] W fun e w' => e = .returned (.int .i64 κ) ∧ Below W.heap.size W w') ∧ (wF op = 0 → κ = -1) ∧ (wF op ≠ 0 → κ = kF op) := by
 by_cases h0 : wF op = 0
 ·exact ⟨-1, fun W => roff_none op W ho h0, fun _ => rfl, fun h => absurd h0 h⟩
 ·have := wF_in op h0
  exact ⟨kF op, fun W => tE op _ W ⟨by omega, by omega⟩ h0 rfl, fun h => absurd h h0, fun _ => rfl⟩
theorem un_list : ∀ j : Fin 128, wF (64864 + (j.val : Int)) ≠ 0 → kF (64864 + (j.val : Int)) ≤ 2 → (64864 + (j.val : Int)) ∈ ([64864, 64865, 64866, 64896, 64897, 64928, 64929, 64960, 64961] : List Int) := by decide +kernel
theorem rau_p (op : Int) (v : Vec) (w : World) (ho : -9223372036854775808 ≤ op ∧ op ≤ 9223372036854775807) :
 Calls Try.prog 76 #[.int .i64 op, .agg (mY v)] w fun e w' => e = .returned (.tuple #[.agg (mY (unV op v).1), .int .i64 (unV op v).2]) ∧ Below w.heap.size w w' := by
 obtain ⟨κ, hO, h0, h1⟩ := roffV op ho
 by_cases hg : wF op ≠ 0 ∧ kF op ≤ 2
 ·have hi := wF_in op hg.1
  have hm := un_list ⟨(op - 64864).toNat, by omega⟩
  have e : (64864 : Int) + (((op - 64864).toNat : Nat) : Int) = op := by omega
  simp only [e] at hm
  have hl := hm hg.1 hg.2
  simp only [List.mem_cons, List.not_mem_nil, or_false] at hl
  clear hm e hO h0 h1 hg hi ho
  rcases hl with rfl | rfl | rfl | rfl | rfl | rfl | rfl | rfl | rfl
  ·exact run_8_0 v w
  ·exact run_8_1 v w
  ·exact run_8_2 v w
  ·exact run_16_0 v w
  ·exact run_16_1 v w
  ·exact run_32_0 v w
  ·exact run_32_1 v w
  ·exact run_64_0 v w
  ·exact run_64_1 v w
 ·unfold unV
  rw [if_neg hg]
  exact run_no op (wF op) κ v w (fun W => tY op W ho) hO (by
   by_cases hw : wF op = 0
   ·exact .inl (by rw [h0 hw]; decide)
   ·rw [h1 hw]; exact .inr (by have : ¬ kF op ≤ 2 := fun c => hg ⟨hw, c⟩; omega))
theorem sh_list : ∀ j : Fin 128, wF (64864 + (j.val : Int)) ≠ 0 → 11 ≤ kF (64864 + (j.val : Int)) → kF (64864 + (j.val : Int)) ≤ 13 → (64864 + (j.val : Int)) ∈ ([64875, 64876, 64877, 64907, 64908, 64909, 64939, 64940, 64941, 64971, 64972, 64973] : List Int) := by decide +kernel
theorem rsh_p (op : Int) (v : Vec) (n : Nat) (w : World) (ho : -9223372036854775808 ≤ op ∧ op ≤ 9223372036854775807) (hn : n < 4294967296) :
 Calls Try.prog 78 #[.int .i64 op, .agg (mY v), .int .u32 (n : Int)] w fun e w' => e = .returned (.tuple #[.agg (mY (shV op v n).1), .int .i64 (shV op v n).2]) ∧ Below w.heap.size w w' := by
 obtain ⟨κ, hO, h0, h1⟩ := roffV op ho
 by_cases hg : wF op ≠ 0 ∧ 11 ≤ kF op ∧ kF op ≤ 13
 ·have hi := wF_in op hg.1
  have hm := sh_list ⟨(op - 64864).toNat, by omega⟩
  have e : (64864 : Int) + (((op - 64864).toNat : Nat) : Int) = op := by omega
  simp only [e] at hm
  have hl := hm hg.1 hg.2.1 hg.2.2
  simp only [List.mem_cons, List.not_mem_nil, or_false] at hl
  clear hm e hO h0 h1 hg hi ho
  rcases hl with rfl | rfl | rfl | rfl | rfl | rfl | rfl | rfl | rfl | rfl | rfl | rfl
  ·exact rsh_8_11 v n _ rfl hn w
  ·exact rsh_8_12 v n _ rfl hn w
  ·exact rsh_8_13 v n _ rfl hn w
  ·exact rsh_16_11 v n _ rfl hn w
  ·exact rsh_16_12 v n _ rfl hn w
  ·exact rsh_16_13 v n _ rfl hn w
  ·exact rsh_32_11 v n _ rfl hn w
  ·exact rsh_32_12 v n _ rfl hn w
  ·exact rsh_32_13 v n _ rfl hn w
  ·exact rsh_64_11 v n _ rfl hn w
  ·exact rsh_64_12 v n _ rfl hn w
  ·exact rsh_64_13 v n _ rfl hn w
 ·unfold shV
  rw [if_neg hg]
  exact rsh_no op (wF op) κ v n w (fun W => tY op W ho) hO (by
   by_cases hw : wF op = 0
   ·exact .inl (by rw [h0 hw]; decide)
   ·rw [h1 hw]
    by_cases h11 : 11 ≤ kF op
    ·exact .inr (by have : ¬ kF op ≤ 13 := fun c => hg ⟨hw, h11, c⟩; omega)
    ·exact .inl (by omega))
theorem bin_list : ∀ j : Fin 128, wF (64864 + (j.val : Int)) ≠ 0 → 14 ≤ kF (64864 + (j.val : Int)) → (wF (64864 + (j.val : Int)) = 8 ∧ 64864 + (j.val : Int) = 64864 + kF (64864 + (j.val : Int)) ∧ kF (64864 + (j.val : Int)) ∈ ([14, 15, 16, 17, 18, 19, 22, 23, 24, 25, 27] : List Int)) ∨ (wF (64864 + (j.val : Int)) = 16 ∧ 64864 + (j.val : Int) = 64896 + kF (64864 + (j.val : Int)) ∧ kF (64864 + (j.val : Int)) ∈ ([14, 15, 16, 17, 18, 19, 21, 22, 23, 24, 25, 27] : List Int)) ∨ (wF (64864 + (j.val : Int)) = 32 ∧ 64864 + (j.val : Int) = 64928 + kF (64864 + (j.val : Int)) ∧ kF (64864 + (j.val : Int)) ∈ ([14, 17, 21, 22, 23, 24, 25] : List Int)) ∨ (wF (64864 + (j.val : Int)) = 64 ∧ 64864 + (j.val : Int) = 64960 + kF (64864 + (j.val : Int)) ∧ kF (64864 + (j.val : Int)) ∈ ([14, 17, 21] : List Int)) := by decide +kernel
theorem rab_p (op : Int) (a b : Vec) (w : World) (ho : -9223372036854775808 ≤ op ∧ op ≤ 9223372036854775807) :
 Calls Try.prog 79 #[.int .i64 op, .agg (mY a), .agg (mY b)] w fun e w' => e = .returned (.tuple #[.agg (mY (p9 op a b).1), .int .i64 (p9 op a b).2]) ∧ Below w.heap.size w w' := by
 obtain ⟨κ, hO, h0, h1⟩ := roffV op ho
 by_cases hg : wF op ≠ 0 ∧ 14 ≤ kF op
 ·have hi := wF_in op hg.1
  have hm := bin_list ⟨(op - 64864).toNat, by omega⟩
  have e : (64864 : Int) + (((op - 64864).toNat : Nat) : Int) = op := by omega
  simp only [e] at hm
  have hl := hm hg.1 hg.2
  unfold p9
  rw [if_pos hg]
  have hk0 : kF op = ((kF op).toNat : Int) := by omega
  generalize (kF op).toNat = k at hk0 ⊢
  rw [hk0] at hl
  simp only [List.mem_cons, List.not_mem_nil, or_false] at hl
  clear hm e hO h0 h1 hg hi ho
  rcases hl with ⟨hw, hq, hk⟩ | ⟨hw, hq, hk⟩ | ⟨hw, hq, hk⟩ | ⟨hw, hq, hk⟩
  ·rw [hw]; refine rbin_8 op k ?_ a b w
   rcases hk with hk | hk | hk | hk | hk | hk | hk | hk | hk | hk | hk
   ·exact kD
   ·exact kY
   ·exact kE
   ·exact kU
   ·exact jC
   ·exact jH
   ·exact wY
   ·exact wQ
   ·exact kH
   ·exact kN
   ·exact .inr (.inr (.inr (.inr (.inr (.inr (.inr (.inr (.inr (.inr (⟨by omega, by omega⟩))))))))))
  ·rw [hw]; refine rbin_16 op k ?_ a b w
   rcases hk with hk | hk | hk | hk | hk | hk | hk | hk | hk | hk | hk | hk
   ·exact kD
   ·exact kY
   ·exact kE
   ·exact kU
   ·exact jC
   ·exact jH
   ·exact wY
   ·exact wQ
   ·exact kH
   ·exact kN
   ·exact .inr (.inr (.inr (.inr (.inr (.inr (.inr (.inr (.inr (.inr (.inl ⟨by omega, by omega⟩))))))))))
   ·exact .inr (.inr (.inr (.inr (.inr (.inr (.inr (.inr (.inr (.inr (.inr (⟨by omega, by omega⟩)))))))))))
  ·rw [hw]; refine rbin_32 op k ?_ a b w
   rcases hk with hk | hk | hk | hk | hk | hk | hk
   ·exact kD
   ·exact kY
   ·exact kE
   ·exact kU
   ·exact jC
   ·exact jH
   ·exact .inr (.inr (.inr (.inr (.inr (.inr (⟨by omega, by omega⟩))))))
  ·rw [hw]; refine rbin_64 op k ?_ a b w
   rcases hk with hk | hk | hk
   ·exact kD
   ·exact kY
   ·exact .inr (.inr (⟨by omega, by omega⟩))
 ·unfold p9
  rw [if_neg hg]
  exact rbin_no op (wF op) κ a b w (fun W => tY op W ho) hO (by
   by_cases hw : wF op = 0
   ·rw [h0 hw]; decide
   ·rw [h1 hw]; have : ¬ 14 ≤ kF op := fun c => hg ⟨hw, c⟩; omega)
theorem rbits_p (op : Int) (v : Value) (l : List Vec) (w : World) (ho : -9223372036854775808 ≤ op ∧ op ≤ 9223372036854775807) (hv : VSl w v l) (hl : l.length ≤ 9223372036854775807) :
 Calls Try.prog 75 #[.int .i64 op, v] w fun e w' => e = .returned (.tuple #[.agg (mY (rT op l).1), .int .i64 (rT op l).2]) ∧ Below w.heap.size w w' := by
 obtain ⟨g, c, rfl, hlt, hx⟩ := hv.ex
 match l, hx with
 | [], hx => exact rbits_no op _ _ _ w ho hl (by simp)
 | [a], hx =>
   have h0 := hx 0 a rfl
   unfold rT
   by_cases h : op = 64845
   ·subst h; exact rbits_77 a w g c 0 hlt h0
   ·simp only [h, if_false]
    exact w6
 | [a, b], hx =>
   have h0 := hx 0 a rfl
   have h1 := hx 1 b rfl
   unfold rT
   by_cases h : op = 64846
   ·subst h; exact rbits_78 a b w g c 0 hlt h0 h1
   ·by_cases h2 : op = 64847
    ·subst h2; exact rbits_79 a b w g c 0 hlt h0 h1
    ·by_cases h3 : op = 64848
     ·subst h3; exact rbits_80 a b w g c 0 hlt h0 h1
     ·by_cases h4 : op = 64849
      ·subst h4; exact rbits_81 a b w g c 0 hlt h0 h1
      ·simp only [h, h2, h3, h4, if_false]
       exact w6
 | [a, b, d], hx =>
   have h0 := hx 0 a rfl
   have h1 := hx 1 b rfl
   have h2 := hx 2 d rfl
   unfold rT
   by_cases h : op = 64850
   ·subst h; exact rbits_82 a b d w g c 0 hlt h0 h1 h2
   ·simp only [h, if_false]
    exact w6
 | _ :: _ :: _ :: _ :: r, hx => exact rbits_no op _ _ _ w ho hl (by simp)
end Go.Proofs.Ytcpfabkokgiepaa
end
