/-
  Texts CmpBn, VcN, CmpRB77, CmpRB78, CmpRB79, CmpRB80, CmpRB81, CmpRB82, CmpRP, WidRBA.
-/
import Derived.Test.YtcpfabkokgiepaaQ07
import Derived.Test.YtcpfabkokgiepaaQ11
import Derived.Test.YtcpfabkokgiepaaQ17
import Derived.Test.YtcpfabkokgiepaaQ21
import Derived.Test.YtcpfabkokgiepaaQ22
import Derived.Test.YtcpfabkokgiepaaQ23
import Derived.Test.YtcpfabkokgiepaaQ24
set_option linter.unusedSimpArgs false
set_option linter.unusedVariables false
set_option maxHeartbeats 8000000
open Pl
section
namespace Go.Proofs.Ytcpfabkokgiepaa
open Go.RowKit Pl
theorem sub_op (op : Int) (ho : -9223372036854775808 ≤ op ∧ op ≤ 9223372036854775807) : ∃ K : Int, IntKind.i64.wrap (op - 64768) = K ∧ (77 ≤ K ∧ K ≤ 82 → op = 64768 + K) ∧ (-9223372036854775808 ≤ K ∧ K ≤ 9223372036854775807) := by
 refine ⟨_, rfl, fun hb => ?_, ?_⟩
 ·rw [IntKind.wrap_i64] at hb ⊢; omega
 ·rw [IntKind.wrap_i64]; omega
set_option maxRecDepth 100000 in
theorem bits_no (op : Int) (ad : Option Addr) (m cap : Nat) (w : World) (ho : -9223372036854775808 ≤ op ∧ op ≤ 9223372036854775807) (hm : m ≤ 9223372036854775807)
 (h : ¬ (op = 64845 ∧ m = 1 ∨ 64846 ≤ op ∧ op ≤ 64849 ∧ m = 2 ∨ op = 64850 ∧ m = 3)) :
 Calls Try.prog 19 #[.int .i64 op, .slice ad m cap] w fun e w' => e = .returned (.tuple #[.agg (mY 0), .int .i64 1]) ∧ Below w.heap.size w w' := by
 obtain ⟨K, hK, hw, hKb⟩ := sub_op op ho
 have hx : ∀ x, Below w.heap.size w (w.alloc x) := fun x => (Below.refl _ _).alloc (Nat.le_refl _) x
 by_cases h1 : K < 77
 ·exact m9
 ·by_cases h2 : 82 < K
  ·exact m9
  ·have hop := hw (by omega)
   clear hw hKb ho
   rcases (show K = 77 ∨ K = 78 ∨ K = 79 ∨ K = 80 ∨ K = 81 ∨ K = 82 by omega) with rfl | rfl | rfl | rfl | rfl | rfl
   ·have hq : ((m : Int) != 1) = true := bne_iff_ne.2 (by omega)
    clear h hop
    exact nG
   ·exact n7
   ·exact n7
   ·exact n7
   ·exact n7
   ·have hq : ((m : Int) != 3) = true := bne_iff_ne.2 (by omega)
    clear h hop
    exact nG
set_option maxRecDepth 100000 in
theorem rbits_no (op : Int) (ad : Option Addr) (m cap : Nat) (w : World) (ho : -9223372036854775808 ≤ op ∧ op ≤ 9223372036854775807) (hm : m ≤ 9223372036854775807)
 (h : ¬ (op = 64845 ∧ m = 1 ∨ 64846 ≤ op ∧ op ≤ 64849 ∧ m = 2 ∨ op = 64850 ∧ m = 3)) :
 Calls Try.prog 75 #[.int .i64 op, .slice ad m cap] w fun e w' => e = .returned (.tuple #[.agg (mY 0), .int .i64 1]) ∧ Below w.heap.size w w' := by
 obtain ⟨K, hK, hw, hKb⟩ := sub_op op ho
 have hx : ∀ x, Below w.heap.size w (w.alloc x) := fun x => (Below.refl _ _).alloc (Nat.le_refl _) x
 by_cases h1 : K < 77
 ·exact m7
 ·by_cases h2 : 82 < K
  ·exact m7
  ·have hop := hw (by omega)
   clear hw hKb ho
   rcases (show K = 77 ∨ K = 78 ∨ K = 79 ∨ K = 80 ∨ K = 81 ∨ K = 82 by omega) with rfl | rfl | rfl | rfl | rfl | rfl
   ·have hq : ((m : Int) != 1) = true := bne_iff_ne.2 (by omega)
    clear h hop
    exact nK
   ·exact n6
   ·exact n6
   ·exact n6
   ·exact n6
   ·have hq : ((m : Int) != 3) = true := bne_iff_ne.2 (by omega)
    clear h hop
    exact nK
end Go.Proofs.Ytcpfabkokgiepaa
end
section
namespace Go.Proofs.Ytcpfabkokgiepaa
open Go.RowKit Pl
set_option maxRecDepth 100000 in
theorem ext_21 (i : Int) (j : Nat) (v : Vec) (w : World) (hj : i = j) (hlt : j < 16) :
 Calls Try.prog 27 #[.int .i64 64789, .int .i64 i, .agg (mY v)] w fun e w' => e = .returned (.tuple #[.int .u64 (((sgn 8 (mT v 8 j)) % 4294967296).toNat : Nat), .int .i64 0]) ∧ Below w.heap.size w w' := by
 have h0 : decide (i < 0) = false := by simp; omega
 have h1 : decide (16 ≤ i) = false := by simp; omega
 have HJ := Lib.hid hj
 clear hj
 go_enter Try.func27, Try.ntmps27
 go_wp2_with (first | (go_at_call 61; refine (lane_21 _).mono ?_; rintro e w1 ⟨rfl, rfl⟩) | (go_at_call 50; ((with_reducible refine (sL _).mono ?_); rintro e w2 ⟨rfl, rfl⟩)) | (with_reducible refine mG rfl _ rfl _ rfl _ (heap_alloc_new _ _) ?_) | (go_at_call 53; refine (vC v i j _ HJ.out hlt).mono ?_; rintro e u ⟨rfl, hb⟩; have hZ := mB (Below.refl w.heap.size w) (Nat.le_refl _) _ hb))
 go_ret2
 refine ⟨?_, hZ⟩
 rw [Int.toNat_of_nonneg (Int.emod_nonneg _ (by decide))]
 first | rfl | (trace_state; rfl)
set_option maxRecDepth 100000 in
theorem ext_22 (i : Int) (j : Nat) (v : Vec) (w : World) (hj : i = j) (hlt : j < 16) :
 Calls Try.prog 27 #[.int .i64 64790, .int .i64 i, .agg (mY v)] w fun e w' => e = .returned (.tuple #[.int .u64 ((mT v 8 j) : Nat), .int .i64 0]) ∧ Below w.heap.size w w' := by
 have h0 : decide (i < 0) = false := by simp; omega
 have h1 : decide (16 ≤ i) = false := by simp; omega
 have HJ := Lib.hid hj
 clear hj
 go_enter Try.func27, Try.ntmps27
 go_wp2_with (first | (go_at_call 61; refine (lane_22 _).mono ?_; rintro e w1 ⟨rfl, rfl⟩) | (go_at_call 50; ((with_reducible refine (sL _).mono ?_); rintro e w2 ⟨rfl, rfl⟩)) | (with_reducible refine mG rfl _ rfl _ rfl _ (heap_alloc_new _ _) ?_) | (go_at_call 51; refine (d7 v i j _ HJ.out hlt).mono ?_; rintro e u ⟨rfl, hb⟩; have hZ := mB (Below.refl w.heap.size w) (Nat.le_refl _) _ hb))
 go_ret2
 exact ⟨rfl, hZ⟩
set_option maxRecDepth 100000 in
theorem ext_24 (i : Int) (j : Nat) (v : Vec) (w : World) (hj : i = j) (hlt : j < 8) :
 Calls Try.prog 27 #[.int .i64 64792, .int .i64 i, .agg (mY v)] w fun e w' => e = .returned (.tuple #[.int .u64 (((sgn 16 (mT v 16 j)) % 4294967296).toNat : Nat), .int .i64 0]) ∧ Below w.heap.size w w' := by
 have h0 : decide (i < 0) = false := by simp; omega
 have h1 : decide (8 ≤ i) = false := by simp; omega
 have HJ := Lib.hid hj
 clear hj
 go_enter Try.func27, Try.ntmps27
 go_wp2_with (first | (go_at_call 61; refine (lane_24 _).mono ?_; rintro e w1 ⟨rfl, rfl⟩) | (go_at_call 50; ((with_reducible refine (rD _).mono ?_); rintro e w2 ⟨rfl, rfl⟩)) | (with_reducible refine mG rfl _ rfl _ rfl _ (heap_alloc_new _ _) ?_) | (go_at_call 53; refine (tB v i j _ HJ.out hlt).mono ?_; rintro e u ⟨rfl, hb⟩; have hZ := mB (Below.refl w.heap.size w) (Nat.le_refl _) _ hb))
 go_ret2
 refine ⟨?_, hZ⟩
 rw [Int.toNat_of_nonneg (Int.emod_nonneg _ (by decide))]
 first | rfl | (trace_state; rfl)
set_option maxRecDepth 100000 in
theorem ext_25 (i : Int) (j : Nat) (v : Vec) (w : World) (hj : i = j) (hlt : j < 8) :
 Calls Try.prog 27 #[.int .i64 64793, .int .i64 i, .agg (mY v)] w fun e w' => e = .returned (.tuple #[.int .u64 ((mT v 16 j) : Nat), .int .i64 0]) ∧ Below w.heap.size w w' := by
 have h0 : decide (i < 0) = false := by simp; omega
 have h1 : decide (8 ≤ i) = false := by simp; omega
 have HJ := Lib.hid hj
 clear hj
 go_enter Try.func27, Try.ntmps27
 go_wp2_with (first | (go_at_call 61; refine (lane_25 _).mono ?_; rintro e w1 ⟨rfl, rfl⟩) | (go_at_call 50; ((with_reducible refine (rD _).mono ?_); rintro e w2 ⟨rfl, rfl⟩)) | (with_reducible refine mG rfl _ rfl _ rfl _ (heap_alloc_new _ _) ?_) | (go_at_call 51; refine (fQ v i j _ HJ.out hlt).mono ?_; rintro e u ⟨rfl, hb⟩; have hZ := mB (Below.refl w.heap.size w) (Nat.le_refl _) _ hb))
 go_ret2
 exact ⟨rfl, hZ⟩
set_option maxRecDepth 100000 in
theorem ext_27 (i : Int) (j : Nat) (v : Vec) (w : World) (hj : i = j) (hlt : j < 4) :
 Calls Try.prog 27 #[.int .i64 64795, .int .i64 i, .agg (mY v)] w fun e w' => e = .returned (.tuple #[.int .u64 ((mT v 32 j) : Nat), .int .i64 0]) ∧ Below w.heap.size w w' := by
 have h0 : decide (i < 0) = false := by simp; omega
 have h1 : decide (4 ≤ i) = false := by simp; omega
 have HJ := Lib.hid hj
 clear hj
 go_enter Try.func27, Try.ntmps27
 go_wp2_with (first | (go_at_call 61; refine (lane_27 _).mono ?_; rintro e w1 ⟨rfl, rfl⟩) | (go_at_call 50; ((with_reducible refine (sX _).mono ?_); rintro e w2 ⟨rfl, rfl⟩)) | (with_reducible refine mG rfl _ rfl _ rfl _ (heap_alloc_new _ _) ?_) | (go_at_call 51; refine (eH v i j _ HJ.out hlt).mono ?_; rintro e u ⟨rfl, hb⟩; have hZ := mB (Below.refl w.heap.size w) (Nat.le_refl _) _ hb))
 go_ret2
 exact ⟨rfl, hZ⟩
set_option maxRecDepth 100000 in
theorem ext_29 (i : Int) (j : Nat) (v : Vec) (w : World) (hj : i = j) (hlt : j < 2) :
 Calls Try.prog 27 #[.int .i64 64797, .int .i64 i, .agg (mY v)] w fun e w' => e = .returned (.tuple #[.int .u64 ((mT v 64 j) : Nat), .int .i64 0]) ∧ Below w.heap.size w w' := by
 have h0 : decide (i < 0) = false := by simp; omega
 have h1 : decide (2 ≤ i) = false := by simp; omega
 have HJ := Lib.hid hj
 clear hj
 go_enter Try.func27, Try.ntmps27
 go_wp2_with (first | (go_at_call 61; refine (lane_29 _).mono ?_; rintro e w1 ⟨rfl, rfl⟩) | (go_at_call 50; ((with_reducible refine (sZ _).mono ?_); rintro e w2 ⟨rfl, rfl⟩)) | (with_reducible refine mG rfl _ rfl _ rfl _ (heap_alloc_new _ _) ?_) | (go_at_call 51; refine (dL v i j _ HJ.out hlt).mono ?_; rintro e u ⟨rfl, hb⟩; have hZ := mB (Below.refl w.heap.size w) (Nat.le_refl _) _ hb))
 go_ret2
 exact ⟨rfl, hZ⟩
theorem ext_no (op i : Int) (z : Int) (lb : Bool) (v : Vec) (w : World) (HK : ∀ W, Calls Try.prog 61 #[.int .i64 op] W fun e w' => e = .returned (.tuple #[.int .i64 z, .bool lb]) ∧ w' = W) (h : z = 0 ∨ lb = true ∨ i < 0 ∨ sE z ≤ i) :
 Calls Try.prog 27 #[.int .i64 op, .int .i64 i, .agg (mY v)] w fun e w' => e = .returned (.tuple #[.int .u64 0, .int .i64 1]) ∧ Below w.heap.size w w' := by
 have HL := Lib.hid HK
 clear HK
 have HLA := Lib.hid (fun W => fH z W)
 obtain ⟨n, hn⟩ : ∃ n, n = sE z := ⟨_, rfl⟩
 rw [← hn] at h HLA
 clear hn
 have hZ : ∀ x, Below w.heap.size w (w.alloc x) := fun x => (Below.refl _ _).alloc (Nat.le_refl _) _
 by_cases hz : z = 0
 ·subst hz
  clear h
  exact gX
 ·have q0 : (z == 0) = false := beq_eq_false_iff_ne.2 hz
  rcases lb with _ | _
  ·by_cases h0 : i < 0
   ·have q1 : decide (i < 0) = true := by simp [h0]
    clear h hz h0
    exact gX
   ·have q1 : decide (i < 0) = false := by simp; omega
    have h4 : n ≤ i := by simp [hz, h0] at h; exact h
    have q2 : decide (n ≤ i) = true := by simp [h4]
    clear h hz h0 h4
    go_enter Try.func27, Try.ntmps27
    go_wp2_with (first | (go_at_call 61; refine (HL.out _).mono ?_; rintro e w1 ⟨rfl, rfl⟩) | (go_at_call 50; refine (HLA.out _).mono ?_; rintro e w2 ⟨rfl, rfl⟩))
    go_ret2
    exact ⟨rfl, hZ _⟩
  ·clear h hz
   exact gX
theorem lanesOf_N (n : Nat) : sE (n : Int) = (lanesN n : Int) := by
 unfold sE lanesN
 by_cases h8 : n = 8
 ·subst h8; rfl
 ·by_cases h16 : n = 16
  ·subst h16; rfl
  ·by_cases h32 : n = 32
   ·subst h32; rfl
   ·by_cases h64 : n = 64
    ·subst h64; rfl
    ·rw [if_neg (by omega), if_neg (by omega), if_neg (by omega), if_neg (by omega), if_neg h8, if_neg h16, if_neg h32, if_neg h64]; rfl
theorem lane_k (κ : Int) (w : World) (h : 0 ≤ κ ∧ κ ≤ 255) : Calls Try.prog 61 #[.int .i64 (64768 + κ)] w fun e w' => e = .returned (.tuple #[.int .i64 ((vF κ).1 : Nat), .bool (vF κ).2]) ∧ w' = w := by
 by_cases hk : 21 ≤ κ ∧ κ ≤ 30
 ·obtain rfl | rfl | rfl | rfl | rfl | rfl | rfl | rfl | rfl | rfl : κ = 21 ∨ κ = 22 ∨ κ = 23 ∨ κ = 24 ∨ κ = 25 ∨ κ = 26 ∨ κ = 27 ∨ κ = 28 ∨ κ = 29 ∨ κ = 30 := by omega
  ·exact lane_21 w
  ·exact lane_22 w
  ·exact lane_23 w
  ·exact lane_24 w
  ·exact lane_25 w
  ·exact lane_26 w
  ·exact lane_27 w
  ·exact lane_28 w
  ·exact lane_29 w
  ·exact lane_30 w
 ·have e : vF κ = (0, false) := by
   unfold vF
   rw [if_neg (by omega), if_neg (by omega), if_neg (by omega), if_neg (by omega), if_neg (by omega), if_neg (by omega), if_neg (by omega), if_neg (by omega)]
  rw [e]
  exact lane_no (64768 + κ) κ w (by rw [show (64768 : Int) + κ - 64768 = κ by omega]; exact IntWalk.i64_in _ (by omega)) (by omega)
theorem ext_k (κ i : Int) (v : Vec) (w : World) (h : 0 ≤ κ ∧ κ ≤ 255) :
 Calls Try.prog 27 #[.int .i64 (64768 + κ), .int .i64 i, .agg (mY v)] w fun e w' => e = .returned (.tuple #[.int .u64 ((sS κ i v).1 : Nat), .int .i64 (sS κ i v).2]) ∧ Below w.heap.size w w' := by
 by_cases hno : (vF κ).1 = 0 ∨ (vF κ).2 = true ∨ i < 0 ∨ (lanesN (vF κ).1 : Int) ≤ i
 ·unfold sS
  rw [if_pos hno]
  refine ext_no (64768 + κ) i _ _ v w (fun W => lane_k κ W h) ?_
  rw [lanesOf_N]
  exact hno.imp (fun h => by rw [h]; rfl) id
 ·have hi : 0 ≤ i := by omega
  obtain ⟨j, rfl⟩ := Int.eq_ofNat_of_zero_le hi
  have e1 : (vF κ).1 ≠ 0 := fun e => hno (.inl e)
  have e2 : (vF κ).2 ≠ true := fun e => hno (.inr (.inl e))
  have e3 : j < lanesN (vF κ).1 := by omega
  unfold sS
  rw [if_neg hno]
  have hk : 21 ≤ κ ∧ κ ≤ 30 := gD
  clear hno hi
  obtain rfl | rfl | rfl | rfl | rfl | rfl | rfl | rfl | rfl | rfl : κ = 21 ∨ κ = 22 ∨ κ = 23 ∨ κ = 24 ∨ κ = 25 ∨ κ = 26 ∨ κ = 27 ∨ κ = 28 ∨ κ = 29 ∨ κ = 30 := by omega
  ·exact ext_21 _ j v w rfl e3
  ·exact ext_22 _ j v w rfl e3
  ·exact kJ
  ·exact ext_24 _ j v w rfl e3
  ·exact ext_25 _ j v w rfl e3
  ·exact kJ
  ·exact ext_27 _ j v w rfl e3
  ·exact kJ
  ·exact ext_29 _ j v w rfl e3
  ·exact kJ
theorem repl_k (κ i : Int) (v : Vec) (x : Nat) (w : World) (h : 0 ≤ κ ∧ κ ≤ 255) :
 Calls Try.prog 26 #[.int .i64 (64768 + κ), .int .i64 i, .agg (mY v), .int .u64 (x : Nat)] w fun e w' => e = .returned (.tuple #[.agg (mY (v7 κ i v x).1), .int .i64 (v7 κ i v x).2]) ∧ Below w.heap.size w w' := by
 by_cases hno : (vF κ).1 = 0 ∨ (vF κ).2 = false ∨ i < 0 ∨ (lanesN (vF κ).1 : Int) ≤ i
 ·unfold v7
  rw [if_pos hno]
  refine repl_no (64768 + κ) i _ _ v x w (fun W => lane_k κ W h) ?_
  rw [lanesOf_N]
  exact hno.imp (fun h => by rw [h]; rfl) id
 ·have hi : 0 ≤ i := by omega
  obtain ⟨j, rfl⟩ := Int.eq_ofNat_of_zero_le hi
  have e1 : (vF κ).1 ≠ 0 := fun e => hno (.inl e)
  have e2 : (vF κ).2 ≠ false := fun e => hno (.inr (.inl e))
  have e3 : j < lanesN (vF κ).1 := by omega
  unfold v7
  rw [if_neg hno]
  have hk : 21 ≤ κ ∧ κ ≤ 30 := gD
  clear hno hi
  obtain rfl | rfl | rfl | rfl | rfl | rfl | rfl | rfl | rfl | rfl : κ = 21 ∨ κ = 22 ∨ κ = 23 ∨ κ = 24 ∨ κ = 25 ∨ κ = 26 ∨ κ = 27 ∨ κ = 28 ∨ κ = 29 ∨ κ = 30 := by omega
  ·exact kJ
  ·exact kJ
  ·exact repl_23 _ j v x w rfl e3
  ·exact kJ
  ·exact kJ
  ·exact repl_26 _ j v x w rfl e3
  ·exact kJ
  ·exact repl_28 _ j v x w rfl e3
  ·exact kJ
  ·exact repl_30 _ j v x w rfl e3
end Go.Proofs.Ytcpfabkokgiepaa
end
section
namespace Go.Proofs.Ytcpfabkokgiepaa
open Go.RowKit Pl
set_option maxRecDepth 100000 in
theorem rbits_77 (a : Vec) (w : World) (B cap off : Nat) (hlt : B < w.heap.size) (hA : w.rangeAt B off (mY a).toList) :
 Calls Try.prog 75 #[.int .i64 64845, .slice (some ⟨B, off, none⟩) 1 cap] w fun e w' => e = .returned (.tuple #[.agg (mY (uP 77 a a a)), .int .i64 0]) ∧ Below w.heap.size w w' := by
 obtain ⟨R, hR⟩ : ∃ R, R = uP 77 a a a := ⟨_, rfl⟩
 rw [← hR]
 have HR := Lib.hid hR
 clear hR
 have HA := Lib.hid hA
 clear hA
 go_enter Try.func75, Try.ntmps75
 go_wp2_with fail
 rw [← mU]
 obtain ⟨W, hW⟩ : ∃ W, W = (w.alloc (.cells (mY 0) 45)).alloc (.cells (mY 0) 45) := ⟨_, rfl⟩
 have hO : W.heap[w.heap.size + 1]? = some (.cells (mY 0) 45 (0, 0)) := by rw [hW]; exact heap_alloc2_new _ _ _
 have hR0 : W.heap[w.heap.size]? = some (.cells (mY 0) 45 (0, 0)) := by rw [hW]; exact heap_alloc2_old _ _ _
 have hZ : Below w.heap.size w W := by rw [hW]; exact ((Below.refl _ _).alloc (Nat.le_refl _) _).alloc (by simp) _
 rw [← hW]
 clear hW
 have hBW : B < W.heap.size := Nat.lt_of_lt_of_le hlt hZ.size
 have hne : B ≠ w.heap.size + 1 := by omega
 replace HA := Lib.hid (mD HA.out hlt hZ)
 go_loopw [9] (fun iv wr => ∃ i : Nat, i ≤ 128 ∧ iv = .int .i64 i ∧ St W (w.heap.size + 1) (vP R i) wr) (fun iv _ => 128 - (intOf iv).toNat)
 case atStart => exact xE
 case round =>
  clear hO
  obtain ⟨i, hi, rfl, hs⟩ := hrel
  by_cases hli : i < 128
  ·have cO := pY hs i hli
   obtain ⟨Ta, hta⟩ : ∃ t, a.toNat.testBit i = t := ⟨_, rfl⟩
   have Ca := fun W => s0 a i W hli
   rw [hta] at Ca
   replace Ca := Lib.hid Ca
   have hyes := dX 77 a a a i hli _ _ _ hta hta hta
   rw [← HR.out] at hyes
   have e1 : (i : Int).tdiv 8 = ((i / 8 : Nat) : Int) := by rw [Int.tdiv_eq_ediv_of_nonneg (by omega)]; omega
   have e2 : (i : Int).tmod 8 = ((i % 8 : Nat) : Int) := by rw [Int.tmod_eq_emod_of_nonneg (by omega)]; omega
   clear hta
   have hnx : R.toNat.testBit i = true → t7 (vP R i) 8 (i / 8) (mT (vP R i) 8 (i / 8) ||| 2 ^ (i % 8)) = vP R (i + 1) := eD R i hli
   have hnn : R.toNat.testBit i = false → vP R (i + 1) = vP R i := fL R i hli
   have HN := Lib.hid hnx
   have HM := Lib.hid hnn
   clear hnx hnn
   cases Ta
   ·skip
    as_aux_lemma =>
    go_wp2_with (first | (with_reducible refine vZ rfl _ rfl _ _ rfl _ (tM HA.out hBW hne hs.kb) ?_) | ((with_reducible refine r7 ?_ _ rfl _ _ rfl _ (tM HA.out hBW hne hs.kb) ?_); (focus rfl)) | (go_at_call 84; (with_reducible refine (Ca.out _).mono ?_); rintro e u ⟨rfl, hb⟩; replace hs := hs.below hb; clear hb; have cO := pY hs i hli) | (refine mP rfl _ _ rfl (w.heap.size + 1) (i / 8) _ (mT (vP R i) 8 (i / 8) ||| 2 ^ (i % 8)) rfl rfl _ hs.this (by omega) (or_byte2 _ _ (mL _ 8 _) (Nat.mod_lt _ (by decide))) ?_; intro wy hy; replace hs := (hs.sets hy).eqX (HN.out hyes).symm))
    go_roundw
    case rel => exact y8
    case measure => exact xL
   ·skip
    as_aux_lemma =>
    go_wp2_with (first | (with_reducible refine vZ rfl _ rfl _ _ rfl _ (tM HA.out hBW hne hs.kb) ?_) | ((with_reducible refine r7 ?_ _ rfl _ _ rfl _ (tM HA.out hBW hne hs.kb) ?_); (focus rfl)) | (go_at_call 84; (with_reducible refine (Ca.out _).mono ?_); rintro e u ⟨rfl, hb⟩; replace hs := hs.below hb; clear hb; have cO := pY hs i hli))
    go_roundw
    case rel => exact y0
    case measure => exact xL
  ·exact y5
end Go.Proofs.Ytcpfabkokgiepaa
end
section
namespace Go.Proofs.Ytcpfabkokgiepaa
open Go.RowKit Pl
set_option maxRecDepth 100000 in
theorem rbits_78 (a b : Vec) (w : World) (B cap off : Nat) (hlt : B < w.heap.size) (hA : w.rangeAt B off (mY a).toList) (hB : w.rangeAt B (off + 16) (mY b).toList) :
 Calls Try.prog 75 #[.int .i64 64846, .slice (some ⟨B, off, none⟩) 2 cap] w fun e w' => e = .returned (.tuple #[.agg (mY (uP 78 a b b)), .int .i64 0]) ∧ Below w.heap.size w w' := by
 obtain ⟨R, hR⟩ : ∃ R, R = uP 78 a b b := ⟨_, rfl⟩
 rw [← hR]
 have HR := Lib.hid hR
 clear hR
 have HA := Lib.hid hA
 have HB := Lib.hid hB
 clear hA hB
 go_enter Try.func75, Try.ntmps75
 go_wp2_with fail
 rw [← mU]
 obtain ⟨W, hW⟩ : ∃ W, W = (w.alloc (.cells (mY 0) 45)).alloc (.cells (mY 0) 45) := ⟨_, rfl⟩
 have hO : W.heap[w.heap.size + 1]? = some (.cells (mY 0) 45 (0, 0)) := by rw [hW]; exact heap_alloc2_new _ _ _
 have hR0 : W.heap[w.heap.size]? = some (.cells (mY 0) 45 (0, 0)) := by rw [hW]; exact heap_alloc2_old _ _ _
 have hZ : Below w.heap.size w W := by rw [hW]; exact ((Below.refl _ _).alloc (Nat.le_refl _) _).alloc (by simp) _
 rw [← hW]
 clear hW
 have hBW : B < W.heap.size := Nat.lt_of_lt_of_le hlt hZ.size
 have hne : B ≠ w.heap.size + 1 := by omega
 replace HA := Lib.hid (mD HA.out hlt hZ)
 replace HB := Lib.hid (mD HB.out hlt hZ)
 go_loopw [9] (fun iv wr => ∃ i : Nat, i ≤ 128 ∧ iv = .int .i64 i ∧ St W (w.heap.size + 1) (vP R i) wr) (fun iv _ => 128 - (intOf iv).toNat)
 case atStart => exact xE
 case round =>
  clear hO
  obtain ⟨i, hi, rfl, hs⟩ := hrel
  by_cases hli : i < 128
  ·have cO := pY hs i hli
   obtain ⟨Ta, hta⟩ : ∃ t, a.toNat.testBit i = t := ⟨_, rfl⟩
   have Ca := fun W => s0 a i W hli
   rw [hta] at Ca
   replace Ca := Lib.hid Ca
   obtain ⟨Tb, htb⟩ : ∃ t, b.toNat.testBit i = t := ⟨_, rfl⟩
   have Cb := fun W => s0 b i W hli
   rw [htb] at Cb
   replace Cb := Lib.hid Cb
   have hyes := dX 78 a b b i hli _ _ _ hta htb htb
   rw [← HR.out] at hyes
   have e1 : (i : Int).tdiv 8 = ((i / 8 : Nat) : Int) := by rw [Int.tdiv_eq_ediv_of_nonneg (by omega)]; omega
   have e2 : (i : Int).tmod 8 = ((i % 8 : Nat) : Int) := by rw [Int.tmod_eq_emod_of_nonneg (by omega)]; omega
   clear hta htb
   have hnx : R.toNat.testBit i = true → t7 (vP R i) 8 (i / 8) (mT (vP R i) 8 (i / 8) ||| 2 ^ (i % 8)) = vP R (i + 1) := eD R i hli
   have hnn : R.toNat.testBit i = false → vP R (i + 1) = vP R i := fL R i hli
   have HN := Lib.hid hnx
   have HM := Lib.hid hnn
   clear hnx hnn
   cases Ta
   ·skip
    cases Tb
    ·exact xU
    ·exact xU
   ·skip
    cases Tb
    ·exact xU
    ·exact xS
  ·exact y5
end Go.Proofs.Ytcpfabkokgiepaa
end
section
namespace Go.Proofs.Ytcpfabkokgiepaa
open Go.RowKit Pl
set_option maxRecDepth 100000 in
theorem rbits_79 (a b : Vec) (w : World) (B cap off : Nat) (hlt : B < w.heap.size) (hA : w.rangeAt B off (mY a).toList) (hB : w.rangeAt B (off + 16) (mY b).toList) :
 Calls Try.prog 75 #[.int .i64 64847, .slice (some ⟨B, off, none⟩) 2 cap] w fun e w' => e = .returned (.tuple #[.agg (mY (uP 79 a b b)), .int .i64 0]) ∧ Below w.heap.size w w' := by
 obtain ⟨R, hR⟩ : ∃ R, R = uP 79 a b b := ⟨_, rfl⟩
 rw [← hR]
 have HR := Lib.hid hR
 clear hR
 have HA := Lib.hid hA
 have HB := Lib.hid hB
 clear hA hB
 go_enter Try.func75, Try.ntmps75
 go_wp2_with fail
 rw [← mU]
 obtain ⟨W, hW⟩ : ∃ W, W = (w.alloc (.cells (mY 0) 45)).alloc (.cells (mY 0) 45) := ⟨_, rfl⟩
 have hO : W.heap[w.heap.size + 1]? = some (.cells (mY 0) 45 (0, 0)) := by rw [hW]; exact heap_alloc2_new _ _ _
 have hR0 : W.heap[w.heap.size]? = some (.cells (mY 0) 45 (0, 0)) := by rw [hW]; exact heap_alloc2_old _ _ _
 have hZ : Below w.heap.size w W := by rw [hW]; exact ((Below.refl _ _).alloc (Nat.le_refl _) _).alloc (by simp) _
 rw [← hW]
 clear hW
 have hBW : B < W.heap.size := Nat.lt_of_lt_of_le hlt hZ.size
 have hne : B ≠ w.heap.size + 1 := by omega
 replace HA := Lib.hid (mD HA.out hlt hZ)
 replace HB := Lib.hid (mD HB.out hlt hZ)
 go_loopw [9] (fun iv wr => ∃ i : Nat, i ≤ 128 ∧ iv = .int .i64 i ∧ St W (w.heap.size + 1) (vP R i) wr) (fun iv _ => 128 - (intOf iv).toNat)
 case atStart => exact xE
 case round =>
  clear hO
  obtain ⟨i, hi, rfl, hs⟩ := hrel
  by_cases hli : i < 128
  ·have cO := pY hs i hli
   obtain ⟨Ta, hta⟩ : ∃ t, a.toNat.testBit i = t := ⟨_, rfl⟩
   have Ca := fun W => s0 a i W hli
   rw [hta] at Ca
   replace Ca := Lib.hid Ca
   obtain ⟨Tb, htb⟩ : ∃ t, b.toNat.testBit i = t := ⟨_, rfl⟩
   have Cb := fun W => s0 b i W hli
   rw [htb] at Cb
   replace Cb := Lib.hid Cb
   have hyes := dX 79 a b b i hli _ _ _ hta htb htb
   rw [← HR.out] at hyes
   have e1 : (i : Int).tdiv 8 = ((i / 8 : Nat) : Int) := by rw [Int.tdiv_eq_ediv_of_nonneg (by omega)]; omega
   have e2 : (i : Int).tmod 8 = ((i % 8 : Nat) : Int) := by rw [Int.tmod_eq_emod_of_nonneg (by omega)]; omega
   clear hta htb
   have hnx : R.toNat.testBit i = true → t7 (vP R i) 8 (i / 8) (mT (vP R i) 8 (i / 8) ||| 2 ^ (i % 8)) = vP R (i + 1) := eD R i hli
   have hnn : R.toNat.testBit i = false → vP R (i + 1) = vP R i := fL R i hli
   have HN := Lib.hid hnx
   have HM := Lib.hid hnn
   clear hnx hnn
   cases Ta
   ·skip
    cases Tb
    ·exact xU
    ·exact xU
   ·skip
    cases Tb
    ·exact xS
    ·exact xU
  ·exact y5
end Go.Proofs.Ytcpfabkokgiepaa
end
section
namespace Go.Proofs.Ytcpfabkokgiepaa
open Go.RowKit Pl
set_option maxRecDepth 100000 in
theorem rbits_80 (a b : Vec) (w : World) (B cap off : Nat) (hlt : B < w.heap.size) (hA : w.rangeAt B off (mY a).toList) (hB : w.rangeAt B (off + 16) (mY b).toList) :
 Calls Try.prog 75 #[.int .i64 64848, .slice (some ⟨B, off, none⟩) 2 cap] w fun e w' => e = .returned (.tuple #[.agg (mY (uP 80 a b b)), .int .i64 0]) ∧ Below w.heap.size w w' := by
 obtain ⟨R, hR⟩ : ∃ R, R = uP 80 a b b := ⟨_, rfl⟩
 rw [← hR]
 have HR := Lib.hid hR
 clear hR
 have HA := Lib.hid hA
 have HB := Lib.hid hB
 clear hA hB
 go_enter Try.func75, Try.ntmps75
 go_wp2_with fail
 rw [← mU]
 obtain ⟨W, hW⟩ : ∃ W, W = (w.alloc (.cells (mY 0) 45)).alloc (.cells (mY 0) 45) := ⟨_, rfl⟩
 have hO : W.heap[w.heap.size + 1]? = some (.cells (mY 0) 45 (0, 0)) := by rw [hW]; exact heap_alloc2_new _ _ _
 have hR0 : W.heap[w.heap.size]? = some (.cells (mY 0) 45 (0, 0)) := by rw [hW]; exact heap_alloc2_old _ _ _
 have hZ : Below w.heap.size w W := by rw [hW]; exact ((Below.refl _ _).alloc (Nat.le_refl _) _).alloc (by simp) _
 rw [← hW]
 clear hW
 have hBW : B < W.heap.size := Nat.lt_of_lt_of_le hlt hZ.size
 have hne : B ≠ w.heap.size + 1 := by omega
 replace HA := Lib.hid (mD HA.out hlt hZ)
 replace HB := Lib.hid (mD HB.out hlt hZ)
 go_loopw [9] (fun iv wr => ∃ i : Nat, i ≤ 128 ∧ iv = .int .i64 i ∧ St W (w.heap.size + 1) (vP R i) wr) (fun iv _ => 128 - (intOf iv).toNat)
 case atStart => exact xE
 case round =>
  clear hO
  obtain ⟨i, hi, rfl, hs⟩ := hrel
  by_cases hli : i < 128
  ·have cO := pY hs i hli
   obtain ⟨Ta, hta⟩ : ∃ t, a.toNat.testBit i = t := ⟨_, rfl⟩
   have Ca := fun W => s0 a i W hli
   rw [hta] at Ca
   replace Ca := Lib.hid Ca
   obtain ⟨Tb, htb⟩ : ∃ t, b.toNat.testBit i = t := ⟨_, rfl⟩
   have Cb := fun W => s0 b i W hli
   rw [htb] at Cb
   replace Cb := Lib.hid Cb
   have hyes := dX 80 a b b i hli _ _ _ hta htb htb
   rw [← HR.out] at hyes
   have e1 : (i : Int).tdiv 8 = ((i / 8 : Nat) : Int) := by rw [Int.tdiv_eq_ediv_of_nonneg (by omega)]; omega
   have e2 : (i : Int).tmod 8 = ((i % 8 : Nat) : Int) := by rw [Int.tmod_eq_emod_of_nonneg (by omega)]; omega
   clear hta htb
   have hnx : R.toNat.testBit i = true → t7 (vP R i) 8 (i / 8) (mT (vP R i) 8 (i / 8) ||| 2 ^ (i % 8)) = vP R (i + 1) := eD R i hli
   have hnn : R.toNat.testBit i = false → vP R (i + 1) = vP R i := fL R i hli
   have HN := Lib.hid hnx
   have HM := Lib.hid hnn
   clear hnx hnn
   cases Ta
   ·skip
    cases Tb
    ·exact xU
    ·exact xS
   ·skip
    cases Tb
    ·exact xS
    ·exact xS
  ·exact y5
end Go.Proofs.Ytcpfabkokgiepaa
end
section
namespace Go.Proofs.Ytcpfabkokgiepaa
open Go.RowKit Pl
set_option maxRecDepth 100000 in
theorem rbits_81 (a b : Vec) (w : World) (B cap off : Nat) (hlt : B < w.heap.size) (hA : w.rangeAt B off (mY a).toList) (hB : w.rangeAt B (off + 16) (mY b).toList) :
 Calls Try.prog 75 #[.int .i64 64849, .slice (some ⟨B, off, none⟩) 2 cap] w fun e w' => e = .returned (.tuple #[.agg (mY (uP 81 a b b)), .int .i64 0]) ∧ Below w.heap.size w w' := by
 obtain ⟨R, hR⟩ : ∃ R, R = uP 81 a b b := ⟨_, rfl⟩
 rw [← hR]
 have HR := Lib.hid hR
 clear hR
 have HA := Lib.hid hA
 have HB := Lib.hid hB
 clear hA hB
 go_enter Try.func75, Try.ntmps75
 go_wp2_with fail
 rw [← mU]
 obtain ⟨W, hW⟩ : ∃ W, W = (w.alloc (.cells (mY 0) 45)).alloc (.cells (mY 0) 45) := ⟨_, rfl⟩
 have hO : W.heap[w.heap.size + 1]? = some (.cells (mY 0) 45 (0, 0)) := by rw [hW]; exact heap_alloc2_new _ _ _
 have hR0 : W.heap[w.heap.size]? = some (.cells (mY 0) 45 (0, 0)) := by rw [hW]; exact heap_alloc2_old _ _ _
 have hZ : Below w.heap.size w W := by rw [hW]; exact ((Below.refl _ _).alloc (Nat.le_refl _) _).alloc (by simp) _
 rw [← hW]
 clear hW
 have hBW : B < W.heap.size := Nat.lt_of_lt_of_le hlt hZ.size
 have hne : B ≠ w.heap.size + 1 := by omega
 replace HA := Lib.hid (mD HA.out hlt hZ)
 replace HB := Lib.hid (mD HB.out hlt hZ)
 go_loopw [9] (fun iv wr => ∃ i : Nat, i ≤ 128 ∧ iv = .int .i64 i ∧ St W (w.heap.size + 1) (vP R i) wr) (fun iv _ => 128 - (intOf iv).toNat)
 case atStart => exact xE
 case round =>
  clear hO
  obtain ⟨i, hi, rfl, hs⟩ := hrel
  by_cases hli : i < 128
  ·have cO := pY hs i hli
   obtain ⟨Ta, hta⟩ : ∃ t, a.toNat.testBit i = t := ⟨_, rfl⟩
   have Ca := fun W => s0 a i W hli
   rw [hta] at Ca
   replace Ca := Lib.hid Ca
   obtain ⟨Tb, htb⟩ : ∃ t, b.toNat.testBit i = t := ⟨_, rfl⟩
   have Cb := fun W => s0 b i W hli
   rw [htb] at Cb
   replace Cb := Lib.hid Cb
   have hyes := dX 81 a b b i hli _ _ _ hta htb htb
   rw [← HR.out] at hyes
   have e1 : (i : Int).tdiv 8 = ((i / 8 : Nat) : Int) := by rw [Int.tdiv_eq_ediv_of_nonneg (by omega)]; omega
   have e2 : (i : Int).tmod 8 = ((i % 8 : Nat) : Int) := by rw [Int.tmod_eq_emod_of_nonneg (by omega)]; omega
   clear hta htb
   have hnx : R.toNat.testBit i = true → t7 (vP R i) 8 (i / 8) (mT (vP R i) 8 (i / 8) ||| 2 ^ (i % 8)) = vP R (i + 1) := eD R i hli
   have hnn : R.toNat.testBit i = false → vP R (i + 1) = vP R i := fL R i hli
   have HN := Lib.hid hnx
   have HM := Lib.hid hnn
   clear hnx hnn
   cases Ta
   ·skip
    cases Tb
    ·exact xU
    ·exact xS
   ·skip
    cases Tb
    ·exact xS
    ·exact xU
  ·exact y5
end Go.Proofs.Ytcpfabkokgiepaa
end
section
namespace Go.Proofs.Ytcpfabkokgiepaa
open Go.RowKit Pl
set_option maxRecDepth 100000 in
theorem rbits_82 (a b c : Vec) (w : World) (B cap off : Nat) (hlt : B < w.heap.size) (hA : w.rangeAt B off (mY a).toList) (hB : w.rangeAt B (off + 16) (mY b).toList) (hC : w.rangeAt B (off + 32) (mY c).toList) :
 Calls Try.prog 75 #[.int .i64 64850, .slice (some ⟨B, off, none⟩) 3 cap] w fun e w' => e = .returned (.tuple #[.agg (mY (uP 82 a b c)), .int .i64 0]) ∧ Below w.heap.size w w' := by
 obtain ⟨R, hR⟩ : ∃ R, R = uP 82 a b c := ⟨_, rfl⟩
 rw [← hR]
 have HR := Lib.hid hR
 clear hR
 have HA := Lib.hid hA
 have HB := Lib.hid hB
 have HC := Lib.hid hC
 clear hA hB hC
 go_enter Try.func75, Try.ntmps75
 go_wp2_with fail
 rw [← mU]
 obtain ⟨W, hW⟩ : ∃ W, W = (w.alloc (.cells (mY 0) 45)).alloc (.cells (mY 0) 45) := ⟨_, rfl⟩
 have hO : W.heap[w.heap.size + 1]? = some (.cells (mY 0) 45 (0, 0)) := by rw [hW]; exact heap_alloc2_new _ _ _
 have hR0 : W.heap[w.heap.size]? = some (.cells (mY 0) 45 (0, 0)) := by rw [hW]; exact heap_alloc2_old _ _ _
 have hZ : Below w.heap.size w W := by rw [hW]; exact ((Below.refl _ _).alloc (Nat.le_refl _) _).alloc (by simp) _
 rw [← hW]
 clear hW
 have hBW : B < W.heap.size := Nat.lt_of_lt_of_le hlt hZ.size
 have hne : B ≠ w.heap.size + 1 := by omega
 replace HA := Lib.hid (mD HA.out hlt hZ)
 replace HB := Lib.hid (mD HB.out hlt hZ)
 replace HC := Lib.hid (mD HC.out hlt hZ)
 go_loopw [9] (fun iv wr => ∃ i : Nat, i ≤ 128 ∧ iv = .int .i64 i ∧ St W (w.heap.size + 1) (vP R i) wr) (fun iv _ => 128 - (intOf iv).toNat)
 case atStart => exact xE
 case round =>
  clear hO
  obtain ⟨i, hi, rfl, hs⟩ := hrel
  by_cases hli : i < 128
  ·have cO := pY hs i hli
   obtain ⟨Ta, hta⟩ : ∃ t, a.toNat.testBit i = t := ⟨_, rfl⟩
   have Ca := fun W => s0 a i W hli
   rw [hta] at Ca
   replace Ca := Lib.hid Ca
   obtain ⟨Tb, htb⟩ : ∃ t, b.toNat.testBit i = t := ⟨_, rfl⟩
   have Cb := fun W => s0 b i W hli
   rw [htb] at Cb
   replace Cb := Lib.hid Cb
   obtain ⟨Tc, htc⟩ : ∃ t, c.toNat.testBit i = t := ⟨_, rfl⟩
   have Cc := fun W => s0 c i W hli
   rw [htc] at Cc
   replace Cc := Lib.hid Cc
   have hyes := dX 82 a b c i hli _ _ _ hta htb htc
   rw [← HR.out] at hyes
   have e1 : (i : Int).tdiv 8 = ((i / 8 : Nat) : Int) := by rw [Int.tdiv_eq_ediv_of_nonneg (by omega)]; omega
   have e2 : (i : Int).tmod 8 = ((i % 8 : Nat) : Int) := by rw [Int.tmod_eq_emod_of_nonneg (by omega)]; omega
   clear hta htb htc
   have hnx : R.toNat.testBit i = true → t7 (vP R i) 8 (i / 8) (mT (vP R i) 8 (i / 8) ||| 2 ^ (i % 8)) = vP R (i + 1) := eD R i hli
   have hnn : R.toNat.testBit i = false → vP R (i + 1) = vP R i := fL R i hli
   have HN := Lib.hid hnx
   have HM := Lib.hid hnn
   clear hnx hnn
   cases Ta
   ·skip
    cases Tb
    ·skip
     cases Tc
     ·exact wJ
     ·exact wJ
    ·skip
     cases Tc
     ·exact xM
     ·exact wJ
   ·skip
    cases Tb
    ·skip
     cases Tc
     ·exact wJ
     ·exact xM
    ·skip
     cases Tc
     ·exact xM
     ·exact xM
  ·exact y5
end Go.Proofs.Ytcpfabkokgiepaa
end
section
namespace Pl
theorem uns_sgn (w : Nat) (hw : w = 8 ∨ w = 16 ∨ w = 32 ∨ w = 64) (n : Nat) (h : n < 2 ^ w) : uns (sgn w n) = if n < 2 ^ (w - 1) then (n : Int) else (n : Int) + (18446744073709551616 - 2 ^ w) := by
 rcases hw with rfl | rfl | rfl | rfl <;> (unfold uns sgn; simp at h ⊢; try (split <;> omega))
theorem fX (w : Nat) (hw : w = 8 ∨ w = 16 ∨ w = 32 ∨ w = 64) (a b : Vec) (i j : Nat) : uns (sgn w (mT a w i)) < uns (sgn w (mT b w j)) ↔ mT a w i < mT b w j := by
 have h1 := mL a w i
 have h2 := mL b w j
 rw [uns_sgn w hw _ h1, uns_sgn w hw _ h2]
 generalize mT a w i = x at *
 generalize mT b w j = y at *
 rcases hw with rfl | rfl | rfl | rfl <;> (simp at h1 h2 ⊢; try (split <;> split <;> omega))
theorem ones_byte (j : Nat) (h : j < 8) : 18446744073709551615 / 2 ^ (8 * j) % 256 = 255 := by
 have : ∀ k : Fin 8, 18446744073709551615 / 2 ^ (8 * k.val) % 256 = 255 := by decide
 exact this ⟨j, h⟩
theorem msk_zero (w : Nat) (f : Nat → Nat) (i : Nat) (hi : i < 128 / w) (h0 : f i = 0) : mJ 0 w f (i + 1) = mJ 0 w f i := by
 rw [mJ, h0]
 have : mT (mJ 0 w f i) w i = 0 := wW
 have e := setN_same (mJ 0 w f i) w i hi
 rw [this] at e
 exact e
end Pl
namespace Go.Proofs.Ytcpfabkokgiepaa
open Go.RowKit Pl
def sel (c : Nat) (b1 b2 b3 b4 : Bool) : Bool := match c with
 | 0 => !b1 && !b2
 | 1 => b1 || b2
 | 2 => b1
 | 3 => b3
 | 4 => b2
 | 5 => b4
 | 6 => !b2
 | 7 => !b4
 | 8 => !b1
 | _ => !b3
theorem holdC_sel (c : Nat) (hc : c < 10) (s t : Int) (x y : Nat) (hu : uns s < uns t ↔ x < y) (hu2 : uns t < uns s ↔ y < x) : r4 c s t = sel c (decide (s < t)) (decide (t < s)) (decide (x < y)) (decide (y < x)) := by
 have e1 : decide (uns s < uns t) = decide (x < y) := by simp only [hu]
 have e2 : decide (uns t < uns s) = decide (y < x) := by simp only [hu2]
 obtain rfl | rfl | rfl | rfl | rfl | rfl | rfl | rfl | rfl | rfl : c = 0 ∨ c = 1 ∨ c = 2 ∨ c = 3 ∨ c = 4 ∨ c = 5 ∨ c = 6 ∨ c = 7 ∨ c = 8 ∨ c = 9 := by omega
 ·show decide (s = t) = _; simp only [sel]; rw [Bool.eq_iff_iff]; simp; omega
 ·show (!decide (s = t)) = _; simp only [sel]; rw [Bool.eq_iff_iff]; simp; omega
 ·rfl
 ·show decide (uns s < uns t) = _; rw [e1]; rfl
 ·rfl
 ·show decide (uns t < uns s) = _; rw [e2]; rfl
 ·show decide (s ≤ t) = _; simp only [sel]; rw [Bool.eq_iff_iff]; simp
 ·show decide (uns s ≤ uns t) = _; simp only [sel]; rw [← e2, Bool.eq_iff_iff]; simp
 ·show decide (t ≤ s) = _; simp only [sel]; rw [Bool.eq_iff_iff]; simp
 ·show decide (uns t ≤ uns s) = _; simp only [sel]; rw [← e1, Bool.eq_iff_iff]; simp
end Go.Proofs.Ytcpfabkokgiepaa
end
section
namespace Go.Proofs.Ytcpfabkokgiepaa
open Go.RowKit Pl
set_option maxRecDepth 100000 in
theorem rbin_none (op κ : Int) (a b : Vec) (w : World) (hκ : wrap64 (op - 64768) = κ) (h1 : κ ≠ 101) (h2 : κ ≠ 102) (h3 : κ ≠ 133) (h4 : κ ≠ 134) (h5 : κ ≠ 130) (h6 : κ ≠ 186)
 (h7 : κ < 156 ∨ 160 ≤ κ ∧ κ < 188 ∨ 192 ≤ κ ∧ κ < 220 ∨ 224 ≤ κ) :
 Calls Try.prog 81 #[.int .i64 op, .agg (mY a), .agg (mY b)] w fun e w' => e = .returned (.tuple #[.agg (mY 0), .int .i64 1]) ∧ Below w.heap.size w w' := by
 have t1 : (κ == 101) = false := beq_eq_false_iff_ne.2 h1
 have t2 : (κ == 102) = false := beq_eq_false_iff_ne.2 h2
 have t3 : (κ == 133) = false := beq_eq_false_iff_ne.2 h3
 have t4 : (κ == 134) = false := beq_eq_false_iff_ne.2 h4
 have t5 : (κ == 130) = false := beq_eq_false_iff_ne.2 h5
 have t6 : (κ == 186) = false := beq_eq_false_iff_ne.2 h6
 clear h1 h2 h3 h4 h5 h6
 rcases h7 with h | ⟨h, h'⟩ | ⟨h, h'⟩ | h
 all_goals
  go_enter Try.func81, Try.ntmps81
  go_wp2_with fail
  rw [← mU]
  obtain ⟨W, hW, hA, hB, hR, hO, hX, hY, hZ⟩ := pF w (.cells (mY a) 45) (.cells (mY b) 45) (.cells (mY 0) 45) (.cells (mY 0) 45) (.cells (mY 0) 45) (.cells (mY 0) 45)
  rw [← hW]
  clear hW
  refine wp_loop_rounds 4 ?_
  rw [rounds_succ]
  go_wp2_with fail
  rw [rounds_succ]
  go_wp2_with fail
  rw [rounds_succ]
  go_wp2_with fail
  rw [rounds_succ]
  go_wp2_with (first | (with_reducible refine mG rfl _ rfl _ rfl _ hO ?_) | (with_reducible refine mK rfl _ _ rfl (w.heap.size + 2) _ rfl rfl _ hR ?_; intro wq hq))
  exact bodyPost_ret (mS rfl _ _ (w.heap.size + 2) _ _ rfl rfl hq.this) rfl ⟨rfl, hZ.trans (hq.below.mono (by omega))⟩
theorem rbin_any (op : Int) (a b : Vec) (w : World) (ho : -9223372036854775808 ≤ op ∧ op ≤ 9223372036854775807) :
 Calls Try.prog 81 #[.int .i64 op, .agg (mY a), .agg (mY b)] w fun e w' => e = .returned (.tuple #[.agg (mY (binW op a b).1), .int .i64 (binW op a b).2]) ∧ Below w.heap.size w w' := by
 unfold binW
 split
 ·rename_i h
  obtain ⟨c, hc, rfl⟩ : ∃ c : Nat, c < 4 ∧ op = 64924 + (c : Int) := ⟨(op - 64924).toNat, by omega, by omega⟩
  have e : (64924 + (c : Int) - 64924).toNat = c := by omega
  rw [e, mul_rows 8 c 8 a b (by decide) (by decide)]
  rcases (show c = 0 ∨ c = 1 ∨ c = 2 ∨ c = 3 by omega) with rfl | rfl | rfl | rfl
  ·exact rbin_row8_0 a b w
  ·exact rbin_row8_1 a b w
  ·exact rbin_row8_2 a b w
  ·exact rbin_row8_3 a b w
 split
 ·rename_i h
  obtain ⟨c, hc, rfl⟩ : ∃ c : Nat, c < 4 ∧ op = 64956 + (c : Int) := ⟨(op - 64956).toNat, by omega, by omega⟩
  have e : (64956 + (c : Int) - 64956).toNat = c := by omega
  rw [e, mul_rows 16 c 4 a b (by decide) (by decide)]
  rcases (show c = 0 ∨ c = 1 ∨ c = 2 ∨ c = 3 by omega) with rfl | rfl | rfl | rfl
  ·exact rbin_row16_0 a b w
  ·exact rbin_row16_1 a b w
  ·exact rbin_row16_2 a b w
  ·exact rbin_row16_3 a b w
 split
 ·rename_i h
  obtain ⟨c, hc, rfl⟩ : ∃ c : Nat, c < 4 ∧ op = 64988 + (c : Int) := ⟨(op - 64988).toNat, by omega, by omega⟩
  have e : (64988 + (c : Int) - 64988).toNat = c := by omega
  rw [e, mul_rows 32 c 2 a b (by decide) (by decide)]
  rcases (show c = 0 ∨ c = 1 ∨ c = 2 ∨ c = 3 by omega) with rfl | rfl | rfl | rfl
  ·exact rbin_row32_0 a b w
  ·exact rbin_row32_1 a b w
  ·exact rbin_row32_2 a b w
  ·exact rbin_row32_3 a b w
 split
 ·rename_i h; subst h; rw [nar_eq 8 8 _ _ a b (by decide) (by decide)]; exact rbin_narrow101 a b w
 split
 ·rename_i h; subst h; rw [nar_eq 8 8 _ _ a b (by decide) (by decide)]; exact rbin_narrow102 a b w
 split
 ·rename_i h; subst h; rw [nar_eq 16 4 _ _ a b (by decide) (by decide)]; exact rbin_narrow133 a b w
 split
 ·rename_i h; subst h; rw [nar_eq 16 4 _ _ a b (by decide) (by decide)]; exact rbin_narrow134 a b w
 split
 ·rename_i h; subst h; rw [show q15N a b = uV a b from funext (q15_eq a b)]; exact rbin_q15 a b w
 split
 ·rename_i h; subst h; rw [← dot_eq]; exact rbin_dot a b w
 ·exact rbin_none op _ a b w rfl (by unfold wrap64; omega) (by unfold wrap64; omega) (by unfold wrap64; omega) (by unfold wrap64; omega) (by unfold wrap64; omega) (by unfold wrap64; omega) (by unfold wrap64; omega)
end Go.Proofs.Ytcpfabkokgiepaa
end
