/-
  Texts CmpT, WidV, WidR8.
-/
import Derived.Test.YtcpfabkokgiepaaQ05
import Derived.Test.YtcpfabkokgiepaaQ07
import Derived.Test.YtcpfabkokgiepaaQ11
set_option linter.unusedSimpArgs false
set_option linter.unusedVariables false
set_option maxHeartbeats 8000000
open Pl
section
namespace Go.Proofs.Ytcpfabkokgiepaa
open Go.RowKit Pl
end Go.Proofs.Ytcpfabkokgiepaa
namespace Pl
def pV (w : Nat) (v : Vec) : Nat → Nat
 | 0 => 0
 | i + 1 => if sgn w (mT v w i) < 0 then pV w v i ||| 2 ^ i else pV w v i
def r6 (w : Nat) (v : Vec) : Nat → Nat
 | 0 => 1
 | i + 1 => if mT v w i = 0 then 0 else r6 w v i
theorem rE (w : Nat) (v : Vec) : ∀ i, pV w v i < 2 ^ i
 | 0 => Nat.one_pos
 | i + 1 => by
   have h := rE w v i
   unfold pV
   split
   ·exact Nat.or_lt_two_pow (Nat.lt_trans h (Nat.pow_lt_pow_right (by decide) (by omega))) (Nat.pow_lt_pow_right (by decide) (by omega))
   ·exact Nat.lt_trans h (Nat.pow_lt_pow_right (by decide) (by omega))
end Pl
namespace Go.Proofs.Ytcpfabkokgiepaa
open Go.RowKit Pl
structure H1 (w0 : World) (v : Vec) (u : World) : Prop where
 bel : Below w0.heap.size w0 u
 fst : u.heap[w0.heap.size]? = some (.cells (mY v) 45 (0, 0))
theorem H1.below {w0 u u1 : World} {v : Vec} (h : H1 w0 v u) (hb : Below u.heap.size u u1) : H1 w0 v u1 :=
 ⟨h.bel.trans (hb.mono (by have := mF h.fst; omega)), mV h.fst hb⟩
theorem H1.drew {w0 u : World} {v : Vec} (h : H1 w0 v u) : H1 w0 v u.drew := ⟨h.bel.drew, h.fst⟩
theorem H1.start (v : Vec) (w : World) : H1 w v (w.alloc (.cells (mY v) 45)) := ⟨(Below.refl _ _).alloc (Nat.le_refl _) _, heap_alloc_new _ _⟩
theorem msk_step (w : Nat) (v : Vec) (i : Nat) (hi : i < 16) (h : sgn w (mT v w i) < 0) : bits .or .u32 (pV w v i : Int) ((2 : Int) ^ i % 4294967296) = ((pV w v (i + 1) : Nat) : Int) := by
 have h1 := rE w v i
 have h2 : 2 ^ i < 2 ^ 16 := Nat.pow_lt_pow_right (by decide) hi
 have e : (2 : Int) ^ i % 4294967296 = ((2 ^ i : Nat) : Int) := by
  rw [show (2 : Int) ^ i = ((2 ^ i : Nat) : Int) by simp]
  generalize 2 ^ i = p at *
  rw [show (2 : Nat) ^ 16 = 65536 from rfl] at h2
  omega
 rw [e, u32_or_nat _ _ (by omega) (by omega), pV, if_pos h]
set_option maxRecDepth 100000 in
theorem test_w8 (op κ : Int) (v : Vec) (w : World) (hκ : IntKind.i64.wrap (op - 64768) = κ) (h1 : κ = 99 ∨ κ = 100) :
 Calls Try.prog 28 #[.int .i64 op, .agg (mY v)] w fun e w' => e = .returned (.tuple #[.int .u32 (if κ = 99 then (r6 8 v 16 : Int) else (pV 8 v 16 : Int)), .int .i64 0]) ∧ Below w.heap.size w w' := by
 rcases h1 with rfl | rfl
 all_goals
  go_enter Try.func28, Try.ntmps28
  go_wp2_with (first | (go_at_call 50; ((with_reducible refine (sL _).mono ?_); rintro e w' ⟨rfl, rfl⟩)))
  go_loopw [8, 9, 40] (fun m al j wr => ∃ i : Nat, i ≤ 16 ∧ j = .int .i64 i ∧ m = .int .u32 (pV 8 v i : Int) ∧ al = .int .u32 (r6 8 v i : Int) ∧ H1 w v wr) (fun _ _ j _ => 16 - (intOf j).toNat)
  case atStart => exact jK
  case round =>
   obtain ⟨i, hi, rfl, rfl, rfl, hs⟩ := hrel
   by_cases hlt : i < 16
   ·by_cases hn : sgn 8 (mT v 8 i) < 0 <;> by_cases hz : mT v 8 i = 0
    ·exact jR
    ·have em := Lib.hid (msk_step 8 v i (by omega) hn)
     have t1 : (((mT v 8 i : Nat) : Int) == 0) = false := by rw [beq_eq_false_iff_ne]; omega
     have ea := Lib.hid (show r6 8 v (i + 1) = r6 8 v i from if_neg hz)
     clear hz
     go_wp2_with (first | (with_reducible refine mG rfl _ rfl _ rfl _ hs.fst ?_) | (go_at_call 53; (with_reducible refine (vC v _ i _ rfl (by omega)).mono ?_); rintro e u ⟨rfl, hb⟩; replace hs := hs.below hb; clear hb) | (go_at_call 51; (with_reducible refine (d7 v _ i _ rfl (by omega)).mono ?_); rintro e u ⟨rfl, hb⟩; replace hs := hs.below hb; clear hb))
     go_roundw
     case rel => exact gW
     case measure => exact xL
    ·have em := Lib.hid (show pV 8 v (i + 1) = pV 8 v i from if_neg hn)
     have t1 : (((mT v 8 i : Nat) : Int) == 0) = true := by rw [beq_iff_eq]; omega
     have ea := Lib.hid (show r6 8 v (i + 1) = 0 from if_pos hz)
     clear hz
     go_wp2_with (first | (with_reducible refine mG rfl _ rfl _ rfl _ hs.fst ?_) | (go_at_call 53; (with_reducible refine (vC v _ i _ rfl (by omega)).mono ?_); rintro e u ⟨rfl, hb⟩; replace hs := hs.below hb; clear hb) | (go_at_call 51; (with_reducible refine (d7 v _ i _ rfl (by omega)).mono ?_); rintro e u ⟨rfl, hb⟩; replace hs := hs.below hb; clear hb))
     go_roundw
     case rel => exact gH
     case measure => exact xL
    ·have em := Lib.hid (show pV 8 v (i + 1) = pV 8 v i from if_neg hn)
     have t1 : (((mT v 8 i : Nat) : Int) == 0) = false := by rw [beq_eq_false_iff_ne]; omega
     have ea := Lib.hid (show r6 8 v (i + 1) = r6 8 v i from if_neg hz)
     clear hz
     go_wp2_with (first | (with_reducible refine mG rfl _ rfl _ rfl _ hs.fst ?_) | (go_at_call 53; (with_reducible refine (vC v _ i _ rfl (by omega)).mono ?_); rintro e u ⟨rfl, hb⟩; replace hs := hs.below hb; clear hb) | (go_at_call 51; (with_reducible refine (d7 v _ i _ rfl (by omega)).mono ?_); rintro e u ⟨rfl, hb⟩; replace hs := hs.below hb; clear hb))
     go_roundw
     case rel => exact gC
     case measure => exact xL
   ·obtain rfl : i = 16 := by omega
    exact jE
set_option maxRecDepth 100000 in
theorem test_w16 (op κ : Int) (v : Vec) (w : World) (hκ : IntKind.i64.wrap (op - 64768) = κ) (h1 : κ = 131 ∨ κ = 132) :
 Calls Try.prog 28 #[.int .i64 op, .agg (mY v)] w fun e w' => e = .returned (.tuple #[.int .u32 (if κ = 131 then (r6 16 v 8 : Int) else (pV 16 v 8 : Int)), .int .i64 0]) ∧ Below w.heap.size w w' := by
 rcases h1 with rfl | rfl
 all_goals
  go_enter Try.func28, Try.ntmps28
  go_wp2_with (first | (go_at_call 50; ((with_reducible refine (rD _).mono ?_); rintro e w' ⟨rfl, rfl⟩)))
  go_loopw [8, 9, 40] (fun m al j wr => ∃ i : Nat, i ≤ 8 ∧ j = .int .i64 i ∧ m = .int .u32 (pV 16 v i : Int) ∧ al = .int .u32 (r6 16 v i : Int) ∧ H1 w v wr) (fun _ _ j _ => 8 - (intOf j).toNat)
  case atStart => exact jK
  case round =>
   obtain ⟨i, hi, rfl, rfl, rfl, hs⟩ := hrel
   by_cases hlt : i < 8
   ·by_cases hn : sgn 16 (mT v 16 i) < 0 <;> by_cases hz : mT v 16 i = 0
    ·exact jR
    ·have em := Lib.hid (msk_step 16 v i (by omega) hn)
     have t1 : (((mT v 16 i : Nat) : Int) == 0) = false := by rw [beq_eq_false_iff_ne]; omega
     have ea := Lib.hid (show r6 16 v (i + 1) = r6 16 v i from if_neg hz)
     clear hz
     go_wp2_with (first | (with_reducible refine mG rfl _ rfl _ rfl _ hs.fst ?_) | (go_at_call 53; (with_reducible refine (tB v _ i _ rfl (by omega)).mono ?_); rintro e u ⟨rfl, hb⟩; replace hs := hs.below hb; clear hb) | (go_at_call 51; (with_reducible refine (fQ v _ i _ rfl (by omega)).mono ?_); rintro e u ⟨rfl, hb⟩; replace hs := hs.below hb; clear hb))
     go_roundw
     case rel => exact gW
     case measure => exact xL
    ·have em := Lib.hid (show pV 16 v (i + 1) = pV 16 v i from if_neg hn)
     have t1 : (((mT v 16 i : Nat) : Int) == 0) = true := by rw [beq_iff_eq]; omega
     have ea := Lib.hid (show r6 16 v (i + 1) = 0 from if_pos hz)
     clear hz
     go_wp2_with (first | (with_reducible refine mG rfl _ rfl _ rfl _ hs.fst ?_) | (go_at_call 53; (with_reducible refine (tB v _ i _ rfl (by omega)).mono ?_); rintro e u ⟨rfl, hb⟩; replace hs := hs.below hb; clear hb) | (go_at_call 51; (with_reducible refine (fQ v _ i _ rfl (by omega)).mono ?_); rintro e u ⟨rfl, hb⟩; replace hs := hs.below hb; clear hb))
     go_roundw
     case rel => exact gH
     case measure => exact xL
    ·have em := Lib.hid (show pV 16 v (i + 1) = pV 16 v i from if_neg hn)
     have t1 : (((mT v 16 i : Nat) : Int) == 0) = false := by rw [beq_eq_false_iff_ne]; omega
     have ea := Lib.hid (show r6 16 v (i + 1) = r6 16 v i from if_neg hz)
     clear hz
     go_wp2_with (first | (with_reducible refine mG rfl _ rfl _ rfl _ hs.fst ?_) | (go_at_call 53; (with_reducible refine (tB v _ i _ rfl (by omega)).mono ?_); rintro e u ⟨rfl, hb⟩; replace hs := hs.below hb; clear hb) | (go_at_call 51; (with_reducible refine (fQ v _ i _ rfl (by omega)).mono ?_); rintro e u ⟨rfl, hb⟩; replace hs := hs.below hb; clear hb))
     go_roundw
     case rel => exact gC
     case measure => exact xL
   ·obtain rfl : i = 8 := by omega
    exact jE
set_option maxRecDepth 100000 in
theorem test_w32 (op κ : Int) (v : Vec) (w : World) (hκ : IntKind.i64.wrap (op - 64768) = κ) (h1 : κ = 163 ∨ κ = 164) :
 Calls Try.prog 28 #[.int .i64 op, .agg (mY v)] w fun e w' => e = .returned (.tuple #[.int .u32 (if κ = 163 then (r6 32 v 4 : Int) else (pV 32 v 4 : Int)), .int .i64 0]) ∧ Below w.heap.size w w' := by
 rcases h1 with rfl | rfl
 all_goals
  go_enter Try.func28, Try.ntmps28
  go_wp2_with (first | (go_at_call 50; ((with_reducible refine (sX _).mono ?_); rintro e w' ⟨rfl, rfl⟩)))
  go_loopw [8, 9, 40] (fun m al j wr => ∃ i : Nat, i ≤ 4 ∧ j = .int .i64 i ∧ m = .int .u32 (pV 32 v i : Int) ∧ al = .int .u32 (r6 32 v i : Int) ∧ H1 w v wr) (fun _ _ j _ => 4 - (intOf j).toNat)
  case atStart => exact jK
  case round =>
   obtain ⟨i, hi, rfl, rfl, rfl, hs⟩ := hrel
   by_cases hlt : i < 4
   ·by_cases hn : sgn 32 (mT v 32 i) < 0 <;> by_cases hz : mT v 32 i = 0
    ·exact jR
    ·have em := Lib.hid (msk_step 32 v i (by omega) hn)
     have t1 : (((mT v 32 i : Nat) : Int) == 0) = false := by rw [beq_eq_false_iff_ne]; omega
     have ea := Lib.hid (show r6 32 v (i + 1) = r6 32 v i from if_neg hz)
     clear hz
     go_wp2_with (first | (with_reducible refine mG rfl _ rfl _ rfl _ hs.fst ?_) | (go_at_call 53; (with_reducible refine (v9 v _ i _ rfl (by omega)).mono ?_); rintro e u ⟨rfl, hb⟩; replace hs := hs.below hb; clear hb) | (go_at_call 51; (with_reducible refine (eH v _ i _ rfl (by omega)).mono ?_); rintro e u ⟨rfl, hb⟩; replace hs := hs.below hb; clear hb))
     go_roundw
     case rel => exact gW
     case measure => exact xL
    ·have em := Lib.hid (show pV 32 v (i + 1) = pV 32 v i from if_neg hn)
     have t1 : (((mT v 32 i : Nat) : Int) == 0) = true := by rw [beq_iff_eq]; omega
     have ea := Lib.hid (show r6 32 v (i + 1) = 0 from if_pos hz)
     clear hz
     go_wp2_with (first | (with_reducible refine mG rfl _ rfl _ rfl _ hs.fst ?_) | (go_at_call 53; (with_reducible refine (v9 v _ i _ rfl (by omega)).mono ?_); rintro e u ⟨rfl, hb⟩; replace hs := hs.below hb; clear hb) | (go_at_call 51; (with_reducible refine (eH v _ i _ rfl (by omega)).mono ?_); rintro e u ⟨rfl, hb⟩; replace hs := hs.below hb; clear hb))
     go_roundw
     case rel => exact gH
     case measure => exact xL
    ·have em := Lib.hid (show pV 32 v (i + 1) = pV 32 v i from if_neg hn)
     have t1 : (((mT v 32 i : Nat) : Int) == 0) = false := by rw [beq_eq_false_iff_ne]; omega
     have ea := Lib.hid (show r6 32 v (i + 1) = r6 32 v i from if_neg hz)
     clear hz
     go_wp2_with (first | (with_reducible refine mG rfl _ rfl _ rfl _ hs.fst ?_) | (go_at_call 53; (with_reducible refine (v9 v _ i _ rfl (by omega)).mono ?_); rintro e u ⟨rfl, hb⟩; replace hs := hs.below hb; clear hb) | (go_at_call 51; (with_reducible refine (eH v _ i _ rfl (by omega)).mono ?_); rintro e u ⟨rfl, hb⟩; replace hs := hs.below hb; clear hb))
     go_roundw
     case rel => exact gC
     case measure => exact xL
   ·obtain rfl : i = 4 := by omega
    exact jE
set_option maxRecDepth 100000 in
theorem test_w64 (op κ : Int) (v : Vec) (w : World) (hκ : IntKind.i64.wrap (op - 64768) = κ) (h1 : κ = 195 ∨ κ = 196) :
 Calls Try.prog 28 #[.int .i64 op, .agg (mY v)] w fun e w' => e = .returned (.tuple #[.int .u32 (if κ = 195 then (r6 64 v 2 : Int) else (pV 64 v 2 : Int)), .int .i64 0]) ∧ Below w.heap.size w w' := by
 rcases h1 with rfl | rfl
 all_goals
  go_enter Try.func28, Try.ntmps28
  go_wp2_with (first | (go_at_call 50; ((with_reducible refine (sZ _).mono ?_); rintro e w' ⟨rfl, rfl⟩)))
  go_loopw [8, 9, 40] (fun m al j wr => ∃ i : Nat, i ≤ 2 ∧ j = .int .i64 i ∧ m = .int .u32 (pV 64 v i : Int) ∧ al = .int .u32 (r6 64 v i : Int) ∧ H1 w v wr) (fun _ _ j _ => 2 - (intOf j).toNat)
  case atStart => exact jK
  case round =>
   obtain ⟨i, hi, rfl, rfl, rfl, hs⟩ := hrel
   by_cases hlt : i < 2
   ·by_cases hn : sgn 64 (mT v 64 i) < 0 <;> by_cases hz : mT v 64 i = 0
    ·exact jR
    ·have em := Lib.hid (msk_step 64 v i (by omega) hn)
     have t1 : (((mT v 64 i : Nat) : Int) == 0) = false := by rw [beq_eq_false_iff_ne]; omega
     have ea := Lib.hid (show r6 64 v (i + 1) = r6 64 v i from if_neg hz)
     clear hz
     go_wp2_with (first | (with_reducible refine mG rfl _ rfl _ rfl _ hs.fst ?_) | (go_at_call 53; (with_reducible refine (s7 v _ i _ rfl (by omega)).mono ?_); rintro e u ⟨rfl, hb⟩; replace hs := hs.below hb; clear hb) | (go_at_call 51; (with_reducible refine (dL v _ i _ rfl (by omega)).mono ?_); rintro e u ⟨rfl, hb⟩; replace hs := hs.below hb; clear hb))
     go_roundw
     case rel => exact gW
     case measure => exact xL
    ·have em := Lib.hid (show pV 64 v (i + 1) = pV 64 v i from if_neg hn)
     have t1 : (((mT v 64 i : Nat) : Int) == 0) = true := by rw [beq_iff_eq]; omega
     have ea := Lib.hid (show r6 64 v (i + 1) = 0 from if_pos hz)
     clear hz
     go_wp2_with (first | (with_reducible refine mG rfl _ rfl _ rfl _ hs.fst ?_) | (go_at_call 53; (with_reducible refine (s7 v _ i _ rfl (by omega)).mono ?_); rintro e u ⟨rfl, hb⟩; replace hs := hs.below hb; clear hb) | (go_at_call 51; (with_reducible refine (dL v _ i _ rfl (by omega)).mono ?_); rintro e u ⟨rfl, hb⟩; replace hs := hs.below hb; clear hb))
     go_roundw
     case rel => exact gH
     case measure => exact xL
    ·have em := Lib.hid (show pV 64 v (i + 1) = pV 64 v i from if_neg hn)
     have t1 : (((mT v 64 i : Nat) : Int) == 0) = false := by rw [beq_eq_false_iff_ne]; omega
     have ea := Lib.hid (show r6 64 v (i + 1) = r6 64 v i from if_neg hz)
     clear hz
     go_wp2_with (first | (with_reducible refine mG rfl _ rfl _ rfl _ hs.fst ?_) | (go_at_call 53; (with_reducible refine (s7 v _ i _ rfl (by omega)).mono ?_); rintro e u ⟨rfl, hb⟩; replace hs := hs.below hb; clear hb) | (go_at_call 51; (with_reducible refine (dL v _ i _ rfl (by omega)).mono ?_); rintro e u ⟨rfl, hb⟩; replace hs := hs.below hb; clear hb))
     go_roundw
     case rel => exact gC
     case measure => exact xL
   ·obtain rfl : i = 2 := by omega
    exact jE
theorem ret_u32p {a b : Int} (h : a = b) (e : Int) : Ending.returned (.tuple #[.int .u32 a, .int .i64 e]) = .returned (.tuple #[.int .u32 b, .int .i64 e]) := by rw [h]
theorem test_any1 (v : Vec) (w : World) :
 Calls Try.prog 28 #[.int .i64 64851, .agg (mY v)] w fun e w' => e = .returned (.tuple #[.int .u32 (if v = 0 then 0 else 1), .int .i64 0]) ∧ Below w.heap.size w w' := by
 by_cases hv : v = 0
 ·have hE := equal_vec v 0
  rw [decide_eq_true hv, mU] at hE
  rw [if_pos hv]
  exact j5
 ·have hE := equal_vec v 0
  rw [decide_eq_false hv, mU] at hE
  rw [if_neg hv]
  exact j5
theorem test_none (op κ : Int) (v : Vec) (w : World) (hκ : IntKind.i64.wrap (op - 64768) = κ) (h0 : κ ≠ 83) (h : κ < 99 ∨ 196 < κ ∨ 99 ≤ κ ∧ κ ≤ 196 ∧ κ % 32 ≠ 3 ∧ κ % 32 ≠ 4) :
 Calls Try.prog 28 #[.int .i64 op, .agg (mY v)] w fun e w' => e = .returned (.tuple #[.int .u32 0, .int .i64 1]) ∧ Below w.heap.size w w' := by
 have t0 : (κ == 83) = false := beq_eq_false_iff_ne.2 h0
 clear h0
 rcases h with h | h | ⟨h1, h2, h3, h4⟩
 ·exact gL
 ·exact gL
 ·have t3 : (κ % 32 != 3) = true := by simpa using h3
  have t4 : (κ % 32 != 4) = true := by simpa using h4
  clear h3 h4
  exact gL
end Go.Proofs.Ytcpfabkokgiepaa
namespace Pl
def uH (op : Int) (v : Vec) : Int × Int :=
 if op = 64851 then (if v = 0 then 0 else 1, 0)
 else if op = 64867 then ((r6 8 v 16 : Int), 0) else if op = 64868 then ((pV 8 v 16 : Int), 0)
 else if op = 64899 then ((r6 16 v 8 : Int), 0) else if op = 64900 then ((pV 16 v 8 : Int), 0)
 else if op = 64931 then ((r6 32 v 4 : Int), 0) else if op = 64932 then ((pV 32 v 4 : Int), 0)
 else if op = 64963 then ((r6 64 v 2 : Int), 0) else if op = 64964 then ((pV 64 v 2 : Int), 0)
 else (0, 1)
end Pl
namespace Go.Proofs.Ytcpfabkokgiepaa
open Go.RowKit Pl
theorem test_any (op : Int) (v : Vec) (w : World) (ho : -9223372036854775808 ≤ op ∧ op ≤ 9223372036854775807) :
 Calls Try.prog 28 #[.int .i64 op, .agg (mY v)] w fun e w' => e = .returned (.tuple #[.int .u32 (uH op v).1, .int .i64 (uH op v).2]) ∧ Below w.heap.size w w' := by
 unfold uH
 split
 ·rename_i h; subst h; exact test_any1 v w
 split
 ·rename_i h; subst h; exact test_w8 64867 99 v w (IntWalk.i64_in _ (by decide)) (by decide)
 split
 ·rename_i h; subst h; exact test_w8 64868 100 v w (IntWalk.i64_in _ (by decide)) (by decide)
 split
 ·rename_i h; subst h; exact test_w16 64899 131 v w (IntWalk.i64_in _ (by decide)) (by decide)
 split
 ·rename_i h; subst h; exact test_w16 64900 132 v w (IntWalk.i64_in _ (by decide)) (by decide)
 split
 ·rename_i h; subst h; exact test_w32 64931 163 v w (IntWalk.i64_in _ (by decide)) (by decide)
 split
 ·rename_i h; subst h; exact test_w32 64932 164 v w (IntWalk.i64_in _ (by decide)) (by decide)
 split
 ·rename_i h; subst h; exact test_w64 64963 195 v w (IntWalk.i64_in _ (by decide)) (by decide)
 split
 ·rename_i h; subst h; exact test_w64 64964 196 v w (IntWalk.i64_in _ (by decide)) (by decide)
 ·exact test_none op _ v w rfl (by rw [IntKind.wrap_i64]; omega) (by rw [IntKind.wrap_i64]; omega)
end Go.Proofs.Ytcpfabkokgiepaa
end
section
namespace Go.Proofs.Ytcpfabkokgiepaa
open Go.RowKit Pl
theorem un_pair0 (v : Vec) (w : World) :
 Calls Try.prog 18 #[.int .i64 64892, .agg (mY v)] w fun e w' => e = .returned (.tuple #[.agg (mY (mJ 0 16 (pZ true 8 v) 8)), .int .i64 0]) ∧ Below w.heap.size w w' := by
 go_enter Try.func18, Try.ntmps18
 go_wp2_with (first | (go_at_call 55; refine (s5 _ _ _ (by unfold wrap64; decide) (by unfold wrap64; decide) (by unfold wrap64; decide)).mono ?_; rintro e w' ⟨rfl, rfl⟩))
 rw [← mU]
 obtain ⟨W, hW, hB, hR, hO, hZ⟩ := zA w v
 rw [← hW]
 clear hW
 go_loopw [51] (fun j wr => ∃ k : Nat, k ≤ 8 ∧ j = .int .i64 k ∧ St W (w.heap.size + 2) (mJ 0 16 (pZ true 8 v) k) wr) (fun j _ => 8 - (intOf j).toNat)
 case atStart => exact xE
 case round =>
  obtain ⟨k, hk, rfl, hs⟩ := hrel
  by_cases hlt : k < 8
  ·have hk0 : (0 : Int) ≤ (k : Int) := Int.natCast_nonneg _
   have e1 : IntKind.i64.wrap (2 * (k : Int)) = 2 * k := IntWalk.i64_in _ (by omega)
   have e2 : IntKind.i64.wrap (2 * (k : Int) + 1) = 2 * k + 1 := IntWalk.i64_in _ (by omega)
   go_wp2_with fail
   refine mN (St W (w.heap.size + 2) (mJ 0 16 (pZ true 8 v) k)) 12 (by kernel_rfl) (by kernel_rfl) hs.drew ?_
   simp only [zP, zN, zM, zL]
   repeat (first | (refine zK rfl _ rfl _ rfl _ (fun u hS => hS.kb.get hB (by omega)) ?_) | (refine z8 ?_) | (refine zZ (.int .u64 (mT v 8 (2 * k) : Nat)) 51 (c := fun u hS => by exact d7 v _ (2 * k) _ (by omega) (by omega)) (r := ?_)) | (refine zZ (.int .u64 (mT v 8 (2 * k + 1) : Nat)) 51 (c := fun u hS => by exact d7 v _ (2 * k + 1) _ (by omega) (by omega)) (r := ?_)))
   refine mH (fun wq hq => ?_)
   go_wp2_with fail
   refine mN (St W (w.heap.size + 2) (mJ 0 16 (pZ true 8 v) k)) 13 (by kernel_rfl) (by kernel_rfl) hq.drew ?_
   simp only [zP, zN, zM, zL]
   repeat (first | (refine zK rfl _ rfl _ rfl _ (fun u hS => hS.kb.get hB (by omega)) ?_) | (refine z8 ?_) | (refine zZ (.int .i64 (sgn 8 (mT v 8 (2 * k)))) 53 (c := fun u hS => by exact vC v _ (2 * k) _ (by omega) (by omega)) (r := ?_)) | (refine zZ (.int .i64 (sgn 8 (mT v 8 (2 * k + 1)))) 53 (c := fun u hS => by exact vC v _ (2 * k + 1) _ (by omega) (by omega)) (r := ?_)))
   refine mH (fun wq hq => ?_)
   clear e1 e2
   go_wp2_with (first | (with_reducible refine mG rfl _ rfl _ rfl _ hq.this ?_) | (go_at_call 54; refine (rN _ _ _ k (pZ true 8 v k) _ rfl (pair_s 8 v k (by decide) (by decide)) (by omega)).mono ?_; rintro e u2 ⟨rfl, hb⟩; have hq2 := hq.below hb) | (with_reducible refine mK rfl _ _ rfl (w.heap.size + 2) _ rfl rfl _ hq2.this ?_; intro wz hz))
   go_roundw
   case rel => exact gU
   case measure => exact xL
  ·exact nW
theorem un_pair1 (v : Vec) (w : World) :
 Calls Try.prog 18 #[.int .i64 64893, .agg (mY v)] w fun e w' => e = .returned (.tuple #[.agg (mY (mJ 0 16 (pZ false 8 v) 8)), .int .i64 0]) ∧ Below w.heap.size w w' := by
 go_enter Try.func18, Try.ntmps18
 go_wp2_with (first | (go_at_call 55; refine (s5 _ _ _ (by unfold wrap64; decide) (by unfold wrap64; decide) (by unfold wrap64; decide)).mono ?_; rintro e w' ⟨rfl, rfl⟩))
 rw [← mU]
 obtain ⟨W, hW, hB, hR, hO, hZ⟩ := zA w v
 rw [← hW]
 clear hW
 go_loopw [51] (fun j wr => ∃ k : Nat, k ≤ 8 ∧ j = .int .i64 k ∧ St W (w.heap.size + 2) (mJ 0 16 (pZ false 8 v) k) wr) (fun j _ => 8 - (intOf j).toNat)
 case atStart => exact xE
 case round =>
  obtain ⟨k, hk, rfl, hs⟩ := hrel
  by_cases hlt : k < 8
  ·have hk0 : (0 : Int) ≤ (k : Int) := Int.natCast_nonneg _
   have e1 : IntKind.i64.wrap (2 * (k : Int)) = 2 * k := IntWalk.i64_in _ (by omega)
   have e2 : IntKind.i64.wrap (2 * (k : Int) + 1) = 2 * k + 1 := IntWalk.i64_in _ (by omega)
   go_wp2_with fail
   refine mN (St W (w.heap.size + 2) (mJ 0 16 (pZ false 8 v) k)) 12 (by kernel_rfl) (by kernel_rfl) hs.drew ?_
   simp only [zP, zN, zM, zL]
   repeat (first | (refine zK rfl _ rfl _ rfl _ (fun u hS => hS.kb.get hB (by omega)) ?_) | (refine z8 ?_) | (refine zZ (.int .u64 (mT v 8 (2 * k) : Nat)) 51 (c := fun u hS => by exact d7 v _ (2 * k) _ (by omega) (by omega)) (r := ?_)) | (refine zZ (.int .u64 (mT v 8 (2 * k + 1) : Nat)) 51 (c := fun u hS => by exact d7 v _ (2 * k + 1) _ (by omega) (by omega)) (r := ?_)))
   refine mH (fun wq hq => ?_)
   clear e1 e2
   go_wp2_with (first | (with_reducible refine mG rfl _ rfl _ rfl _ hq.this ?_) | (go_at_call 54; refine (rN _ _ _ k (pZ false 8 v k) _ rfl (pair_u 8 v k (by decide)) (by omega)).mono ?_; rintro e u2 ⟨rfl, hb⟩; have hq2 := hq.below hb) | (with_reducible refine mK rfl _ _ rfl (w.heap.size + 2) _ rfl rfl _ hq2.this ?_; intro wz hz))
   go_roundw
   case rel => exact gU
   case measure => exact xL
  ·exact nW
theorem un_pair2 (v : Vec) (w : World) :
 Calls Try.prog 18 #[.int .i64 64894, .agg (mY v)] w fun e w' => e = .returned (.tuple #[.agg (mY (mJ 0 32 (pZ true 16 v) 4)), .int .i64 0]) ∧ Below w.heap.size w w' := by
 go_enter Try.func18, Try.ntmps18
 go_wp2_with (first | (go_at_call 55; refine (s5 _ _ _ (by unfold wrap64; decide) (by unfold wrap64; decide) (by unfold wrap64; decide)).mono ?_; rintro e w' ⟨rfl, rfl⟩))
 rw [← mU]
 obtain ⟨W, hW, hB, hR, hO, hZ⟩ := zA w v
 rw [← hW]
 clear hW
 go_loopw [51] (fun j wr => ∃ k : Nat, k ≤ 4 ∧ j = .int .i64 k ∧ St W (w.heap.size + 2) (mJ 0 32 (pZ true 16 v) k) wr) (fun j _ => 4 - (intOf j).toNat)
 case atStart => exact xE
 case round =>
  obtain ⟨k, hk, rfl, hs⟩ := hrel
  by_cases hlt : k < 4
  ·have hk0 : (0 : Int) ≤ (k : Int) := Int.natCast_nonneg _
   have e1 : IntKind.i64.wrap (2 * (k : Int)) = 2 * k := IntWalk.i64_in _ (by omega)
   have e2 : IntKind.i64.wrap (2 * (k : Int) + 1) = 2 * k + 1 := IntWalk.i64_in _ (by omega)
   go_wp2_with fail
   refine mN (St W (w.heap.size + 2) (mJ 0 32 (pZ true 16 v) k)) 12 (by kernel_rfl) (by kernel_rfl) hs.drew ?_
   simp only [zP, zN, zM, zL]
   repeat (first | (refine zK rfl _ rfl _ rfl _ (fun u hS => hS.kb.get hB (by omega)) ?_) | (refine z8 ?_) | (refine zZ (.int .u64 (mT v 16 (2 * k) : Nat)) 51 (c := fun u hS => by exact fQ v _ (2 * k) _ (by omega) (by omega)) (r := ?_)) | (refine zZ (.int .u64 (mT v 16 (2 * k + 1) : Nat)) 51 (c := fun u hS => by exact fQ v _ (2 * k + 1) _ (by omega) (by omega)) (r := ?_)))
   refine mH (fun wq hq => ?_)
   go_wp2_with fail
   refine mN (St W (w.heap.size + 2) (mJ 0 32 (pZ true 16 v) k)) 13 (by kernel_rfl) (by kernel_rfl) hq.drew ?_
   simp only [zP, zN, zM, zL]
   repeat (first | (refine zK rfl _ rfl _ rfl _ (fun u hS => hS.kb.get hB (by omega)) ?_) | (refine z8 ?_) | (refine zZ (.int .i64 (sgn 16 (mT v 16 (2 * k)))) 53 (c := fun u hS => by exact tB v _ (2 * k) _ (by omega) (by omega)) (r := ?_)) | (refine zZ (.int .i64 (sgn 16 (mT v 16 (2 * k + 1)))) 53 (c := fun u hS => by exact tB v _ (2 * k + 1) _ (by omega) (by omega)) (r := ?_)))
   refine mH (fun wq hq => ?_)
   clear e1 e2
   go_wp2_with (first | (with_reducible refine mG rfl _ rfl _ rfl _ hq.this ?_) | (go_at_call 54; refine (uK _ _ _ k (pZ true 16 v k) _ rfl (pair_s 16 v k (by decide) (by decide)) (by omega)).mono ?_; rintro e u2 ⟨rfl, hb⟩; have hq2 := hq.below hb) | (with_reducible refine mK rfl _ _ rfl (w.heap.size + 2) _ rfl rfl _ hq2.this ?_; intro wz hz))
   go_roundw
   case rel => exact gU
   case measure => exact xL
  ·exact nY
theorem un_pair3 (v : Vec) (w : World) :
 Calls Try.prog 18 #[.int .i64 64895, .agg (mY v)] w fun e w' => e = .returned (.tuple #[.agg (mY (mJ 0 32 (pZ false 16 v) 4)), .int .i64 0]) ∧ Below w.heap.size w w' := by
 go_enter Try.func18, Try.ntmps18
 go_wp2_with (first | (go_at_call 55; refine (s5 _ _ _ (by unfold wrap64; decide) (by unfold wrap64; decide) (by unfold wrap64; decide)).mono ?_; rintro e w' ⟨rfl, rfl⟩))
 rw [← mU]
 obtain ⟨W, hW, hB, hR, hO, hZ⟩ := zA w v
 rw [← hW]
 clear hW
 go_loopw [51] (fun j wr => ∃ k : Nat, k ≤ 4 ∧ j = .int .i64 k ∧ St W (w.heap.size + 2) (mJ 0 32 (pZ false 16 v) k) wr) (fun j _ => 4 - (intOf j).toNat)
 case atStart => exact xE
 case round =>
  obtain ⟨k, hk, rfl, hs⟩ := hrel
  by_cases hlt : k < 4
  ·have hk0 : (0 : Int) ≤ (k : Int) := Int.natCast_nonneg _
   have e1 : IntKind.i64.wrap (2 * (k : Int)) = 2 * k := IntWalk.i64_in _ (by omega)
   have e2 : IntKind.i64.wrap (2 * (k : Int) + 1) = 2 * k + 1 := IntWalk.i64_in _ (by omega)
   go_wp2_with fail
   refine mN (St W (w.heap.size + 2) (mJ 0 32 (pZ false 16 v) k)) 12 (by kernel_rfl) (by kernel_rfl) hs.drew ?_
   simp only [zP, zN, zM, zL]
   repeat (first | (refine zK rfl _ rfl _ rfl _ (fun u hS => hS.kb.get hB (by omega)) ?_) | (refine z8 ?_) | (refine zZ (.int .u64 (mT v 16 (2 * k) : Nat)) 51 (c := fun u hS => by exact fQ v _ (2 * k) _ (by omega) (by omega)) (r := ?_)) | (refine zZ (.int .u64 (mT v 16 (2 * k + 1) : Nat)) 51 (c := fun u hS => by exact fQ v _ (2 * k + 1) _ (by omega) (by omega)) (r := ?_)))
   refine mH (fun wq hq => ?_)
   clear e1 e2
   go_wp2_with (first | (with_reducible refine mG rfl _ rfl _ rfl _ hq.this ?_) | (go_at_call 54; refine (uK _ _ _ k (pZ false 16 v k) _ rfl (pair_u 16 v k (by decide)) (by omega)).mono ?_; rintro e u2 ⟨rfl, hb⟩; have hq2 := hq.below hb) | (with_reducible refine mK rfl _ _ rfl (w.heap.size + 2) _ rfl rfl _ hq2.this ?_; intro wz hz))
   go_roundw
   case rel => exact gU
   case measure => exact xL
  ·exact nY
theorem un_none (op : Int) (v : Vec) (w : World) (h0 : wrap64 (wrap64 (wrap64 (op - 64768) - 135)) < 0 ∨ 4 ≤ wrap64 (wrap64 (wrap64 (op - 64768) - 135)))
 (h1 : wrap64 (wrap64 (wrap64 (op - 64768) - 135) - 32) < 0 ∨ 4 ≤ wrap64 (wrap64 (wrap64 (op - 64768) - 135) - 32)) (h2 : wrap64 (wrap64 (wrap64 (op - 64768) - 135) - 64) < 0 ∨ 4 ≤ wrap64 (wrap64 (wrap64 (op - 64768) - 135) - 64))
 (h3 : wrap64 (op - 64768) < 124 ∨ 127 < wrap64 (op - 64768)) :
 Calls Try.prog 18 #[.int .i64 op, .agg (mY v)] w fun e w' => e = .returned (.tuple #[.agg (mY 0), .int .i64 1]) ∧ Below w.heap.size w w' := by
 have H0 := Lib.hid h0
 have H1 := Lib.hid h1
 have H2 := Lib.hid h2
 clear h0 h1 h2
 rcases h3 with h3 | h3
 all_goals
  go_enter Try.func18, Try.ntmps18
  go_wp2_with fail
  rw [← mU]
  obtain ⟨W, hW, hB, hR, hO, hZ⟩ := zA w v
  rw [← hW]
  clear hW
  refine (s5 _ _ _ H0.out H1.out H2.out).mono ?_
  rintro e w' ⟨rfl, rfl⟩
  go_wp2_with (first | (with_reducible refine mG rfl _ rfl _ rfl _ hO ?_) | (with_reducible refine mK rfl _ _ rfl (w.heap.size + 1) _ rfl rfl _ hR ?_; intro wq hq))
  exact bodyPost_ret (mS rfl _ _ (w.heap.size + 1) _ _ rfl rfl hq.this) rfl ⟨rfl, hZ.trans (hq.below.mono (by omega))⟩
theorem un_any (op : Int) (v : Vec) (w : World) (ho : -9223372036854775808 ≤ op ∧ op ≤ 9223372036854775807) :
 Calls Try.prog 18 #[.int .i64 op, .agg (mY v)] w fun e w' => e = .returned (.tuple #[.agg (mY (unW op v).1), .int .i64 (unW op v).2]) ∧ Below w.heap.size w w' := by
 unfold unW
 split
 ·exact un_row8 op (op - 64903).toNat v w (by omega) (by omega)
 split
 ·exact un_row16 op (op - 64935).toNat v w (by omega) (by omega)
 split
 ·exact un_row32 op (op - 64967).toNat v w (by omega) (by omega)
 split
 ·rename_i h; subst h; exact un_pair0 v w
 split
 ·rename_i h; subst h; exact un_pair1 v w
 split
 ·rename_i h; subst h; exact un_pair2 v w
 split
 ·rename_i h; subst h; exact un_pair3 v w
 ·exact un_none op v w (by unfold wrap64; omega) (by unfold wrap64; omega) (by unfold wrap64; omega) (by unfold wrap64; omega)
end Go.Proofs.Ytcpfabkokgiepaa
end
section
namespace Go.Proofs.Ytcpfabkokgiepaa
open Go.RowKit Pl
theorem run_row8_0 (v : Vec) (w : World) :
 Calls Try.prog 77 #[.int .i64 64903, .agg (mY v)] w fun e w' => e = .returned (.tuple #[.agg (mY (mJ 0 16 (tG v 8 0) 8)), .int .i64 0]) ∧ Below w.heap.size w w' := by
 go_enter Try.func77, Try.ntmps77
 go_wp2_with fail
 rw [← mU]
 obtain ⟨W, hW, hB, hR, hO, hZ⟩ := zA w v
 rw [← hW]
 clear hW
 refine wp_loop_rounds 1 ?_
 iterate 1 (rw [rounds_succ]; go_wp2_with fail)
 go_loopw [11] (fun j wr => ∃ k : Nat, k ≤ 8 ∧ j = .int .i64 k ∧ St W (w.heap.size + 2) (mJ 0 16 (tG v 8 0) k) wr) (fun j _ => 8 - (intOf j).toNat)
 case atStart => exact xE
 case round =>
  obtain ⟨k, hk, rfl, hs⟩ := hrel
  by_cases hlt : k < 8
  ·go_wp2_with fail
   refine mN (St W (w.heap.size + 2) (mJ 0 16 (tG v 8 0) k)) 14 (by kernel_rfl) (by kernel_rfl) hs.drew ?_
   simp only [zP, zN, zM, zL]
   repeat (first | (refine zK rfl _ rfl _ rfl _ (fun u hS => hS.this) ?_) | (refine zK rfl _ rfl _ rfl _ (fun u hS => hS.kb.get hB (by omega)) ?_) | (refine z8 ?_) | (refine zZ (.int .i64 (vS true 8 v k)) 87 (c := fun u hS => by exact rlane8 v k _ true _ (by omega) (by omega)) (r := ?_)) | (refine zZ (.agg (mY (t7 (mJ 0 16 (tG v 8 0) k) 16 k (tG v 8 0 k)))) 68 (c := fun u hS => by exact v4 _ _ _ k (tG v 8 0 k) _ rfl (by rw [wrap_u64, fN 8 v k 0 (by decide) (by decide) _ (by omega)]) (by omega) (fT v 8 0 k (by decide))) (r := ?_)))
   refine mH (fun wq hq => ?_)
   go_wp2_with ((with_reducible refine mK rfl _ _ rfl (w.heap.size + 2) _ rfl rfl _ hq.this ?_; intro wz hz))
   go_roundw
   case rel => exact xA
   case measure => exact xL
  ·exact nW
theorem run_row8_1 (v : Vec) (w : World) :
 Calls Try.prog 77 #[.int .i64 64904, .agg (mY v)] w fun e w' => e = .returned (.tuple #[.agg (mY (mJ 0 16 (tG v 8 1) 8)), .int .i64 0]) ∧ Below w.heap.size w w' := by
 go_enter Try.func77, Try.ntmps77
 go_wp2_with fail
 rw [← mU]
 obtain ⟨W, hW, hB, hR, hO, hZ⟩ := zA w v
 rw [← hW]
 clear hW
 refine wp_loop_rounds 1 ?_
 iterate 1 (rw [rounds_succ]; go_wp2_with fail)
 go_loopw [11] (fun j wr => ∃ k : Nat, k ≤ 8 ∧ j = .int .i64 k ∧ St W (w.heap.size + 2) (mJ 0 16 (tG v 8 1) k) wr) (fun j _ => 8 - (intOf j).toNat)
 case atStart => exact xE
 case round =>
  obtain ⟨k, hk, rfl, hs⟩ := hrel
  by_cases hlt : k < 8
  ·go_wp2_with fail
   refine mN (St W (w.heap.size + 2) (mJ 0 16 (tG v 8 1) k)) 14 (by kernel_rfl) (by kernel_rfl) hs.drew ?_
   simp only [zP, zN, zM, zL]
   repeat (first | (refine zK rfl _ rfl _ rfl _ (fun u hS => hS.this) ?_) | (refine zK rfl _ rfl _ rfl _ (fun u hS => hS.kb.get hB (by omega)) ?_) | (refine z8 ?_) | (refine zZ (.int .i64 (vS true 8 v (8 + k))) 87 (c := fun u hS => by exact rlane8 v (8 + k) _ true _ (by omega) (by omega)) (r := ?_)) | (refine zZ (.agg (mY (t7 (mJ 0 16 (tG v 8 1) k) 16 k (tG v 8 1 k)))) 68 (c := fun u hS => by exact v4 _ _ _ k (tG v 8 1 k) _ rfl (by rw [wrap_u64, fN 8 v k 1 (by decide) (by decide) _ (by omega)]) (by omega) (fT v 8 1 k (by decide))) (r := ?_)))
   refine mH (fun wq hq => ?_)
   go_wp2_with ((with_reducible refine mK rfl _ _ rfl (w.heap.size + 2) _ rfl rfl _ hq.this ?_; intro wz hz))
   go_roundw
   case rel => exact xA
   case measure => exact xL
  ·exact nW
theorem run_row8_2 (v : Vec) (w : World) :
 Calls Try.prog 77 #[.int .i64 64905, .agg (mY v)] w fun e w' => e = .returned (.tuple #[.agg (mY (mJ 0 16 (tG v 8 2) 8)), .int .i64 0]) ∧ Below w.heap.size w w' := by
 go_enter Try.func77, Try.ntmps77
 go_wp2_with fail
 rw [← mU]
 obtain ⟨W, hW, hB, hR, hO, hZ⟩ := zA w v
 rw [← hW]
 clear hW
 refine wp_loop_rounds 1 ?_
 iterate 1 (rw [rounds_succ]; go_wp2_with fail)
 go_loopw [11] (fun j wr => ∃ k : Nat, k ≤ 8 ∧ j = .int .i64 k ∧ St W (w.heap.size + 2) (mJ 0 16 (tG v 8 2) k) wr) (fun j _ => 8 - (intOf j).toNat)
 case atStart => exact xE
 case round =>
  obtain ⟨k, hk, rfl, hs⟩ := hrel
  by_cases hlt : k < 8
  ·go_wp2_with fail
   refine mN (St W (w.heap.size + 2) (mJ 0 16 (tG v 8 2) k)) 14 (by kernel_rfl) (by kernel_rfl) hs.drew ?_
   simp only [zP, zN, zM, zL]
   repeat (first | (refine zK rfl _ rfl _ rfl _ (fun u hS => hS.this) ?_) | (refine zK rfl _ rfl _ rfl _ (fun u hS => hS.kb.get hB (by omega)) ?_) | (refine z8 ?_) | (refine zZ (.int .i64 (vS false 8 v k)) 87 (c := fun u hS => by exact rlane8 v k _ false _ (by omega) (by omega)) (r := ?_)) | (refine zZ (.agg (mY (t7 (mJ 0 16 (tG v 8 2) k) 16 k (tG v 8 2 k)))) 68 (c := fun u hS => by exact v4 _ _ _ k (tG v 8 2 k) _ rfl (by rw [wrap_u64, fM 8 v k 2 (by decide) (by decide) _ (by omega)]) (by omega) (fT v 8 2 k (by decide))) (r := ?_)))
   refine mH (fun wq hq => ?_)
   go_wp2_with ((with_reducible refine mK rfl _ _ rfl (w.heap.size + 2) _ rfl rfl _ hq.this ?_; intro wz hz))
   go_roundw
   case rel => exact xA
   case measure => exact xL
  ·exact nW
theorem run_row8_3 (v : Vec) (w : World) :
 Calls Try.prog 77 #[.int .i64 64906, .agg (mY v)] w fun e w' => e = .returned (.tuple #[.agg (mY (mJ 0 16 (tG v 8 3) 8)), .int .i64 0]) ∧ Below w.heap.size w w' := by
 go_enter Try.func77, Try.ntmps77
 go_wp2_with fail
 rw [← mU]
 obtain ⟨W, hW, hB, hR, hO, hZ⟩ := zA w v
 rw [← hW]
 clear hW
 refine wp_loop_rounds 1 ?_
 iterate 1 (rw [rounds_succ]; go_wp2_with fail)
 go_loopw [11] (fun j wr => ∃ k : Nat, k ≤ 8 ∧ j = .int .i64 k ∧ St W (w.heap.size + 2) (mJ 0 16 (tG v 8 3) k) wr) (fun j _ => 8 - (intOf j).toNat)
 case atStart => exact xE
 case round =>
  obtain ⟨k, hk, rfl, hs⟩ := hrel
  by_cases hlt : k < 8
  ·go_wp2_with fail
   refine mN (St W (w.heap.size + 2) (mJ 0 16 (tG v 8 3) k)) 14 (by kernel_rfl) (by kernel_rfl) hs.drew ?_
   simp only [zP, zN, zM, zL]
   repeat (first | (refine zK rfl _ rfl _ rfl _ (fun u hS => hS.this) ?_) | (refine zK rfl _ rfl _ rfl _ (fun u hS => hS.kb.get hB (by omega)) ?_) | (refine z8 ?_) | (refine zZ (.int .i64 (vS false 8 v (8 + k))) 87 (c := fun u hS => by exact rlane8 v (8 + k) _ false _ (by omega) (by omega)) (r := ?_)) | (refine zZ (.agg (mY (t7 (mJ 0 16 (tG v 8 3) k) 16 k (tG v 8 3 k)))) 68 (c := fun u hS => by exact v4 _ _ _ k (tG v 8 3 k) _ rfl (by rw [wrap_u64, fM 8 v k 3 (by decide) (by decide) _ (by omega)]) (by omega) (fT v 8 3 k (by decide))) (r := ?_)))
   refine mH (fun wq hq => ?_)
   go_wp2_with ((with_reducible refine mK rfl _ _ rfl (w.heap.size + 2) _ rfl rfl _ hq.this ?_; intro wz hz))
   go_roundw
   case rel => exact xA
   case measure => exact xL
  ·exact nW
end Go.Proofs.Ytcpfabkokgiepaa
end
