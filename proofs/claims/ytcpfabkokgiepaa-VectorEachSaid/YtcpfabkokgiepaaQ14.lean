/-
  Texts AriU.
-/
import Derived.Test.YtcpfabkokgiepaaQ05
import Derived.Test.YtcpfabkokgiepaaQ10
import Derived.Test.YtcpfabkokgiepaaQ13
set_option linter.unusedSimpArgs false
set_option linter.unusedVariables false
set_option maxHeartbeats 8000000
open Pl
namespace Go.Proofs.Ytcpfabkokgiepaa
open Go.RowKit Pl
end Go.Proofs.Ytcpfabkokgiepaa
namespace Pl
def tC (w k : Nat) (v : Vec) (i : Nat) : Nat := if k = 2 then Go.Lib.onesCount (mT v w i) else unR w k v i
def vu3 (w k : Nat) (v : Vec) : Vec := mJ v w (tC w k v) (128 / w)
theorem get_on (v : Vec) (w : Nat) (f : Nat → Nat) (i : Nat) (h : i ≤ 128 / w) : mT (mJ v w f i) w i = mT v w i := by
 rw [pX _ _ _ _ _ h, if_neg (Nat.lt_irrefl i)]
end Pl
namespace Go.Proofs.Ytcpfabkokgiepaa
open Go.RowKit Pl
theorem eP (n : Nat) : IntKind.u64.wrap (-(n : Int)) = ((Pl.u64 (-(n : Int)) : Nat) : Int) := wrap_u64 _
theorem got8 (v : Vec) (f : Nat → Nat) (i : Nat) (w : World) (hi : i < 16) : Calls Try.prog 51 #[.agg (mY (mJ v 8 f i)), .int .i64 8, .int .i64 i] w fun e w' => e = .returned (.int .u64 (mT v 8 i : Nat)) ∧ Below w.heap.size w w' := by
 have := d7 (mJ v 8 f i) i i w rfl hi
 rw [get_on v 8 f i (by omega)] at this
 exact this
theorem gots8 (v : Vec) (f : Nat → Nat) (i : Nat) (w : World) (hi : i < 16) : Calls Try.prog 53 #[.agg (mY (mJ v 8 f i)), .int .i64 8, .int .i64 i] w fun e w' => e = .returned (.int .i64 (sgn 8 (mT v 8 i))) ∧ Below w.heap.size w w' := by
 have := vC (mJ v 8 f i) i i w rfl hi
 rw [get_on v 8 f i (by omega)] at this
 exact this
set_option maxRecDepth 100000 in
theorem un_8_0 (v : Vec) (w : World) :
 Calls Try.prog 17 #[.int .i64 64864, .agg (mY v)] w fun e w' => e = .returned (.tuple #[.agg (mY (vu3 8 0 v)), .int .i64 0]) ∧ Below w.heap.size w w' := by
 go_enter Try.func17, Try.ntmps17
 go_wp2_with (first | (go_at_call 49; refine (kind_64864 _).mono ?_; rintro e w' ⟨rfl, rfl⟩) | (go_at_call 50; ((with_reducible refine (sL _).mono ?_); rintro e w' ⟨rfl, rfl⟩)))
 rw [← mU]
 obtain ⟨W, hW, hB, hR, hZ⟩ := zC w v
 rw [← hW]
 clear hW
 go_loopw [24] (fun j wr => ∃ i : Nat, i ≤ 16 ∧ j = .int .i64 i ∧ St W w.heap.size (mJ v 8 (tC 8 0 v) i) wr) (fun j _ => 16 - (intOf j).toNat)
 case atStart => exact yU
 case round =>
  obtain ⟨i, hi, rfl, hs⟩ := hrel
  by_cases hlt : i < 16
  ·skip
   by_cases hn : sgn 8 (mT v 8 i) < 0
   ·have hz : IntKind.u64.wrap (-(mT v 8 i : Int)) = ((tC 8 0 v i : Nat) : Int) := by rw [eP]; show _ = ((if sgn 8 (mT v 8 i) < 0 then _ else _ : Nat) : Int); rw [if_pos hn]
    exact wN
   ·have hz : (mT v 8 i : Int) = ((tC 8 0 v i : Nat) : Int) := by show _ = ((if sgn 8 (mT v 8 i) < 0 then _ else _ : Nat) : Int); rw [if_neg hn]
    exact wN
  ·exact nS
set_option maxRecDepth 100000 in
theorem un_8_1 (v : Vec) (w : World) :
 Calls Try.prog 17 #[.int .i64 64865, .agg (mY v)] w fun e w' => e = .returned (.tuple #[.agg (mY (vu3 8 1 v)), .int .i64 0]) ∧ Below w.heap.size w w' := by
 go_enter Try.func17, Try.ntmps17
 go_wp2_with (first | (go_at_call 49; refine (kind_64865 _).mono ?_; rintro e w' ⟨rfl, rfl⟩) | (go_at_call 50; ((with_reducible refine (sL _).mono ?_); rintro e w' ⟨rfl, rfl⟩)))
 rw [← mU]
 obtain ⟨W, hW, hB, hR, hZ⟩ := zC w v
 rw [← hW]
 clear hW
 go_loopw [24] (fun j wr => ∃ i : Nat, i ≤ 16 ∧ j = .int .i64 i ∧ St W w.heap.size (mJ v 8 (tC 8 1 v) i) wr) (fun j _ => 16 - (intOf j).toNat)
 case atStart => exact yU
 case round =>
  obtain ⟨i, hi, rfl, hs⟩ := hrel
  by_cases hlt : i < 16
  ·skip
   have hz : IntKind.u64.wrap (-(mT v 8 i : Int)) = ((tC 8 1 v i : Nat) : Int) := eP _
   go_wp2_with (first | (with_reducible refine mG rfl _ rfl _ rfl _ hs.this ?_) | ((with_reducible refine tF ?_ _ rfl _ rfl _ hs.this ?_); (focus rfl)) | (go_at_call 51; (with_reducible refine (got8 v _ i _ (by omega)).mono ?_); rintro e u2 ⟨rfl, hb⟩; replace hs := hs.below hb; clear hb) | (go_at_call 53; (with_reducible refine (gots8 v _ i _ (by omega)).mono ?_); rintro e u2 ⟨rfl, hb⟩; replace hs := hs.below hb; clear hb) | (go_at_call 52; (refine (rF _ _ (by omega)).mono ?_); rintro e u2 ⟨rfl, hb⟩; replace hs := hs.below hb; clear hb) | (go_at_call 54; (with_reducible refine (eG _ _ _ i (tC 8 1 v i) _ rfl rfl (by omega)).mono ?_); rintro e u2 ⟨rfl, hb⟩; replace hs := hs.below hb; clear hb) | (with_reducible refine mK rfl _ _ rfl w.heap.size _ rfl rfl _ hs.this ?_; intro wy hy))
   go_roundw
   case rel => exact yY
   case measure => exact xL
  ·exact nS
set_option maxRecDepth 100000 in
theorem un_8_2 (v : Vec) (w : World) :
 Calls Try.prog 17 #[.int .i64 64866, .agg (mY v)] w fun e w' => e = .returned (.tuple #[.agg (mY (vu3 8 2 v)), .int .i64 0]) ∧ Below w.heap.size w w' := by
 go_enter Try.func17, Try.ntmps17
 go_wp2_with (first | (go_at_call 49; refine (kind_64866 _).mono ?_; rintro e w' ⟨rfl, rfl⟩) | (go_at_call 50; ((with_reducible refine (sL _).mono ?_); rintro e w' ⟨rfl, rfl⟩)))
 rw [← mU]
 obtain ⟨W, hW, hB, hR, hZ⟩ := zC w v
 rw [← hW]
 clear hW
 go_loopw [24] (fun j wr => ∃ i : Nat, i ≤ 16 ∧ j = .int .i64 i ∧ St W w.heap.size (mJ v 8 (tC 8 2 v) i) wr) (fun j _ => 16 - (intOf j).toNat)
 case atStart => exact yU
 case round =>
  obtain ⟨i, hi, rfl, hs⟩ := hrel
  by_cases hlt : i < 16
  ·skip
   have hl : mT v 8 i < 256 := mL v 8 i
   have hz : IntKind.u64.wrap ((Lib.onesCount (mT v 8 i) : Nat) : Int) = ((tC 8 2 v i : Nat) : Int) := IntWalk.u64_in _ (by have := Lib.onesCount_le8 ⟨_, hl⟩; simp only at this; omega)
   have hw := Lib.hid hz
   go_wp2_with (first | (with_reducible refine mG rfl _ rfl _ rfl _ hs.this ?_) | ((with_reducible refine tF ?_ _ rfl _ rfl _ hs.this ?_); (focus rfl)) | (go_at_call 51; (with_reducible refine (got8 v _ i _ (by omega)).mono ?_); rintro e u2 ⟨rfl, hb⟩; replace hs := hs.below hb; clear hb) | (go_at_call 53; (with_reducible refine (gots8 v _ i _ (by omega)).mono ?_); rintro e u2 ⟨rfl, hb⟩; replace hs := hs.below hb; clear hb) | (go_at_call 52; (refine (rF _ _ (by omega)).mono ?_); rintro e u2 ⟨rfl, hb⟩; replace hs := hs.below hb; clear hb) | (go_at_call 54; (with_reducible refine (eG _ _ _ i (tC 8 2 v i) _ rfl rfl (by omega)).mono ?_); rintro e u2 ⟨rfl, hb⟩; replace hs := hs.below hb; clear hb) | (with_reducible refine mK rfl _ _ rfl w.heap.size _ rfl rfl _ hs.this ?_; intro wy hy))
   go_roundw
   case rel => exact yY
   case measure => exact xL
  ·exact nS
theorem got16 (v : Vec) (f : Nat → Nat) (i : Nat) (w : World) (hi : i < 8) : Calls Try.prog 51 #[.agg (mY (mJ v 16 f i)), .int .i64 16, .int .i64 i] w fun e w' => e = .returned (.int .u64 (mT v 16 i : Nat)) ∧ Below w.heap.size w w' := by
 have := fQ (mJ v 16 f i) i i w rfl hi
 rw [get_on v 16 f i (by omega)] at this
 exact this
theorem gots16 (v : Vec) (f : Nat → Nat) (i : Nat) (w : World) (hi : i < 8) : Calls Try.prog 53 #[.agg (mY (mJ v 16 f i)), .int .i64 16, .int .i64 i] w fun e w' => e = .returned (.int .i64 (sgn 16 (mT v 16 i))) ∧ Below w.heap.size w w' := by
 have := tB (mJ v 16 f i) i i w rfl hi
 rw [get_on v 16 f i (by omega)] at this
 exact this
set_option maxRecDepth 100000 in
theorem un_16_0 (v : Vec) (w : World) :
 Calls Try.prog 17 #[.int .i64 64896, .agg (mY v)] w fun e w' => e = .returned (.tuple #[.agg (mY (vu3 16 0 v)), .int .i64 0]) ∧ Below w.heap.size w w' := by
 go_enter Try.func17, Try.ntmps17
 go_wp2_with (first | (go_at_call 49; refine (kind_64896 _).mono ?_; rintro e w' ⟨rfl, rfl⟩) | (go_at_call 50; ((with_reducible refine (rD _).mono ?_); rintro e w' ⟨rfl, rfl⟩)))
 rw [← mU]
 obtain ⟨W, hW, hB, hR, hZ⟩ := zC w v
 rw [← hW]
 clear hW
 go_loopw [24] (fun j wr => ∃ i : Nat, i ≤ 8 ∧ j = .int .i64 i ∧ St W w.heap.size (mJ v 16 (tC 16 0 v) i) wr) (fun j _ => 8 - (intOf j).toNat)
 case atStart => exact yU
 case round =>
  obtain ⟨i, hi, rfl, hs⟩ := hrel
  by_cases hlt : i < 8
  ·skip
   by_cases hn : sgn 16 (mT v 16 i) < 0
   ·have hz : IntKind.u64.wrap (-(mT v 16 i : Int)) = ((tC 16 0 v i : Nat) : Int) := by rw [eP]; show _ = ((if sgn 16 (mT v 16 i) < 0 then _ else _ : Nat) : Int); rw [if_pos hn]
    exact wP
   ·have hz : (mT v 16 i : Int) = ((tC 16 0 v i : Nat) : Int) := by show _ = ((if sgn 16 (mT v 16 i) < 0 then _ else _ : Nat) : Int); rw [if_neg hn]
    exact wP
  ·exact nE
set_option maxRecDepth 100000 in
theorem un_16_1 (v : Vec) (w : World) :
 Calls Try.prog 17 #[.int .i64 64897, .agg (mY v)] w fun e w' => e = .returned (.tuple #[.agg (mY (vu3 16 1 v)), .int .i64 0]) ∧ Below w.heap.size w w' := by
 go_enter Try.func17, Try.ntmps17
 go_wp2_with (first | (go_at_call 49; refine (kind_64897 _).mono ?_; rintro e w' ⟨rfl, rfl⟩) | (go_at_call 50; ((with_reducible refine (rD _).mono ?_); rintro e w' ⟨rfl, rfl⟩)))
 rw [← mU]
 obtain ⟨W, hW, hB, hR, hZ⟩ := zC w v
 rw [← hW]
 clear hW
 go_loopw [24] (fun j wr => ∃ i : Nat, i ≤ 8 ∧ j = .int .i64 i ∧ St W w.heap.size (mJ v 16 (tC 16 1 v) i) wr) (fun j _ => 8 - (intOf j).toNat)
 case atStart => exact yU
 case round =>
  obtain ⟨i, hi, rfl, hs⟩ := hrel
  by_cases hlt : i < 8
  ·skip
   have hz : IntKind.u64.wrap (-(mT v 16 i : Int)) = ((tC 16 1 v i : Nat) : Int) := eP _
   go_wp2_with (first | (with_reducible refine mG rfl _ rfl _ rfl _ hs.this ?_) | ((with_reducible refine tF ?_ _ rfl _ rfl _ hs.this ?_); (focus rfl)) | (go_at_call 51; (with_reducible refine (got16 v _ i _ (by omega)).mono ?_); rintro e u2 ⟨rfl, hb⟩; replace hs := hs.below hb; clear hb) | (go_at_call 53; (with_reducible refine (gots16 v _ i _ (by omega)).mono ?_); rintro e u2 ⟨rfl, hb⟩; replace hs := hs.below hb; clear hb) | (go_at_call 52; (refine (rF _ _ (by omega)).mono ?_); rintro e u2 ⟨rfl, hb⟩; replace hs := hs.below hb; clear hb) | (go_at_call 54; (with_reducible refine (rN _ _ _ i (tC 16 1 v i) _ rfl rfl (by omega)).mono ?_); rintro e u2 ⟨rfl, hb⟩; replace hs := hs.below hb; clear hb) | (with_reducible refine mK rfl _ _ rfl w.heap.size _ rfl rfl _ hs.this ?_; intro wy hy))
   go_roundw
   case rel => exact yY
   case measure => exact xL
  ·exact nE
theorem got32 (v : Vec) (f : Nat → Nat) (i : Nat) (w : World) (hi : i < 4) : Calls Try.prog 51 #[.agg (mY (mJ v 32 f i)), .int .i64 32, .int .i64 i] w fun e w' => e = .returned (.int .u64 (mT v 32 i : Nat)) ∧ Below w.heap.size w w' := by
 have := eH (mJ v 32 f i) i i w rfl hi
 rw [get_on v 32 f i (by omega)] at this
 exact this
theorem gots32 (v : Vec) (f : Nat → Nat) (i : Nat) (w : World) (hi : i < 4) : Calls Try.prog 53 #[.agg (mY (mJ v 32 f i)), .int .i64 32, .int .i64 i] w fun e w' => e = .returned (.int .i64 (sgn 32 (mT v 32 i))) ∧ Below w.heap.size w w' := by
 have := v9 (mJ v 32 f i) i i w rfl hi
 rw [get_on v 32 f i (by omega)] at this
 exact this
set_option maxRecDepth 100000 in
theorem un_32_0 (v : Vec) (w : World) :
 Calls Try.prog 17 #[.int .i64 64928, .agg (mY v)] w fun e w' => e = .returned (.tuple #[.agg (mY (vu3 32 0 v)), .int .i64 0]) ∧ Below w.heap.size w w' := by
 go_enter Try.func17, Try.ntmps17
 go_wp2_with (first | (go_at_call 49; refine (kind_64928 _).mono ?_; rintro e w' ⟨rfl, rfl⟩) | (go_at_call 50; ((with_reducible refine (sX _).mono ?_); rintro e w' ⟨rfl, rfl⟩)))
 rw [← mU]
 obtain ⟨W, hW, hB, hR, hZ⟩ := zC w v
 rw [← hW]
 clear hW
 go_loopw [24] (fun j wr => ∃ i : Nat, i ≤ 4 ∧ j = .int .i64 i ∧ St W w.heap.size (mJ v 32 (tC 32 0 v) i) wr) (fun j _ => 4 - (intOf j).toNat)
 case atStart => exact yU
 case round =>
  obtain ⟨i, hi, rfl, hs⟩ := hrel
  by_cases hlt : i < 4
  ·skip
   by_cases hn : sgn 32 (mT v 32 i) < 0
   ·have hz : IntKind.u64.wrap (-(mT v 32 i : Int)) = ((tC 32 0 v i : Nat) : Int) := by rw [eP]; show _ = ((if sgn 32 (mT v 32 i) < 0 then _ else _ : Nat) : Int); rw [if_pos hn]
    exact wR
   ·have hz : (mT v 32 i : Int) = ((tC 32 0 v i : Nat) : Int) := by show _ = ((if sgn 32 (mT v 32 i) < 0 then _ else _ : Nat) : Int); rw [if_neg hn]
    exact wR
  ·exact nD
set_option maxRecDepth 100000 in
theorem un_32_1 (v : Vec) (w : World) :
 Calls Try.prog 17 #[.int .i64 64929, .agg (mY v)] w fun e w' => e = .returned (.tuple #[.agg (mY (vu3 32 1 v)), .int .i64 0]) ∧ Below w.heap.size w w' := by
 go_enter Try.func17, Try.ntmps17
 go_wp2_with (first | (go_at_call 49; refine (kind_64929 _).mono ?_; rintro e w' ⟨rfl, rfl⟩) | (go_at_call 50; ((with_reducible refine (sX _).mono ?_); rintro e w' ⟨rfl, rfl⟩)))
 rw [← mU]
 obtain ⟨W, hW, hB, hR, hZ⟩ := zC w v
 rw [← hW]
 clear hW
 go_loopw [24] (fun j wr => ∃ i : Nat, i ≤ 4 ∧ j = .int .i64 i ∧ St W w.heap.size (mJ v 32 (tC 32 1 v) i) wr) (fun j _ => 4 - (intOf j).toNat)
 case atStart => exact yU
 case round =>
  obtain ⟨i, hi, rfl, hs⟩ := hrel
  by_cases hlt : i < 4
  ·skip
   have hz : IntKind.u64.wrap (-(mT v 32 i : Int)) = ((tC 32 1 v i : Nat) : Int) := eP _
   go_wp2_with (first | (with_reducible refine mG rfl _ rfl _ rfl _ hs.this ?_) | ((with_reducible refine tF ?_ _ rfl _ rfl _ hs.this ?_); (focus rfl)) | (go_at_call 51; (with_reducible refine (got32 v _ i _ (by omega)).mono ?_); rintro e u2 ⟨rfl, hb⟩; replace hs := hs.below hb; clear hb) | (go_at_call 53; (with_reducible refine (gots32 v _ i _ (by omega)).mono ?_); rintro e u2 ⟨rfl, hb⟩; replace hs := hs.below hb; clear hb) | (go_at_call 52; (refine (rF _ _ (by omega)).mono ?_); rintro e u2 ⟨rfl, hb⟩; replace hs := hs.below hb; clear hb) | (go_at_call 54; (with_reducible refine (uK _ _ _ i (tC 32 1 v i) _ rfl rfl (by omega)).mono ?_); rintro e u2 ⟨rfl, hb⟩; replace hs := hs.below hb; clear hb) | (with_reducible refine mK rfl _ _ rfl w.heap.size _ rfl rfl _ hs.this ?_; intro wy hy))
   go_roundw
   case rel => exact yY
   case measure => exact xL
  ·exact nD
theorem got64 (v : Vec) (f : Nat → Nat) (i : Nat) (w : World) (hi : i < 2) : Calls Try.prog 51 #[.agg (mY (mJ v 64 f i)), .int .i64 64, .int .i64 i] w fun e w' => e = .returned (.int .u64 (mT v 64 i : Nat)) ∧ Below w.heap.size w w' := by
 have := dL (mJ v 64 f i) i i w rfl hi
 rw [get_on v 64 f i (by omega)] at this
 exact this
theorem gots64 (v : Vec) (f : Nat → Nat) (i : Nat) (w : World) (hi : i < 2) : Calls Try.prog 53 #[.agg (mY (mJ v 64 f i)), .int .i64 64, .int .i64 i] w fun e w' => e = .returned (.int .i64 (sgn 64 (mT v 64 i))) ∧ Below w.heap.size w w' := by
 have := s7 (mJ v 64 f i) i i w rfl hi
 rw [get_on v 64 f i (by omega)] at this
 exact this
set_option maxRecDepth 100000 in
theorem un_64_0 (v : Vec) (w : World) :
 Calls Try.prog 17 #[.int .i64 64960, .agg (mY v)] w fun e w' => e = .returned (.tuple #[.agg (mY (vu3 64 0 v)), .int .i64 0]) ∧ Below w.heap.size w w' := by
 go_enter Try.func17, Try.ntmps17
 go_wp2_with (first | (go_at_call 49; refine (kind_64960 _).mono ?_; rintro e w' ⟨rfl, rfl⟩) | (go_at_call 50; ((with_reducible refine (sZ _).mono ?_); rintro e w' ⟨rfl, rfl⟩)))
 rw [← mU]
 obtain ⟨W, hW, hB, hR, hZ⟩ := zC w v
 rw [← hW]
 clear hW
 go_loopw [24] (fun j wr => ∃ i : Nat, i ≤ 2 ∧ j = .int .i64 i ∧ St W w.heap.size (mJ v 64 (tC 64 0 v) i) wr) (fun j _ => 2 - (intOf j).toNat)
 case atStart => exact yU
 case round =>
  obtain ⟨i, hi, rfl, hs⟩ := hrel
  by_cases hlt : i < 2
  ·skip
   by_cases hn : sgn 64 (mT v 64 i) < 0
   ·have hz : IntKind.u64.wrap (-(mT v 64 i : Int)) = ((tC 64 0 v i : Nat) : Int) := by rw [eP]; show _ = ((if sgn 64 (mT v 64 i) < 0 then _ else _ : Nat) : Int); rw [if_pos hn]
    exact wS
   ·have hz : (mT v 64 i : Int) = ((tC 64 0 v i : Nat) : Int) := by show _ = ((if sgn 64 (mT v 64 i) < 0 then _ else _ : Nat) : Int); rw [if_neg hn]
    exact wS
  ·exact nC
set_option maxRecDepth 100000 in
theorem un_64_1 (v : Vec) (w : World) :
 Calls Try.prog 17 #[.int .i64 64961, .agg (mY v)] w fun e w' => e = .returned (.tuple #[.agg (mY (vu3 64 1 v)), .int .i64 0]) ∧ Below w.heap.size w w' := by
 go_enter Try.func17, Try.ntmps17
 go_wp2_with (first | (go_at_call 49; refine (kind_64961 _).mono ?_; rintro e w' ⟨rfl, rfl⟩) | (go_at_call 50; ((with_reducible refine (sZ _).mono ?_); rintro e w' ⟨rfl, rfl⟩)))
 rw [← mU]
 obtain ⟨W, hW, hB, hR, hZ⟩ := zC w v
 rw [← hW]
 clear hW
 go_loopw [24] (fun j wr => ∃ i : Nat, i ≤ 2 ∧ j = .int .i64 i ∧ St W w.heap.size (mJ v 64 (tC 64 1 v) i) wr) (fun j _ => 2 - (intOf j).toNat)
 case atStart => exact yU
 case round =>
  obtain ⟨i, hi, rfl, hs⟩ := hrel
  by_cases hlt : i < 2
  ·skip
   have hz : IntKind.u64.wrap (-(mT v 64 i : Int)) = ((tC 64 1 v i : Nat) : Int) := eP _
   go_wp2_with (first | (with_reducible refine mG rfl _ rfl _ rfl _ hs.this ?_) | ((with_reducible refine tF ?_ _ rfl _ rfl _ hs.this ?_); (focus rfl)) | (go_at_call 51; (with_reducible refine (got64 v _ i _ (by omega)).mono ?_); rintro e u2 ⟨rfl, hb⟩; replace hs := hs.below hb; clear hb) | (go_at_call 53; (with_reducible refine (gots64 v _ i _ (by omega)).mono ?_); rintro e u2 ⟨rfl, hb⟩; replace hs := hs.below hb; clear hb) | (go_at_call 52; (refine (rF _ _ (by omega)).mono ?_); rintro e u2 ⟨rfl, hb⟩; replace hs := hs.below hb; clear hb) | (go_at_call 54; (with_reducible refine (fD _ _ _ i (tC 64 1 v i) _ rfl rfl (by omega)).mono ?_); rintro e u2 ⟨rfl, hb⟩; replace hs := hs.below hb; clear hb) | (with_reducible refine mK rfl _ _ rfl w.heap.size _ rfl rfl _ hs.this ?_; intro wy hy))
   go_roundw
   case rel => exact yY
   case measure => exact xL
  ·exact nC
end Go.Proofs.Ytcpfabkokgiepaa
