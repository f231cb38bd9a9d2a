/-
  Texts AriS.
-/
import Derived.Test.YtcpfabkokgiepaaQ14
set_option linter.unusedSimpArgs false
set_option linter.unusedVariables false
set_option maxHeartbeats 8000000
open Pl
namespace Go.Proofs.Ytcpfabkokgiepaa
open Go.RowKit Pl
end Go.Proofs.Ytcpfabkokgiepaa
namespace Pl
def shR (w k p : Nat) (v : Vec) (i : Nat) : Nat := if k = 11 then u64 ((mT v w i : Int) * 2 ^ p) else if k = 12 then u64 (sgn w (mT v w i) / 2 ^ p) else u64 ((mT v w i : Int) / 2 ^ p)
def vs (w k p : Nat) (v : Vec) : Vec := mJ v w (shR w k p v) (128 / w)
end Pl
namespace Go.Proofs.Ytcpfabkokgiepaa
open Go.RowKit Pl
theorem shr_z (n p : Nat) (h : n < 2 ^ 64) : (n : Int) / 2 ^ p = ((Pl.u64 ((n : Int) / 2 ^ p) : Nat) : Int) := by
 have e : (n : Int) / 2 ^ p = ((n / 2 ^ p : Nat) : Int) := by simp
 have h2 : n / 2 ^ p ≤ n := Nat.div_le_self _ _
 rw [e, u64_nat _ (by omega)]
set_option maxRecDepth 100000 in
theorem sh_8_11 (v : Vec) (n p : Nat) (w : World) (hp : n % 8 = p) (hn : n < 4294967296) :
 Calls Try.prog 24 #[.int .i64 64875, .agg (mY v), .int .u32 (n : Int)] w fun e w' => e = .returned (.tuple #[.agg (mY (vs 8 11 p v)), .int .i64 0]) ∧ Below w.heap.size w w' := by
 have hp2 : (n : Int) % 8 = (p : Int) := by omega
 have hp3 : p < 8 := by omega
 clear hp
 go_enter Try.func24, Try.ntmps24
 go_wp2_with (first | (go_at_call 49; refine (kind_64875 _).mono ?_; rintro e w' ⟨rfl, rfl⟩) | (go_at_call 50; ((with_reducible refine (sL _).mono ?_); rintro e w' ⟨rfl, rfl⟩)))
 rw [← mU]
 obtain ⟨W, hW, hB, hR, hZ⟩ := zC w v
 rw [← hW]
 clear hW hp2 hn
 skip
 go_loopw [34] (fun j wr => ∃ i : Nat, i ≤ 16 ∧ j = .int .i64 i ∧ St W w.heap.size (mJ v 8 (shR 8 11 p v) i) wr) (fun j _ => 16 - (intOf j).toNat)
 case atStart => exact yU
 case round =>
  obtain ⟨i, hi, rfl, hs⟩ := hrel
  by_cases hlt : i < 16
  ·have hz : IntKind.u64.wrap ((mT v 8 i : Int) * 2 ^ p) = ((shR 8 11 p v i : Nat) : Int) := wrap_u64 _
   go_wp2_with (first | (with_reducible refine mG rfl _ rfl _ rfl _ hs.this ?_) | (go_at_call 51; (with_reducible refine (got8 v _ i _ (by omega)).mono ?_); rintro e u2 ⟨rfl, hb⟩; replace hs := hs.below hb; clear hb) | (go_at_call 53; (with_reducible refine (gots8 v _ i _ (by omega)).mono ?_); rintro e u2 ⟨rfl, hb⟩; replace hs := hs.below hb; clear hb) | (go_at_call 54; (with_reducible refine (eG _ _ _ i (shR 8 11 p v i) _ rfl rfl (by omega)).mono ?_); rintro e u2 ⟨rfl, hb⟩; replace hs := hs.below hb; clear hb) | (with_reducible refine mK rfl _ _ rfl w.heap.size _ rfl rfl _ hs.this ?_; intro wy hy))
   go_roundw
   case rel => exact yY
   case measure => exact xL
  ·exact nS
set_option maxRecDepth 100000 in
theorem sh_8_12 (v : Vec) (n p : Nat) (w : World) (hp : n % 8 = p) (hn : n < 4294967296) :
 Calls Try.prog 24 #[.int .i64 64876, .agg (mY v), .int .u32 (n : Int)] w fun e w' => e = .returned (.tuple #[.agg (mY (vs 8 12 p v)), .int .i64 0]) ∧ Below w.heap.size w w' := by
 have hp2 : (n : Int) % 8 = (p : Int) := by omega
 have hp3 : p < 8 := by omega
 clear hp
 go_enter Try.func24, Try.ntmps24
 go_wp2_with (first | (go_at_call 49; refine (kind_64876 _).mono ?_; rintro e w' ⟨rfl, rfl⟩) | (go_at_call 50; ((with_reducible refine (sL _).mono ?_); rintro e w' ⟨rfl, rfl⟩)))
 rw [← mU]
 obtain ⟨W, hW, hB, hR, hZ⟩ := zC w v
 rw [← hW]
 clear hW hp2 hn
 skip
 go_loopw [34] (fun j wr => ∃ i : Nat, i ≤ 16 ∧ j = .int .i64 i ∧ St W w.heap.size (mJ v 8 (shR 8 12 p v) i) wr) (fun j _ => 16 - (intOf j).toNat)
 case atStart => exact yU
 case round =>
  obtain ⟨i, hi, rfl, hs⟩ := hrel
  by_cases hlt : i < 16
  ·have hz : IntKind.u64.wrap (sgn 8 (mT v 8 i) / 2 ^ p) = ((shR 8 12 p v i : Nat) : Int) := wrap_u64 _
   go_wp2_with (first | (with_reducible refine mG rfl _ rfl _ rfl _ hs.this ?_) | (go_at_call 51; (with_reducible refine (got8 v _ i _ (by omega)).mono ?_); rintro e u2 ⟨rfl, hb⟩; replace hs := hs.below hb; clear hb) | (go_at_call 53; (with_reducible refine (gots8 v _ i _ (by omega)).mono ?_); rintro e u2 ⟨rfl, hb⟩; replace hs := hs.below hb; clear hb) | (go_at_call 54; (with_reducible refine (eG _ _ _ i (shR 8 12 p v i) _ rfl rfl (by omega)).mono ?_); rintro e u2 ⟨rfl, hb⟩; replace hs := hs.below hb; clear hb) | (with_reducible refine mK rfl _ _ rfl w.heap.size _ rfl rfl _ hs.this ?_; intro wy hy))
   go_roundw
   case rel => exact yY
   case measure => exact xL
  ·exact nS
set_option maxRecDepth 100000 in
theorem sh_8_13 (v : Vec) (n p : Nat) (w : World) (hp : n % 8 = p) (hn : n < 4294967296) :
 Calls Try.prog 24 #[.int .i64 64877, .agg (mY v), .int .u32 (n : Int)] w fun e w' => e = .returned (.tuple #[.agg (mY (vs 8 13 p v)), .int .i64 0]) ∧ Below w.heap.size w w' := by
 have hp2 : (n : Int) % 8 = (p : Int) := by omega
 have hp3 : p < 8 := by omega
 clear hp
 go_enter Try.func24, Try.ntmps24
 go_wp2_with (first | (go_at_call 49; refine (kind_64877 _).mono ?_; rintro e w' ⟨rfl, rfl⟩) | (go_at_call 50; ((with_reducible refine (sL _).mono ?_); rintro e w' ⟨rfl, rfl⟩)))
 rw [← mU]
 obtain ⟨W, hW, hB, hR, hZ⟩ := zC w v
 rw [← hW]
 clear hW hp2 hn
 skip
 go_loopw [34] (fun j wr => ∃ i : Nat, i ≤ 16 ∧ j = .int .i64 i ∧ St W w.heap.size (mJ v 8 (shR 8 13 p v) i) wr) (fun j _ => 16 - (intOf j).toNat)
 case atStart => exact yU
 case round =>
  obtain ⟨i, hi, rfl, hs⟩ := hrel
  by_cases hlt : i < 16
  ·have hz : (mT v 8 i : Int) / 2 ^ p = ((shR 8 13 p v i : Nat) : Int) := shr_z _ p (Nat.lt_of_lt_of_le (mL v 8 i) (by decide))
   go_wp2_with (first | (with_reducible refine mG rfl _ rfl _ rfl _ hs.this ?_) | (go_at_call 51; (with_reducible refine (got8 v _ i _ (by omega)).mono ?_); rintro e u2 ⟨rfl, hb⟩; replace hs := hs.below hb; clear hb) | (go_at_call 53; (with_reducible refine (gots8 v _ i _ (by omega)).mono ?_); rintro e u2 ⟨rfl, hb⟩; replace hs := hs.below hb; clear hb) | (go_at_call 54; (with_reducible refine (eG _ _ _ i (shR 8 13 p v i) _ rfl rfl (by omega)).mono ?_); rintro e u2 ⟨rfl, hb⟩; replace hs := hs.below hb; clear hb) | (with_reducible refine mK rfl _ _ rfl w.heap.size _ rfl rfl _ hs.this ?_; intro wy hy))
   go_roundw
   case rel => exact yY
   case measure => exact xL
  ·exact nS
set_option maxRecDepth 100000 in
theorem sh_16_11 (v : Vec) (n p : Nat) (w : World) (hp : n % 16 = p) (hn : n < 4294967296) :
 Calls Try.prog 24 #[.int .i64 64907, .agg (mY v), .int .u32 (n : Int)] w fun e w' => e = .returned (.tuple #[.agg (mY (vs 16 11 p v)), .int .i64 0]) ∧ Below w.heap.size w w' := by
 have hp2 : (n : Int) % 16 = (p : Int) := by omega
 have hp3 : p < 16 := by omega
 clear hp
 go_enter Try.func24, Try.ntmps24
 go_wp2_with (first | (go_at_call 49; refine (kind_64907 _).mono ?_; rintro e w' ⟨rfl, rfl⟩) | (go_at_call 50; ((with_reducible refine (rD _).mono ?_); rintro e w' ⟨rfl, rfl⟩)))
 rw [← mU]
 obtain ⟨W, hW, hB, hR, hZ⟩ := zC w v
 rw [← hW]
 clear hW hp2 hn
 skip
 go_loopw [34] (fun j wr => ∃ i : Nat, i ≤ 8 ∧ j = .int .i64 i ∧ St W w.heap.size (mJ v 16 (shR 16 11 p v) i) wr) (fun j _ => 8 - (intOf j).toNat)
 case atStart => exact yU
 case round =>
  obtain ⟨i, hi, rfl, hs⟩ := hrel
  by_cases hlt : i < 8
  ·have hz : IntKind.u64.wrap ((mT v 16 i : Int) * 2 ^ p) = ((shR 16 11 p v i : Nat) : Int) := wrap_u64 _
   go_wp2_with (first | (with_reducible refine mG rfl _ rfl _ rfl _ hs.this ?_) | (go_at_call 51; (with_reducible refine (got16 v _ i _ (by omega)).mono ?_); rintro e u2 ⟨rfl, hb⟩; replace hs := hs.below hb; clear hb) | (go_at_call 53; (with_reducible refine (gots16 v _ i _ (by omega)).mono ?_); rintro e u2 ⟨rfl, hb⟩; replace hs := hs.below hb; clear hb) | (go_at_call 54; (with_reducible refine (rN _ _ _ i (shR 16 11 p v i) _ rfl rfl (by omega)).mono ?_); rintro e u2 ⟨rfl, hb⟩; replace hs := hs.below hb; clear hb) | (with_reducible refine mK rfl _ _ rfl w.heap.size _ rfl rfl _ hs.this ?_; intro wy hy))
   go_roundw
   case rel => exact yY
   case measure => exact xL
  ·exact nE
set_option maxRecDepth 100000 in
theorem sh_16_12 (v : Vec) (n p : Nat) (w : World) (hp : n % 16 = p) (hn : n < 4294967296) :
 Calls Try.prog 24 #[.int .i64 64908, .agg (mY v), .int .u32 (n : Int)] w fun e w' => e = .returned (.tuple #[.agg (mY (vs 16 12 p v)), .int .i64 0]) ∧ Below w.heap.size w w' := by
 have hp2 : (n : Int) % 16 = (p : Int) := by omega
 have hp3 : p < 16 := by omega
 clear hp
 go_enter Try.func24, Try.ntmps24
 go_wp2_with (first | (go_at_call 49; refine (kind_64908 _).mono ?_; rintro e w' ⟨rfl, rfl⟩) | (go_at_call 50; ((with_reducible refine (rD _).mono ?_); rintro e w' ⟨rfl, rfl⟩)))
 rw [← mU]
 obtain ⟨W, hW, hB, hR, hZ⟩ := zC w v
 rw [← hW]
 clear hW hp2 hn
 skip
 go_loopw [34] (fun j wr => ∃ i : Nat, i ≤ 8 ∧ j = .int .i64 i ∧ St W w.heap.size (mJ v 16 (shR 16 12 p v) i) wr) (fun j _ => 8 - (intOf j).toNat)
 case atStart => exact yU
 case round =>
  obtain ⟨i, hi, rfl, hs⟩ := hrel
  by_cases hlt : i < 8
  ·have hz : IntKind.u64.wrap (sgn 16 (mT v 16 i) / 2 ^ p) = ((shR 16 12 p v i : Nat) : Int) := wrap_u64 _
   go_wp2_with (first | (with_reducible refine mG rfl _ rfl _ rfl _ hs.this ?_) | (go_at_call 51; (with_reducible refine (got16 v _ i _ (by omega)).mono ?_); rintro e u2 ⟨rfl, hb⟩; replace hs := hs.below hb; clear hb) | (go_at_call 53; (with_reducible refine (gots16 v _ i _ (by omega)).mono ?_); rintro e u2 ⟨rfl, hb⟩; replace hs := hs.below hb; clear hb) | (go_at_call 54; (with_reducible refine (rN _ _ _ i (shR 16 12 p v i) _ rfl rfl (by omega)).mono ?_); rintro e u2 ⟨rfl, hb⟩; replace hs := hs.below hb; clear hb) | (with_reducible refine mK rfl _ _ rfl w.heap.size _ rfl rfl _ hs.this ?_; intro wy hy))
   go_roundw
   case rel => exact yY
   case measure => exact xL
  ·exact nE
set_option maxRecDepth 100000 in
theorem sh_16_13 (v : Vec) (n p : Nat) (w : World) (hp : n % 16 = p) (hn : n < 4294967296) :
 Calls Try.prog 24 #[.int .i64 64909, .agg (mY v), .int .u32 (n : Int)] w fun e w' => e = .returned (.tuple #[.agg (mY (vs 16 13 p v)), .int .i64 0]) ∧ Below w.heap.size w w' := by
 have hp2 : (n : Int) % 16 = (p : Int) := by omega
 have hp3 : p < 16 := by omega
 clear hp
 go_enter Try.func24, Try.ntmps24
 go_wp2_with (first | (go_at_call 49; refine (kind_64909 _).mono ?_; rintro e w' ⟨rfl, rfl⟩) | (go_at_call 50; ((with_reducible refine (rD _).mono ?_); rintro e w' ⟨rfl, rfl⟩)))
 rw [← mU]
 obtain ⟨W, hW, hB, hR, hZ⟩ := zC w v
 rw [← hW]
 clear hW hp2 hn
 skip
 go_loopw [34] (fun j wr => ∃ i : Nat, i ≤ 8 ∧ j = .int .i64 i ∧ St W w.heap.size (mJ v 16 (shR 16 13 p v) i) wr) (fun j _ => 8 - (intOf j).toNat)
 case atStart => exact yU
 case round =>
  obtain ⟨i, hi, rfl, hs⟩ := hrel
  by_cases hlt : i < 8
  ·have hz : (mT v 16 i : Int) / 2 ^ p = ((shR 16 13 p v i : Nat) : Int) := shr_z _ p (Nat.lt_of_lt_of_le (mL v 16 i) (by decide))
   go_wp2_with (first | (with_reducible refine mG rfl _ rfl _ rfl _ hs.this ?_) | (go_at_call 51; (with_reducible refine (got16 v _ i _ (by omega)).mono ?_); rintro e u2 ⟨rfl, hb⟩; replace hs := hs.below hb; clear hb) | (go_at_call 53; (with_reducible refine (gots16 v _ i _ (by omega)).mono ?_); rintro e u2 ⟨rfl, hb⟩; replace hs := hs.below hb; clear hb) | (go_at_call 54; (with_reducible refine (rN _ _ _ i (shR 16 13 p v i) _ rfl rfl (by omega)).mono ?_); rintro e u2 ⟨rfl, hb⟩; replace hs := hs.below hb; clear hb) | (with_reducible refine mK rfl _ _ rfl w.heap.size _ rfl rfl _ hs.this ?_; intro wy hy))
   go_roundw
   case rel => exact yY
   case measure => exact xL
  ·exact nE
set_option maxRecDepth 100000 in
theorem sh_32_11 (v : Vec) (n p : Nat) (w : World) (hp : n % 32 = p) (hn : n < 4294967296) :
 Calls Try.prog 24 #[.int .i64 64939, .agg (mY v), .int .u32 (n : Int)] w fun e w' => e = .returned (.tuple #[.agg (mY (vs 32 11 p v)), .int .i64 0]) ∧ Below w.heap.size w w' := by
 have hp2 : (n : Int) % 32 = (p : Int) := by omega
 have hp3 : p < 32 := by omega
 clear hp
 go_enter Try.func24, Try.ntmps24
 go_wp2_with (first | (go_at_call 49; refine (kind_64939 _).mono ?_; rintro e w' ⟨rfl, rfl⟩) | (go_at_call 50; ((with_reducible refine (sX _).mono ?_); rintro e w' ⟨rfl, rfl⟩)))
 rw [← mU]
 obtain ⟨W, hW, hB, hR, hZ⟩ := zC w v
 rw [← hW]
 clear hW hp2 hn
 skip
 go_loopw [34] (fun j wr => ∃ i : Nat, i ≤ 4 ∧ j = .int .i64 i ∧ St W w.heap.size (mJ v 32 (shR 32 11 p v) i) wr) (fun j _ => 4 - (intOf j).toNat)
 case atStart => exact yU
 case round =>
  obtain ⟨i, hi, rfl, hs⟩ := hrel
  by_cases hlt : i < 4
  ·have hz : IntKind.u64.wrap ((mT v 32 i : Int) * 2 ^ p) = ((shR 32 11 p v i : Nat) : Int) := wrap_u64 _
   go_wp2_with (first | (with_reducible refine mG rfl _ rfl _ rfl _ hs.this ?_) | (go_at_call 51; (with_reducible refine (got32 v _ i _ (by omega)).mono ?_); rintro e u2 ⟨rfl, hb⟩; replace hs := hs.below hb; clear hb) | (go_at_call 53; (with_reducible refine (gots32 v _ i _ (by omega)).mono ?_); rintro e u2 ⟨rfl, hb⟩; replace hs := hs.below hb; clear hb) | (go_at_call 54; (with_reducible refine (uK _ _ _ i (shR 32 11 p v i) _ rfl rfl (by omega)).mono ?_); rintro e u2 ⟨rfl, hb⟩; replace hs := hs.below hb; clear hb) | (with_reducible refine mK rfl _ _ rfl w.heap.size _ rfl rfl _ hs.this ?_; intro wy hy))
   go_roundw
   case rel => exact yY
   case measure => exact xL
  ·exact nD
set_option maxRecDepth 100000 in
theorem sh_32_12 (v : Vec) (n p : Nat) (w : World) (hp : n % 32 = p) (hn : n < 4294967296) :
 Calls Try.prog 24 #[.int .i64 64940, .agg (mY v), .int .u32 (n : Int)] w fun e w' => e = .returned (.tuple #[.agg (mY (vs 32 12 p v)), .int .i64 0]) ∧ Below w.heap.size w w' := by
 have hp2 : (n : Int) % 32 = (p : Int) := by omega
 have hp3 : p < 32 := by omega
 clear hp
 go_enter Try.func24, Try.ntmps24
 go_wp2_with (first | (go_at_call 49; refine (kind_64940 _).mono ?_; rintro e w' ⟨rfl, rfl⟩) | (go_at_call 50; ((with_reducible refine (sX _).mono ?_); rintro e w' ⟨rfl, rfl⟩)))
 rw [← mU]
 obtain ⟨W, hW, hB, hR, hZ⟩ := zC w v
 rw [← hW]
 clear hW hp2 hn
 skip
 go_loopw [34] (fun j wr => ∃ i : Nat, i ≤ 4 ∧ j = .int .i64 i ∧ St W w.heap.size (mJ v 32 (shR 32 12 p v) i) wr) (fun j _ => 4 - (intOf j).toNat)
 case atStart => exact yU
 case round =>
  obtain ⟨i, hi, rfl, hs⟩ := hrel
  by_cases hlt : i < 4
  ·have hz : IntKind.u64.wrap (sgn 32 (mT v 32 i) / 2 ^ p) = ((shR 32 12 p v i : Nat) : Int) := wrap_u64 _
   go_wp2_with (first | (with_reducible refine mG rfl _ rfl _ rfl _ hs.this ?_) | (go_at_call 51; (with_reducible refine (got32 v _ i _ (by omega)).mono ?_); rintro e u2 ⟨rfl, hb⟩; replace hs := hs.below hb; clear hb) | (go_at_call 53; (with_reducible refine (gots32 v _ i _ (by omega)).mono ?_); rintro e u2 ⟨rfl, hb⟩; replace hs := hs.below hb; clear hb) | (go_at_call 54; (with_reducible refine (uK _ _ _ i (shR 32 12 p v i) _ rfl rfl (by omega)).mono ?_); rintro e u2 ⟨rfl, hb⟩; replace hs := hs.below hb; clear hb) | (with_reducible refine mK rfl _ _ rfl w.heap.size _ rfl rfl _ hs.this ?_; intro wy hy))
   go_roundw
   case rel => exact yY
   case measure => exact xL
  ·exact nD
set_option maxRecDepth 100000 in
theorem sh_32_13 (v : Vec) (n p : Nat) (w : World) (hp : n % 32 = p) (hn : n < 4294967296) :
 Calls Try.prog 24 #[.int .i64 64941, .agg (mY v), .int .u32 (n : Int)] w fun e w' => e = .returned (.tuple #[.agg (mY (vs 32 13 p v)), .int .i64 0]) ∧ Below w.heap.size w w' := by
 have hp2 : (n : Int) % 32 = (p : Int) := by omega
 have hp3 : p < 32 := by omega
 clear hp
 go_enter Try.func24, Try.ntmps24
 go_wp2_with (first | (go_at_call 49; refine (kind_64941 _).mono ?_; rintro e w' ⟨rfl, rfl⟩) | (go_at_call 50; ((with_reducible refine (sX _).mono ?_); rintro e w' ⟨rfl, rfl⟩)))
 rw [← mU]
 obtain ⟨W, hW, hB, hR, hZ⟩ := zC w v
 rw [← hW]
 clear hW hp2 hn
 skip
 go_loopw [34] (fun j wr => ∃ i : Nat, i ≤ 4 ∧ j = .int .i64 i ∧ St W w.heap.size (mJ v 32 (shR 32 13 p v) i) wr) (fun j _ => 4 - (intOf j).toNat)
 case atStart => exact yU
 case round =>
  obtain ⟨i, hi, rfl, hs⟩ := hrel
  by_cases hlt : i < 4
  ·have hz : (mT v 32 i : Int) / 2 ^ p = ((shR 32 13 p v i : Nat) : Int) := shr_z _ p (Nat.lt_of_lt_of_le (mL v 32 i) (by decide))
   go_wp2_with (first | (with_reducible refine mG rfl _ rfl _ rfl _ hs.this ?_) | (go_at_call 51; (with_reducible refine (got32 v _ i _ (by omega)).mono ?_); rintro e u2 ⟨rfl, hb⟩; replace hs := hs.below hb; clear hb) | (go_at_call 53; (with_reducible refine (gots32 v _ i _ (by omega)).mono ?_); rintro e u2 ⟨rfl, hb⟩; replace hs := hs.below hb; clear hb) | (go_at_call 54; (with_reducible refine (uK _ _ _ i (shR 32 13 p v i) _ rfl rfl (by omega)).mono ?_); rintro e u2 ⟨rfl, hb⟩; replace hs := hs.below hb; clear hb) | (with_reducible refine mK rfl _ _ rfl w.heap.size _ rfl rfl _ hs.this ?_; intro wy hy))
   go_roundw
   case rel => exact yY
   case measure => exact xL
  ·exact nD
set_option maxRecDepth 100000 in
theorem sh_64_11 (v : Vec) (n p : Nat) (w : World) (hp : n % 64 = p) (hn : n < 4294967296) :
 Calls Try.prog 24 #[.int .i64 64971, .agg (mY v), .int .u32 (n : Int)] w fun e w' => e = .returned (.tuple #[.agg (mY (vs 64 11 p v)), .int .i64 0]) ∧ Below w.heap.size w w' := by
 have hp2 : (n : Int) % 64 = (p : Int) := by omega
 have hp3 : p < 64 := by omega
 clear hp
 go_enter Try.func24, Try.ntmps24
 go_wp2_with (first | (go_at_call 49; refine (kind_64971 _).mono ?_; rintro e w' ⟨rfl, rfl⟩) | (go_at_call 50; ((with_reducible refine (sZ _).mono ?_); rintro e w' ⟨rfl, rfl⟩)))
 rw [← mU]
 obtain ⟨W, hW, hB, hR, hZ⟩ := zC w v
 rw [← hW]
 clear hW hp2 hn
 skip
 go_loopw [34] (fun j wr => ∃ i : Nat, i ≤ 2 ∧ j = .int .i64 i ∧ St W w.heap.size (mJ v 64 (shR 64 11 p v) i) wr) (fun j _ => 2 - (intOf j).toNat)
 case atStart => exact yU
 case round =>
  obtain ⟨i, hi, rfl, hs⟩ := hrel
  by_cases hlt : i < 2
  ·have hz : IntKind.u64.wrap ((mT v 64 i : Int) * 2 ^ p) = ((shR 64 11 p v i : Nat) : Int) := wrap_u64 _
   go_wp2_with (first | (with_reducible refine mG rfl _ rfl _ rfl _ hs.this ?_) | (go_at_call 51; (with_reducible refine (got64 v _ i _ (by omega)).mono ?_); rintro e u2 ⟨rfl, hb⟩; replace hs := hs.below hb; clear hb) | (go_at_call 53; (with_reducible refine (gots64 v _ i _ (by omega)).mono ?_); rintro e u2 ⟨rfl, hb⟩; replace hs := hs.below hb; clear hb) | (go_at_call 54; (with_reducible refine (fD _ _ _ i (shR 64 11 p v i) _ rfl rfl (by omega)).mono ?_); rintro e u2 ⟨rfl, hb⟩; replace hs := hs.below hb; clear hb) | (with_reducible refine mK rfl _ _ rfl w.heap.size _ rfl rfl _ hs.this ?_; intro wy hy))
   go_roundw
   case rel => exact yY
   case measure => exact xL
  ·exact nC
set_option maxRecDepth 100000 in
theorem sh_64_12 (v : Vec) (n p : Nat) (w : World) (hp : n % 64 = p) (hn : n < 4294967296) :
 Calls Try.prog 24 #[.int .i64 64972, .agg (mY v), .int .u32 (n : Int)] w fun e w' => e = .returned (.tuple #[.agg (mY (vs 64 12 p v)), .int .i64 0]) ∧ Below w.heap.size w w' := by
 have hp2 : (n : Int) % 64 = (p : Int) := by omega
 have hp3 : p < 64 := by omega
 clear hp
 go_enter Try.func24, Try.ntmps24
 go_wp2_with (first | (go_at_call 49; refine (kind_64972 _).mono ?_; rintro e w' ⟨rfl, rfl⟩) | (go_at_call 50; ((with_reducible refine (sZ _).mono ?_); rintro e w' ⟨rfl, rfl⟩)))
 rw [← mU]
 obtain ⟨W, hW, hB, hR, hZ⟩ := zC w v
 rw [← hW]
 clear hW hp2 hn
 skip
 go_loopw [34] (fun j wr => ∃ i : Nat, i ≤ 2 ∧ j = .int .i64 i ∧ St W w.heap.size (mJ v 64 (shR 64 12 p v) i) wr) (fun j _ => 2 - (intOf j).toNat)
 case atStart => exact yU
 case round =>
  obtain ⟨i, hi, rfl, hs⟩ := hrel
  by_cases hlt : i < 2
  ·have hz : IntKind.u64.wrap (sgn 64 (mT v 64 i) / 2 ^ p) = ((shR 64 12 p v i : Nat) : Int) := wrap_u64 _
   go_wp2_with (first | (with_reducible refine mG rfl _ rfl _ rfl _ hs.this ?_) | (go_at_call 51; (with_reducible refine (got64 v _ i _ (by omega)).mono ?_); rintro e u2 ⟨rfl, hb⟩; replace hs := hs.below hb; clear hb) | (go_at_call 53; (with_reducible refine (gots64 v _ i _ (by omega)).mono ?_); rintro e u2 ⟨rfl, hb⟩; replace hs := hs.below hb; clear hb) | (go_at_call 54; (with_reducible refine (fD _ _ _ i (shR 64 12 p v i) _ rfl rfl (by omega)).mono ?_); rintro e u2 ⟨rfl, hb⟩; replace hs := hs.below hb; clear hb) | (with_reducible refine mK rfl _ _ rfl w.heap.size _ rfl rfl _ hs.this ?_; intro wy hy))
   go_roundw
   case rel => exact yY
   case measure => exact xL
  ·exact nC
set_option maxRecDepth 100000 in
theorem sh_64_13 (v : Vec) (n p : Nat) (w : World) (hp : n % 64 = p) (hn : n < 4294967296) :
 Calls Try.prog 24 #[.int .i64 64973, .agg (mY v), .int .u32 (n : Int)] w fun e w' => e = .returned (.tuple #[.agg (mY (vs 64 13 p v)), .int .i64 0]) ∧ Below w.heap.size w w' := by
 have hp2 : (n : Int) % 64 = (p : Int) := by omega
 have hp3 : p < 64 := by omega
 clear hp
 go_enter Try.func24, Try.ntmps24
 go_wp2_with (first | (go_at_call 49; refine (kind_64973 _).mono ?_; rintro e w' ⟨rfl, rfl⟩) | (go_at_call 50; ((with_reducible refine (sZ _).mono ?_); rintro e w' ⟨rfl, rfl⟩)))
 rw [← mU]
 obtain ⟨W, hW, hB, hR, hZ⟩ := zC w v
 rw [← hW]
 clear hW hp2 hn
 skip
 go_loopw [34] (fun j wr => ∃ i : Nat, i ≤ 2 ∧ j = .int .i64 i ∧ St W w.heap.size (mJ v 64 (shR 64 13 p v) i) wr) (fun j _ => 2 - (intOf j).toNat)
 case atStart => exact yU
 case round =>
  obtain ⟨i, hi, rfl, hs⟩ := hrel
  by_cases hlt : i < 2
  ·have hz : (mT v 64 i : Int) / 2 ^ p = ((shR 64 13 p v i : Nat) : Int) := shr_z _ p (Nat.lt_of_lt_of_le (mL v 64 i) (by decide))
   go_wp2_with (first | (with_reducible refine mG rfl _ rfl _ rfl _ hs.this ?_) | (go_at_call 51; (with_reducible refine (got64 v _ i _ (by omega)).mono ?_); rintro e u2 ⟨rfl, hb⟩; replace hs := hs.below hb; clear hb) | (go_at_call 53; (with_reducible refine (gots64 v _ i _ (by omega)).mono ?_); rintro e u2 ⟨rfl, hb⟩; replace hs := hs.below hb; clear hb) | (go_at_call 54; (with_reducible refine (fD _ _ _ i (shR 64 13 p v i) _ rfl rfl (by omega)).mono ?_); rintro e u2 ⟨rfl, hb⟩; replace hs := hs.below hb; clear hb) | (with_reducible refine mK rfl _ _ rfl w.heap.size _ rfl rfl _ hs.this ?_; intro wy hy))
   go_roundw
   case rel => exact yY
   case measure => exact xL
  ·exact nC
end Go.Proofs.Ytcpfabkokgiepaa
