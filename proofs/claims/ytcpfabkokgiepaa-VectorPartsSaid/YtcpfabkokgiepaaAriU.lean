/-
  arith.Un: each width.
-/
import Derived.Test.YtcpfabkokgiepaaAriK
import Derived.Test.YtcpfabkokgiepaaG
import Derived.Test.YtcpfabkokgiepaaOnes
set_option linter.unusedSimpArgs false
set_option linter.unusedVariables false
namespace Go.Proofs.Ytcpfabkokgiepaa
open Go.RowKit Pl
set_option linter.unusedVariables false

end Go.Proofs.Ytcpfabkokgiepaa
namespace Pl
/-- One lane of instruction k on one vector, before it is cut. -/
def unR3 (w k : Nat) (v : Vec) (i : Nat) : Nat := if k = 2 then Go.Lib.onesCount (getN v w i) else unR w k v i
def vu3 (w k : Nat) (v : Vec) : Vec := buildOn v w (unR3 w k v) (128 / w)
theorem vu3_0 (w : Nat) (v : Vec) : vu3 w 0 v = vu w 0 v := rfl
theorem vu3_1 (w : Nat) (v : Vec) : vu3 w 1 v = vu w 1 v := rfl
theorem get_on (v : Vec) (w : Nat) (f : Nat → Nat) (i : Nat) (h : i ≤ 128 / w) : getN (buildOn v w f i) w i = getN v w i := by
  rw [getN_buildOn _ _ _ _ _ h, if_neg (Nat.lt_irrefl i)]
end Pl
namespace Go.Proofs.Ytcpfabkokgiepaa
open Go.RowKit Pl
theorem neg_u64 (n : Nat) : IntKind.u64.wrap (-(n : Int)) = ((Pl.u64 (-(n : Int)) : Nat) : Int) := wrap_u64 _

theorem got8 (v : Vec) (f : Nat → Nat) (i : Nat) (w : World) (hi : i < 16) : Calls Try.prog 51 #[.agg (cells (buildOn v 8 f i)), .int .i64 8, .int .i64 i] w fun e w' => e = .returned (.int .u64 (getN v 8 i : Nat)) ∧ Below w.heap.size w w' := by
  have := get8z (buildOn v 8 f i) i i w rfl hi
  rw [get_on v 8 f i (by omega)] at this
  exact this
theorem gots8 (v : Vec) (f : Nat → Nat) (i : Nat) (w : World) (hi : i < 16) : Calls Try.prog 53 #[.agg (cells (buildOn v 8 f i)), .int .i64 8, .int .i64 i] w fun e w' => e = .returned (.int .i64 (sgn 8 (getN v 8 i))) ∧ Below w.heap.size w w' := by
  have := signed8z (buildOn v 8 f i) i i w rfl hi
  rw [get_on v 8 f i (by omega)] at this
  exact this

set_option maxRecDepth 100000 in
set_option maxHeartbeats 2000000 in
theorem un_8_0 (v : Vec) (w : World) :
    Calls Try.prog 17 #[.int .i64 64864, .agg (cells v)] w fun e w' => e = .returned (.tuple #[.agg (cells (vu3 8 0 v)), .int .i64 0]) ∧ Below w.heap.size w w' := by
  go_enter Try.func17, Try.ntmps17
  go_wp2_with (first | (go_at_call 49; refine (kind_64864 _).mono ?_; rintro e w' ⟨rfl, rfl⟩) | (go_at_call 50; ((with_reducible refine (lanes8 _).mono ?_); rintro e w' ⟨rfl, rfl⟩)))
  rw [← cells_zero]
  obtain ⟨W, hW⟩ : ∃ W, W = (w.alloc (.cells (cells v) 45)).alloc (.cells (cells 0) 45) := ⟨_, rfl⟩
  have hB : W.heap[w.heap.size]? = some (.cells (cells v) 45 (0, 0)) := hW ▸ heap_alloc2_old _ _ _
  have hR : W.heap[w.heap.size + 1]? = some (.cells (cells 0) 45 (0, 0)) := hW ▸ heap_alloc2_new _ _ _
  have hZ : Below w.heap.size w W := hW ▸ ((Below.refl _ _).alloc (Nat.le_refl _) _).alloc (by simp) _
  rw [← hW]
  clear hW
  go_loopw [24] (fun j wr => ∃ i : Nat, i ≤ 16 ∧ j = .int .i64 i ∧ St W w.heap.size (buildOn v 8 (unR3 8 0 v) i) wr) (fun j _ => 16 - (intOf j).toNat)
  case atStart => exact ⟨0, Nat.zero_le _, rfl, St.start hB⟩
  case round =>
    obtain ⟨i, hi, rfl, hs⟩ := hrel
    by_cases hlt : i < 16
    · skip
      by_cases hn : sgn 8 (getN v 8 i) < 0
      · have hz : IntKind.u64.wrap (-(getN v 8 i : Int)) = ((unR3 8 0 v i : Nat) : Int) := by rw [neg_u64]; show _ = ((if sgn 8 (getN v 8 i) < 0 then _ else _ : Nat) : Int); rw [if_pos hn]
        go_wp2_with (first | (with_reducible refine load_vec rfl _ rfl _ rfl _ hs.this ?_) | ((with_reducible refine load_vec_g ?_ _ rfl _ rfl _ hs.this ?_); (focus rfl)) | (go_at_call 51; (with_reducible refine (got8 v _ i _ (by omega)).mono ?_); rintro e u2 ⟨rfl, hb⟩; replace hs := hs.below hb; clear hb) | (go_at_call 53; (with_reducible refine (gots8 v _ i _ (by omega)).mono ?_); rintro e u2 ⟨rfl, hb⟩; replace hs := hs.below hb; clear hb) | (go_at_call 52; (refine (ones64_nat _ _ (by omega)).mono ?_); rintro e u2 ⟨rfl, hb⟩; replace hs := hs.below hb; clear hb) | (go_at_call 54; (with_reducible refine (set8z _ _ _ i (unR3 8 0 v i) _ rfl rfl (by omega)).mono ?_); rintro e u2 ⟨rfl, hb⟩; replace hs := hs.below hb; clear hb) | (with_reducible refine store_vec rfl _ _ rfl w.heap.size _ rfl rfl _ hs.this ?_; intro wy hy))
        go_roundw
        case rel => exact ⟨i + 1, by omega, by go_num, hs.sets hy⟩
        case measure => (simp [intOf] <;> omega)
      · have hz : (getN v 8 i : Int) = ((unR3 8 0 v i : Nat) : Int) := by show _ = ((if sgn 8 (getN v 8 i) < 0 then _ else _ : Nat) : Int); rw [if_neg hn]
        go_wp2_with (first | (with_reducible refine load_vec rfl _ rfl _ rfl _ hs.this ?_) | ((with_reducible refine load_vec_g ?_ _ rfl _ rfl _ hs.this ?_); (focus rfl)) | (go_at_call 51; (with_reducible refine (got8 v _ i _ (by omega)).mono ?_); rintro e u2 ⟨rfl, hb⟩; replace hs := hs.below hb; clear hb) | (go_at_call 53; (with_reducible refine (gots8 v _ i _ (by omega)).mono ?_); rintro e u2 ⟨rfl, hb⟩; replace hs := hs.below hb; clear hb) | (go_at_call 52; (refine (ones64_nat _ _ (by omega)).mono ?_); rintro e u2 ⟨rfl, hb⟩; replace hs := hs.below hb; clear hb) | (go_at_call 54; (with_reducible refine (set8z _ _ _ i (unR3 8 0 v i) _ rfl rfl (by omega)).mono ?_); rintro e u2 ⟨rfl, hb⟩; replace hs := hs.below hb; clear hb) | (with_reducible refine store_vec rfl _ _ rfl w.heap.size _ rfl rfl _ hs.this ?_; intro wy hy))
        go_roundw
        case rel => exact ⟨i + 1, by omega, by go_num, hs.sets hy⟩
        case measure => (simp [intOf] <;> omega)
    · obtain rfl : i = 16 := by omega
      have hR' := hs.kb.get hR (by omega)
      go_wp2_with (first | (with_reducible refine load_vec rfl _ rfl _ rfl _ hs.this ?_) | (with_reducible refine store_vec rfl _ _ rfl (w.heap.size + 1) _ rfl rfl _ hR' ?_; intro wq hq))
      exact bodyPost_ret (results_vec_tmp rfl _ _ (w.heap.size + 1) _ _ rfl rfl hq.this) rfl ⟨rfl, (hs.kb.to_below hZ (by omega)).trans (hq.below.mono (by omega))⟩

set_option maxRecDepth 100000 in
set_option maxHeartbeats 2000000 in
theorem un_8_1 (v : Vec) (w : World) :
    Calls Try.prog 17 #[.int .i64 64865, .agg (cells v)] w fun e w' => e = .returned (.tuple #[.agg (cells (vu3 8 1 v)), .int .i64 0]) ∧ Below w.heap.size w w' := by
  go_enter Try.func17, Try.ntmps17
  go_wp2_with (first | (go_at_call 49; refine (kind_64865 _).mono ?_; rintro e w' ⟨rfl, rfl⟩) | (go_at_call 50; ((with_reducible refine (lanes8 _).mono ?_); rintro e w' ⟨rfl, rfl⟩)))
  rw [← cells_zero]
  obtain ⟨W, hW⟩ : ∃ W, W = (w.alloc (.cells (cells v) 45)).alloc (.cells (cells 0) 45) := ⟨_, rfl⟩
  have hB : W.heap[w.heap.size]? = some (.cells (cells v) 45 (0, 0)) := hW ▸ heap_alloc2_old _ _ _
  have hR : W.heap[w.heap.size + 1]? = some (.cells (cells 0) 45 (0, 0)) := hW ▸ heap_alloc2_new _ _ _
  have hZ : Below w.heap.size w W := hW ▸ ((Below.refl _ _).alloc (Nat.le_refl _) _).alloc (by simp) _
  rw [← hW]
  clear hW
  go_loopw [24] (fun j wr => ∃ i : Nat, i ≤ 16 ∧ j = .int .i64 i ∧ St W w.heap.size (buildOn v 8 (unR3 8 1 v) i) wr) (fun j _ => 16 - (intOf j).toNat)
  case atStart => exact ⟨0, Nat.zero_le _, rfl, St.start hB⟩
  case round =>
    obtain ⟨i, hi, rfl, hs⟩ := hrel
    by_cases hlt : i < 16
    · skip
      have hz : IntKind.u64.wrap (-(getN v 8 i : Int)) = ((unR3 8 1 v i : Nat) : Int) := neg_u64 _
      go_wp2_with (first | (with_reducible refine load_vec rfl _ rfl _ rfl _ hs.this ?_) | ((with_reducible refine load_vec_g ?_ _ rfl _ rfl _ hs.this ?_); (focus rfl)) | (go_at_call 51; (with_reducible refine (got8 v _ i _ (by omega)).mono ?_); rintro e u2 ⟨rfl, hb⟩; replace hs := hs.below hb; clear hb) | (go_at_call 53; (with_reducible refine (gots8 v _ i _ (by omega)).mono ?_); rintro e u2 ⟨rfl, hb⟩; replace hs := hs.below hb; clear hb) | (go_at_call 52; (refine (ones64_nat _ _ (by omega)).mono ?_); rintro e u2 ⟨rfl, hb⟩; replace hs := hs.below hb; clear hb) | (go_at_call 54; (with_reducible refine (set8z _ _ _ i (unR3 8 1 v i) _ rfl rfl (by omega)).mono ?_); rintro e u2 ⟨rfl, hb⟩; replace hs := hs.below hb; clear hb) | (with_reducible refine store_vec rfl _ _ rfl w.heap.size _ rfl rfl _ hs.this ?_; intro wy hy))
      go_roundw
      case rel => exact ⟨i + 1, by omega, by go_num, hs.sets hy⟩
      case measure => (simp [intOf] <;> omega)
    · obtain rfl : i = 16 := by omega
      have hR' := hs.kb.get hR (by omega)
      go_wp2_with (first | (with_reducible refine load_vec rfl _ rfl _ rfl _ hs.this ?_) | (with_reducible refine store_vec rfl _ _ rfl (w.heap.size + 1) _ rfl rfl _ hR' ?_; intro wq hq))
      exact bodyPost_ret (results_vec_tmp rfl _ _ (w.heap.size + 1) _ _ rfl rfl hq.this) rfl ⟨rfl, (hs.kb.to_below hZ (by omega)).trans (hq.below.mono (by omega))⟩

set_option maxRecDepth 100000 in
set_option maxHeartbeats 2000000 in
theorem un_8_2 (v : Vec) (w : World) :
    Calls Try.prog 17 #[.int .i64 64866, .agg (cells v)] w fun e w' => e = .returned (.tuple #[.agg (cells (vu3 8 2 v)), .int .i64 0]) ∧ Below w.heap.size w w' := by
  go_enter Try.func17, Try.ntmps17
  go_wp2_with (first | (go_at_call 49; refine (kind_64866 _).mono ?_; rintro e w' ⟨rfl, rfl⟩) | (go_at_call 50; ((with_reducible refine (lanes8 _).mono ?_); rintro e w' ⟨rfl, rfl⟩)))
  rw [← cells_zero]
  obtain ⟨W, hW⟩ : ∃ W, W = (w.alloc (.cells (cells v) 45)).alloc (.cells (cells 0) 45) := ⟨_, rfl⟩
  have hB : W.heap[w.heap.size]? = some (.cells (cells v) 45 (0, 0)) := hW ▸ heap_alloc2_old _ _ _
  have hR : W.heap[w.heap.size + 1]? = some (.cells (cells 0) 45 (0, 0)) := hW ▸ heap_alloc2_new _ _ _
  have hZ : Below w.heap.size w W := hW ▸ ((Below.refl _ _).alloc (Nat.le_refl _) _).alloc (by simp) _
  rw [← hW]
  clear hW
  go_loopw [24] (fun j wr => ∃ i : Nat, i ≤ 16 ∧ j = .int .i64 i ∧ St W w.heap.size (buildOn v 8 (unR3 8 2 v) i) wr) (fun j _ => 16 - (intOf j).toNat)
  case atStart => exact ⟨0, Nat.zero_le _, rfl, St.start hB⟩
  case round =>
    obtain ⟨i, hi, rfl, hs⟩ := hrel
    by_cases hlt : i < 16
    · skip
      have hl : getN v 8 i < 256 := getN_lt v 8 i
      have hz : IntKind.u64.wrap ((Lib.onesCount (getN v 8 i) : Nat) : Int) = ((unR3 8 2 v i : Nat) : Int) := IntWalk.u64_in _ (by have := Lib.onesCount_le8 ⟨_, hl⟩; simp only at this; omega)
      have hw := Lib.hid hz
      go_wp2_with (first | (with_reducible refine load_vec rfl _ rfl _ rfl _ hs.this ?_) | ((with_reducible refine load_vec_g ?_ _ rfl _ rfl _ hs.this ?_); (focus rfl)) | (go_at_call 51; (with_reducible refine (got8 v _ i _ (by omega)).mono ?_); rintro e u2 ⟨rfl, hb⟩; replace hs := hs.below hb; clear hb) | (go_at_call 53; (with_reducible refine (gots8 v _ i _ (by omega)).mono ?_); rintro e u2 ⟨rfl, hb⟩; replace hs := hs.below hb; clear hb) | (go_at_call 52; (refine (ones64_nat _ _ (by omega)).mono ?_); rintro e u2 ⟨rfl, hb⟩; replace hs := hs.below hb; clear hb) | (go_at_call 54; (with_reducible refine (set8z _ _ _ i (unR3 8 2 v i) _ rfl rfl (by omega)).mono ?_); rintro e u2 ⟨rfl, hb⟩; replace hs := hs.below hb; clear hb) | (with_reducible refine store_vec rfl _ _ rfl w.heap.size _ rfl rfl _ hs.this ?_; intro wy hy))
      go_roundw
      case rel => exact ⟨i + 1, by omega, by go_num, hs.sets hy⟩
      case measure => (simp [intOf] <;> omega)
    · obtain rfl : i = 16 := by omega
      have hR' := hs.kb.get hR (by omega)
      go_wp2_with (first | (with_reducible refine load_vec rfl _ rfl _ rfl _ hs.this ?_) | (with_reducible refine store_vec rfl _ _ rfl (w.heap.size + 1) _ rfl rfl _ hR' ?_; intro wq hq))
      exact bodyPost_ret (results_vec_tmp rfl _ _ (w.heap.size + 1) _ _ rfl rfl hq.this) rfl ⟨rfl, (hs.kb.to_below hZ (by omega)).trans (hq.below.mono (by omega))⟩

theorem got16 (v : Vec) (f : Nat → Nat) (i : Nat) (w : World) (hi : i < 8) : Calls Try.prog 51 #[.agg (cells (buildOn v 16 f i)), .int .i64 16, .int .i64 i] w fun e w' => e = .returned (.int .u64 (getN v 16 i : Nat)) ∧ Below w.heap.size w w' := by
  have := get16z (buildOn v 16 f i) i i w rfl hi
  rw [get_on v 16 f i (by omega)] at this
  exact this
theorem gots16 (v : Vec) (f : Nat → Nat) (i : Nat) (w : World) (hi : i < 8) : Calls Try.prog 53 #[.agg (cells (buildOn v 16 f i)), .int .i64 16, .int .i64 i] w fun e w' => e = .returned (.int .i64 (sgn 16 (getN v 16 i))) ∧ Below w.heap.size w w' := by
  have := signed16z (buildOn v 16 f i) i i w rfl hi
  rw [get_on v 16 f i (by omega)] at this
  exact this

set_option maxRecDepth 100000 in
set_option maxHeartbeats 2000000 in
theorem un_16_0 (v : Vec) (w : World) :
    Calls Try.prog 17 #[.int .i64 64896, .agg (cells v)] w fun e w' => e = .returned (.tuple #[.agg (cells (vu3 16 0 v)), .int .i64 0]) ∧ Below w.heap.size w w' := by
  go_enter Try.func17, Try.ntmps17
  go_wp2_with (first | (go_at_call 49; refine (kind_64896 _).mono ?_; rintro e w' ⟨rfl, rfl⟩) | (go_at_call 50; ((with_reducible refine (lanes16 _).mono ?_); rintro e w' ⟨rfl, rfl⟩)))
  rw [← cells_zero]
  obtain ⟨W, hW⟩ : ∃ W, W = (w.alloc (.cells (cells v) 45)).alloc (.cells (cells 0) 45) := ⟨_, rfl⟩
  have hB : W.heap[w.heap.size]? = some (.cells (cells v) 45 (0, 0)) := hW ▸ heap_alloc2_old _ _ _
  have hR : W.heap[w.heap.size + 1]? = some (.cells (cells 0) 45 (0, 0)) := hW ▸ heap_alloc2_new _ _ _
  have hZ : Below w.heap.size w W := hW ▸ ((Below.refl _ _).alloc (Nat.le_refl _) _).alloc (by simp) _
  rw [← hW]
  clear hW
  go_loopw [24] (fun j wr => ∃ i : Nat, i ≤ 8 ∧ j = .int .i64 i ∧ St W w.heap.size (buildOn v 16 (unR3 16 0 v) i) wr) (fun j _ => 8 - (intOf j).toNat)
  case atStart => exact ⟨0, Nat.zero_le _, rfl, St.start hB⟩
  case round =>
    obtain ⟨i, hi, rfl, hs⟩ := hrel
    by_cases hlt : i < 8
    · skip
      by_cases hn : sgn 16 (getN v 16 i) < 0
      · have hz : IntKind.u64.wrap (-(getN v 16 i : Int)) = ((unR3 16 0 v i : Nat) : Int) := by rw [neg_u64]; show _ = ((if sgn 16 (getN v 16 i) < 0 then _ else _ : Nat) : Int); rw [if_pos hn]
        go_wp2_with (first | (with_reducible refine load_vec rfl _ rfl _ rfl _ hs.this ?_) | ((with_reducible refine load_vec_g ?_ _ rfl _ rfl _ hs.this ?_); (focus rfl)) | (go_at_call 51; (with_reducible refine (got16 v _ i _ (by omega)).mono ?_); rintro e u2 ⟨rfl, hb⟩; replace hs := hs.below hb; clear hb) | (go_at_call 53; (with_reducible refine (gots16 v _ i _ (by omega)).mono ?_); rintro e u2 ⟨rfl, hb⟩; replace hs := hs.below hb; clear hb) | (go_at_call 52; (refine (ones64_nat _ _ (by omega)).mono ?_); rintro e u2 ⟨rfl, hb⟩; replace hs := hs.below hb; clear hb) | (go_at_call 54; (with_reducible refine (set16z _ _ _ i (unR3 16 0 v i) _ rfl rfl (by omega)).mono ?_); rintro e u2 ⟨rfl, hb⟩; replace hs := hs.below hb; clear hb) | (with_reducible refine store_vec rfl _ _ rfl w.heap.size _ rfl rfl _ hs.this ?_; intro wy hy))
        go_roundw
        case rel => exact ⟨i + 1, by omega, by go_num, hs.sets hy⟩
        case measure => (simp [intOf] <;> omega)
      · have hz : (getN v 16 i : Int) = ((unR3 16 0 v i : Nat) : Int) := by show _ = ((if sgn 16 (getN v 16 i) < 0 then _ else _ : Nat) : Int); rw [if_neg hn]
        go_wp2_with (first | (with_reducible refine load_vec rfl _ rfl _ rfl _ hs.this ?_) | ((with_reducible refine load_vec_g ?_ _ rfl _ rfl _ hs.this ?_); (focus rfl)) | (go_at_call 51; (with_reducible refine (got16 v _ i _ (by omega)).mono ?_); rintro e u2 ⟨rfl, hb⟩; replace hs := hs.below hb; clear hb) | (go_at_call 53; (with_reducible refine (gots16 v _ i _ (by omega)).mono ?_); rintro e u2 ⟨rfl, hb⟩; replace hs := hs.below hb; clear hb) | (go_at_call 52; (refine (ones64_nat _ _ (by omega)).mono ?_); rintro e u2 ⟨rfl, hb⟩; replace hs := hs.below hb; clear hb) | (go_at_call 54; (with_reducible refine (set16z _ _ _ i (unR3 16 0 v i) _ rfl rfl (by omega)).mono ?_); rintro e u2 ⟨rfl, hb⟩; replace hs := hs.below hb; clear hb) | (with_reducible refine store_vec rfl _ _ rfl w.heap.size _ rfl rfl _ hs.this ?_; intro wy hy))
        go_roundw
        case rel => exact ⟨i + 1, by omega, by go_num, hs.sets hy⟩
        case measure => (simp [intOf] <;> omega)
    · obtain rfl : i = 8 := by omega
      have hR' := hs.kb.get hR (by omega)
      go_wp2_with (first | (with_reducible refine load_vec rfl _ rfl _ rfl _ hs.this ?_) | (with_reducible refine store_vec rfl _ _ rfl (w.heap.size + 1) _ rfl rfl _ hR' ?_; intro wq hq))
      exact bodyPost_ret (results_vec_tmp rfl _ _ (w.heap.size + 1) _ _ rfl rfl hq.this) rfl ⟨rfl, (hs.kb.to_below hZ (by omega)).trans (hq.below.mono (by omega))⟩

set_option maxRecDepth 100000 in
set_option maxHeartbeats 2000000 in
theorem un_16_1 (v : Vec) (w : World) :
    Calls Try.prog 17 #[.int .i64 64897, .agg (cells v)] w fun e w' => e = .returned (.tuple #[.agg (cells (vu3 16 1 v)), .int .i64 0]) ∧ Below w.heap.size w w' := by
  go_enter Try.func17, Try.ntmps17
  go_wp2_with (first | (go_at_call 49; refine (kind_64897 _).mono ?_; rintro e w' ⟨rfl, rfl⟩) | (go_at_call 50; ((with_reducible refine (lanes16 _).mono ?_); rintro e w' ⟨rfl, rfl⟩)))
  rw [← cells_zero]
  obtain ⟨W, hW⟩ : ∃ W, W = (w.alloc (.cells (cells v) 45)).alloc (.cells (cells 0) 45) := ⟨_, rfl⟩
  have hB : W.heap[w.heap.size]? = some (.cells (cells v) 45 (0, 0)) := hW ▸ heap_alloc2_old _ _ _
  have hR : W.heap[w.heap.size + 1]? = some (.cells (cells 0) 45 (0, 0)) := hW ▸ heap_alloc2_new _ _ _
  have hZ : Below w.heap.size w W := hW ▸ ((Below.refl _ _).alloc (Nat.le_refl _) _).alloc (by simp) _
  rw [← hW]
  clear hW
  go_loopw [24] (fun j wr => ∃ i : Nat, i ≤ 8 ∧ j = .int .i64 i ∧ St W w.heap.size (buildOn v 16 (unR3 16 1 v) i) wr) (fun j _ => 8 - (intOf j).toNat)
  case atStart => exact ⟨0, Nat.zero_le _, rfl, St.start hB⟩
  case round =>
    obtain ⟨i, hi, rfl, hs⟩ := hrel
    by_cases hlt : i < 8
    · skip
      have hz : IntKind.u64.wrap (-(getN v 16 i : Int)) = ((unR3 16 1 v i : Nat) : Int) := neg_u64 _
      go_wp2_with (first | (with_reducible refine load_vec rfl _ rfl _ rfl _ hs.this ?_) | ((with_reducible refine load_vec_g ?_ _ rfl _ rfl _ hs.this ?_); (focus rfl)) | (go_at_call 51; (with_reducible refine (got16 v _ i _ (by omega)).mono ?_); rintro e u2 ⟨rfl, hb⟩; replace hs := hs.below hb; clear hb) | (go_at_call 53; (with_reducible refine (gots16 v _ i _ (by omega)).mono ?_); rintro e u2 ⟨rfl, hb⟩; replace hs := hs.below hb; clear hb) | (go_at_call 52; (refine (ones64_nat _ _ (by omega)).mono ?_); rintro e u2 ⟨rfl, hb⟩; replace hs := hs.below hb; clear hb) | (go_at_call 54; (with_reducible refine (set16z _ _ _ i (unR3 16 1 v i) _ rfl rfl (by omega)).mono ?_); rintro e u2 ⟨rfl, hb⟩; replace hs := hs.below hb; clear hb) | (with_reducible refine store_vec rfl _ _ rfl w.heap.size _ rfl rfl _ hs.this ?_; intro wy hy))
      go_roundw
      case rel => exact ⟨i + 1, by omega, by go_num, hs.sets hy⟩
      case measure => (simp [intOf] <;> omega)
    · obtain rfl : i = 8 := by omega
      have hR' := hs.kb.get hR (by omega)
      go_wp2_with (first | (with_reducible refine load_vec rfl _ rfl _ rfl _ hs.this ?_) | (with_reducible refine store_vec rfl _ _ rfl (w.heap.size + 1) _ rfl rfl _ hR' ?_; intro wq hq))
      exact bodyPost_ret (results_vec_tmp rfl _ _ (w.heap.size + 1) _ _ rfl rfl hq.this) rfl ⟨rfl, (hs.kb.to_below hZ (by omega)).trans (hq.below.mono (by omega))⟩

theorem got32 (v : Vec) (f : Nat → Nat) (i : Nat) (w : World) (hi : i < 4) : Calls Try.prog 51 #[.agg (cells (buildOn v 32 f i)), .int .i64 32, .int .i64 i] w fun e w' => e = .returned (.int .u64 (getN v 32 i : Nat)) ∧ Below w.heap.size w w' := by
  have := get32z (buildOn v 32 f i) i i w rfl hi
  rw [get_on v 32 f i (by omega)] at this
  exact this
theorem gots32 (v : Vec) (f : Nat → Nat) (i : Nat) (w : World) (hi : i < 4) : Calls Try.prog 53 #[.agg (cells (buildOn v 32 f i)), .int .i64 32, .int .i64 i] w fun e w' => e = .returned (.int .i64 (sgn 32 (getN v 32 i))) ∧ Below w.heap.size w w' := by
  have := signed32z (buildOn v 32 f i) i i w rfl hi
  rw [get_on v 32 f i (by omega)] at this
  exact this

set_option maxRecDepth 100000 in
set_option maxHeartbeats 2000000 in
theorem un_32_0 (v : Vec) (w : World) :
    Calls Try.prog 17 #[.int .i64 64928, .agg (cells v)] w fun e w' => e = .returned (.tuple #[.agg (cells (vu3 32 0 v)), .int .i64 0]) ∧ Below w.heap.size w w' := by
  go_enter Try.func17, Try.ntmps17
  go_wp2_with (first | (go_at_call 49; refine (kind_64928 _).mono ?_; rintro e w' ⟨rfl, rfl⟩) | (go_at_call 50; ((with_reducible refine (lanes32 _).mono ?_); rintro e w' ⟨rfl, rfl⟩)))
  rw [← cells_zero]
  obtain ⟨W, hW⟩ : ∃ W, W = (w.alloc (.cells (cells v) 45)).alloc (.cells (cells 0) 45) := ⟨_, rfl⟩
  have hB : W.heap[w.heap.size]? = some (.cells (cells v) 45 (0, 0)) := hW ▸ heap_alloc2_old _ _ _
  have hR : W.heap[w.heap.size + 1]? = some (.cells (cells 0) 45 (0, 0)) := hW ▸ heap_alloc2_new _ _ _
  have hZ : Below w.heap.size w W := hW ▸ ((Below.refl _ _).alloc (Nat.le_refl _) _).alloc (by simp) _
  rw [← hW]
  clear hW
  go_loopw [24] (fun j wr => ∃ i : Nat, i ≤ 4 ∧ j = .int .i64 i ∧ St W w.heap.size (buildOn v 32 (unR3 32 0 v) i) wr) (fun j _ => 4 - (intOf j).toNat)
  case atStart => exact ⟨0, Nat.zero_le _, rfl, St.start hB⟩
  case round =>
    obtain ⟨i, hi, rfl, hs⟩ := hrel
    by_cases hlt : i < 4
    · skip
      by_cases hn : sgn 32 (getN v 32 i) < 0
      · have hz : IntKind.u64.wrap (-(getN v 32 i : Int)) = ((unR3 32 0 v i : Nat) : Int) := by rw [neg_u64]; show _ = ((if sgn 32 (getN v 32 i) < 0 then _ else _ : Nat) : Int); rw [if_pos hn]
        go_wp2_with (first | (with_reducible refine load_vec rfl _ rfl _ rfl _ hs.this ?_) | ((with_reducible refine load_vec_g ?_ _ rfl _ rfl _ hs.this ?_); (focus rfl)) | (go_at_call 51; (with_reducible refine (got32 v _ i _ (by omega)).mono ?_); rintro e u2 ⟨rfl, hb⟩; replace hs := hs.below hb; clear hb) | (go_at_call 53; (with_reducible refine (gots32 v _ i _ (by omega)).mono ?_); rintro e u2 ⟨rfl, hb⟩; replace hs := hs.below hb; clear hb) | (go_at_call 52; (refine (ones64_nat _ _ (by omega)).mono ?_); rintro e u2 ⟨rfl, hb⟩; replace hs := hs.below hb; clear hb) | (go_at_call 54; (with_reducible refine (set32z _ _ _ i (unR3 32 0 v i) _ rfl rfl (by omega)).mono ?_); rintro e u2 ⟨rfl, hb⟩; replace hs := hs.below hb; clear hb) | (with_reducible refine store_vec rfl _ _ rfl w.heap.size _ rfl rfl _ hs.this ?_; intro wy hy))
        go_roundw
        case rel => exact ⟨i + 1, by omega, by go_num, hs.sets hy⟩
        case measure => (simp [intOf] <;> omega)
      · have hz : (getN v 32 i : Int) = ((unR3 32 0 v i : Nat) : Int) := by show _ = ((if sgn 32 (getN v 32 i) < 0 then _ else _ : Nat) : Int); rw [if_neg hn]
        go_wp2_with (first | (with_reducible refine load_vec rfl _ rfl _ rfl _ hs.this ?_) | ((with_reducible refine load_vec_g ?_ _ rfl _ rfl _ hs.this ?_); (focus rfl)) | (go_at_call 51; (with_reducible refine (got32 v _ i _ (by omega)).mono ?_); rintro e u2 ⟨rfl, hb⟩; replace hs := hs.below hb; clear hb) | (go_at_call 53; (with_reducible refine (gots32 v _ i _ (by omega)).mono ?_); rintro e u2 ⟨rfl, hb⟩; replace hs := hs.below hb; clear hb) | (go_at_call 52; (refine (ones64_nat _ _ (by omega)).mono ?_); rintro e u2 ⟨rfl, hb⟩; replace hs := hs.below hb; clear hb) | (go_at_call 54; (with_reducible refine (set32z _ _ _ i (unR3 32 0 v i) _ rfl rfl (by omega)).mono ?_); rintro e u2 ⟨rfl, hb⟩; replace hs := hs.below hb; clear hb) | (with_reducible refine store_vec rfl _ _ rfl w.heap.size _ rfl rfl _ hs.this ?_; intro wy hy))
        go_roundw
        case rel => exact ⟨i + 1, by omega, by go_num, hs.sets hy⟩
        case measure => (simp [intOf] <;> omega)
    · obtain rfl : i = 4 := by omega
      have hR' := hs.kb.get hR (by omega)
      go_wp2_with (first | (with_reducible refine load_vec rfl _ rfl _ rfl _ hs.this ?_) | (with_reducible refine store_vec rfl _ _ rfl (w.heap.size + 1) _ rfl rfl _ hR' ?_; intro wq hq))
      exact bodyPost_ret (results_vec_tmp rfl _ _ (w.heap.size + 1) _ _ rfl rfl hq.this) rfl ⟨rfl, (hs.kb.to_below hZ (by omega)).trans (hq.below.mono (by omega))⟩

set_option maxRecDepth 100000 in
set_option maxHeartbeats 2000000 in
theorem un_32_1 (v : Vec) (w : World) :
    Calls Try.prog 17 #[.int .i64 64929, .agg (cells v)] w fun e w' => e = .returned (.tuple #[.agg (cells (vu3 32 1 v)), .int .i64 0]) ∧ Below w.heap.size w w' := by
  go_enter Try.func17, Try.ntmps17
  go_wp2_with (first | (go_at_call 49; refine (kind_64929 _).mono ?_; rintro e w' ⟨rfl, rfl⟩) | (go_at_call 50; ((with_reducible refine (lanes32 _).mono ?_); rintro e w' ⟨rfl, rfl⟩)))
  rw [← cells_zero]
  obtain ⟨W, hW⟩ : ∃ W, W = (w.alloc (.cells (cells v) 45)).alloc (.cells (cells 0) 45) := ⟨_, rfl⟩
  have hB : W.heap[w.heap.size]? = some (.cells (cells v) 45 (0, 0)) := hW ▸ heap_alloc2_old _ _ _
  have hR : W.heap[w.heap.size + 1]? = some (.cells (cells 0) 45 (0, 0)) := hW ▸ heap_alloc2_new _ _ _
  have hZ : Below w.heap.size w W := hW ▸ ((Below.refl _ _).alloc (Nat.le_refl _) _).alloc (by simp) _
  rw [← hW]
  clear hW
  go_loopw [24] (fun j wr => ∃ i : Nat, i ≤ 4 ∧ j = .int .i64 i ∧ St W w.heap.size (buildOn v 32 (unR3 32 1 v) i) wr) (fun j _ => 4 - (intOf j).toNat)
  case atStart => exact ⟨0, Nat.zero_le _, rfl, St.start hB⟩
  case round =>
    obtain ⟨i, hi, rfl, hs⟩ := hrel
    by_cases hlt : i < 4
    · skip
      have hz : IntKind.u64.wrap (-(getN v 32 i : Int)) = ((unR3 32 1 v i : Nat) : Int) := neg_u64 _
      go_wp2_with (first | (with_reducible refine load_vec rfl _ rfl _ rfl _ hs.this ?_) | ((with_reducible refine load_vec_g ?_ _ rfl _ rfl _ hs.this ?_); (focus rfl)) | (go_at_call 51; (with_reducible refine (got32 v _ i _ (by omega)).mono ?_); rintro e u2 ⟨rfl, hb⟩; replace hs := hs.below hb; clear hb) | (go_at_call 53; (with_reducible refine (gots32 v _ i _ (by omega)).mono ?_); rintro e u2 ⟨rfl, hb⟩; replace hs := hs.below hb; clear hb) | (go_at_call 52; (refine (ones64_nat _ _ (by omega)).mono ?_); rintro e u2 ⟨rfl, hb⟩; replace hs := hs.below hb; clear hb) | (go_at_call 54; (with_reducible refine (set32z _ _ _ i (unR3 32 1 v i) _ rfl rfl (by omega)).mono ?_); rintro e u2 ⟨rfl, hb⟩; replace hs := hs.below hb; clear hb) | (with_reducible refine store_vec rfl _ _ rfl w.heap.size _ rfl rfl _ hs.this ?_; intro wy hy))
      go_roundw
      case rel => exact ⟨i + 1, by omega, by go_num, hs.sets hy⟩
      case measure => (simp [intOf] <;> omega)
    · obtain rfl : i = 4 := by omega
      have hR' := hs.kb.get hR (by omega)
      go_wp2_with (first | (with_reducible refine load_vec rfl _ rfl _ rfl _ hs.this ?_) | (with_reducible refine store_vec rfl _ _ rfl (w.heap.size + 1) _ rfl rfl _ hR' ?_; intro wq hq))
      exact bodyPost_ret (results_vec_tmp rfl _ _ (w.heap.size + 1) _ _ rfl rfl hq.this) rfl ⟨rfl, (hs.kb.to_below hZ (by omega)).trans (hq.below.mono (by omega))⟩

theorem got64 (v : Vec) (f : Nat → Nat) (i : Nat) (w : World) (hi : i < 2) : Calls Try.prog 51 #[.agg (cells (buildOn v 64 f i)), .int .i64 64, .int .i64 i] w fun e w' => e = .returned (.int .u64 (getN v 64 i : Nat)) ∧ Below w.heap.size w w' := by
  have := get64z (buildOn v 64 f i) i i w rfl hi
  rw [get_on v 64 f i (by omega)] at this
  exact this
theorem gots64 (v : Vec) (f : Nat → Nat) (i : Nat) (w : World) (hi : i < 2) : Calls Try.prog 53 #[.agg (cells (buildOn v 64 f i)), .int .i64 64, .int .i64 i] w fun e w' => e = .returned (.int .i64 (sgn 64 (getN v 64 i))) ∧ Below w.heap.size w w' := by
  have := signed64z (buildOn v 64 f i) i i w rfl hi
  rw [get_on v 64 f i (by omega)] at this
  exact this

set_option maxRecDepth 100000 in
set_option maxHeartbeats 2000000 in
theorem un_64_0 (v : Vec) (w : World) :
    Calls Try.prog 17 #[.int .i64 64960, .agg (cells v)] w fun e w' => e = .returned (.tuple #[.agg (cells (vu3 64 0 v)), .int .i64 0]) ∧ Below w.heap.size w w' := by
  go_enter Try.func17, Try.ntmps17
  go_wp2_with (first | (go_at_call 49; refine (kind_64960 _).mono ?_; rintro e w' ⟨rfl, rfl⟩) | (go_at_call 50; ((with_reducible refine (lanes64 _).mono ?_); rintro e w' ⟨rfl, rfl⟩)))
  rw [← cells_zero]
  obtain ⟨W, hW⟩ : ∃ W, W = (w.alloc (.cells (cells v) 45)).alloc (.cells (cells 0) 45) := ⟨_, rfl⟩
  have hB : W.heap[w.heap.size]? = some (.cells (cells v) 45 (0, 0)) := hW ▸ heap_alloc2_old _ _ _
  have hR : W.heap[w.heap.size + 1]? = some (.cells (cells 0) 45 (0, 0)) := hW ▸ heap_alloc2_new _ _ _
  have hZ : Below w.heap.size w W := hW ▸ ((Below.refl _ _).alloc (Nat.le_refl _) _).alloc (by simp) _
  rw [← hW]
  clear hW
  go_loopw [24] (fun j wr => ∃ i : Nat, i ≤ 2 ∧ j = .int .i64 i ∧ St W w.heap.size (buildOn v 64 (unR3 64 0 v) i) wr) (fun j _ => 2 - (intOf j).toNat)
  case atStart => exact ⟨0, Nat.zero_le _, rfl, St.start hB⟩
  case round =>
    obtain ⟨i, hi, rfl, hs⟩ := hrel
    by_cases hlt : i < 2
    · skip
      by_cases hn : sgn 64 (getN v 64 i) < 0
      · have hz : IntKind.u64.wrap (-(getN v 64 i : Int)) = ((unR3 64 0 v i : Nat) : Int) := by rw [neg_u64]; show _ = ((if sgn 64 (getN v 64 i) < 0 then _ else _ : Nat) : Int); rw [if_pos hn]
        go_wp2_with (first | (with_reducible refine load_vec rfl _ rfl _ rfl _ hs.this ?_) | ((with_reducible refine load_vec_g ?_ _ rfl _ rfl _ hs.this ?_); (focus rfl)) | (go_at_call 51; (with_reducible refine (got64 v _ i _ (by omega)).mono ?_); rintro e u2 ⟨rfl, hb⟩; replace hs := hs.below hb; clear hb) | (go_at_call 53; (with_reducible refine (gots64 v _ i _ (by omega)).mono ?_); rintro e u2 ⟨rfl, hb⟩; replace hs := hs.below hb; clear hb) | (go_at_call 52; (refine (ones64_nat _ _ (by omega)).mono ?_); rintro e u2 ⟨rfl, hb⟩; replace hs := hs.below hb; clear hb) | (go_at_call 54; (with_reducible refine (set64z _ _ _ i (unR3 64 0 v i) _ rfl rfl (by omega)).mono ?_); rintro e u2 ⟨rfl, hb⟩; replace hs := hs.below hb; clear hb) | (with_reducible refine store_vec rfl _ _ rfl w.heap.size _ rfl rfl _ hs.this ?_; intro wy hy))
        go_roundw
        case rel => exact ⟨i + 1, by omega, by go_num, hs.sets hy⟩
        case measure => (simp [intOf] <;> omega)
      · have hz : (getN v 64 i : Int) = ((unR3 64 0 v i : Nat) : Int) := by show _ = ((if sgn 64 (getN v 64 i) < 0 then _ else _ : Nat) : Int); rw [if_neg hn]
        go_wp2_with (first | (with_reducible refine load_vec rfl _ rfl _ rfl _ hs.this ?_) | ((with_reducible refine load_vec_g ?_ _ rfl _ rfl _ hs.this ?_); (focus rfl)) | (go_at_call 51; (with_reducible refine (got64 v _ i _ (by omega)).mono ?_); rintro e u2 ⟨rfl, hb⟩; replace hs := hs.below hb; clear hb) | (go_at_call 53; (with_reducible refine (gots64 v _ i _ (by omega)).mono ?_); rintro e u2 ⟨rfl, hb⟩; replace hs := hs.below hb; clear hb) | (go_at_call 52; (refine (ones64_nat _ _ (by omega)).mono ?_); rintro e u2 ⟨rfl, hb⟩; replace hs := hs.below hb; clear hb) | (go_at_call 54; (with_reducible refine (set64z _ _ _ i (unR3 64 0 v i) _ rfl rfl (by omega)).mono ?_); rintro e u2 ⟨rfl, hb⟩; replace hs := hs.below hb; clear hb) | (with_reducible refine store_vec rfl _ _ rfl w.heap.size _ rfl rfl _ hs.this ?_; intro wy hy))
        go_roundw
        case rel => exact ⟨i + 1, by omega, by go_num, hs.sets hy⟩
        case measure => (simp [intOf] <;> omega)
    · obtain rfl : i = 2 := by omega
      have hR' := hs.kb.get hR (by omega)
      go_wp2_with (first | (with_reducible refine load_vec rfl _ rfl _ rfl _ hs.this ?_) | (with_reducible refine store_vec rfl _ _ rfl (w.heap.size + 1) _ rfl rfl _ hR' ?_; intro wq hq))
      exact bodyPost_ret (results_vec_tmp rfl _ _ (w.heap.size + 1) _ _ rfl rfl hq.this) rfl ⟨rfl, (hs.kb.to_below hZ (by omega)).trans (hq.below.mono (by omega))⟩

set_option maxRecDepth 100000 in
set_option maxHeartbeats 2000000 in
theorem un_64_1 (v : Vec) (w : World) :
    Calls Try.prog 17 #[.int .i64 64961, .agg (cells v)] w fun e w' => e = .returned (.tuple #[.agg (cells (vu3 64 1 v)), .int .i64 0]) ∧ Below w.heap.size w w' := by
  go_enter Try.func17, Try.ntmps17
  go_wp2_with (first | (go_at_call 49; refine (kind_64961 _).mono ?_; rintro e w' ⟨rfl, rfl⟩) | (go_at_call 50; ((with_reducible refine (lanes64 _).mono ?_); rintro e w' ⟨rfl, rfl⟩)))
  rw [← cells_zero]
  obtain ⟨W, hW⟩ : ∃ W, W = (w.alloc (.cells (cells v) 45)).alloc (.cells (cells 0) 45) := ⟨_, rfl⟩
  have hB : W.heap[w.heap.size]? = some (.cells (cells v) 45 (0, 0)) := hW ▸ heap_alloc2_old _ _ _
  have hR : W.heap[w.heap.size + 1]? = some (.cells (cells 0) 45 (0, 0)) := hW ▸ heap_alloc2_new _ _ _
  have hZ : Below w.heap.size w W := hW ▸ ((Below.refl _ _).alloc (Nat.le_refl _) _).alloc (by simp) _
  rw [← hW]
  clear hW
  go_loopw [24] (fun j wr => ∃ i : Nat, i ≤ 2 ∧ j = .int .i64 i ∧ St W w.heap.size (buildOn v 64 (unR3 64 1 v) i) wr) (fun j _ => 2 - (intOf j).toNat)
  case atStart => exact ⟨0, Nat.zero_le _, rfl, St.start hB⟩
  case round =>
    obtain ⟨i, hi, rfl, hs⟩ := hrel
    by_cases hlt : i < 2
    · skip
      have hz : IntKind.u64.wrap (-(getN v 64 i : Int)) = ((unR3 64 1 v i : Nat) : Int) := neg_u64 _
      go_wp2_with (first | (with_reducible refine load_vec rfl _ rfl _ rfl _ hs.this ?_) | ((with_reducible refine load_vec_g ?_ _ rfl _ rfl _ hs.this ?_); (focus rfl)) | (go_at_call 51; (with_reducible refine (got64 v _ i _ (by omega)).mono ?_); rintro e u2 ⟨rfl, hb⟩; replace hs := hs.below hb; clear hb) | (go_at_call 53; (with_reducible refine (gots64 v _ i _ (by omega)).mono ?_); rintro e u2 ⟨rfl, hb⟩; replace hs := hs.below hb; clear hb) | (go_at_call 52; (refine (ones64_nat _ _ (by omega)).mono ?_); rintro e u2 ⟨rfl, hb⟩; replace hs := hs.below hb; clear hb) | (go_at_call 54; (with_reducible refine (set64z _ _ _ i (unR3 64 1 v i) _ rfl rfl (by omega)).mono ?_); rintro e u2 ⟨rfl, hb⟩; replace hs := hs.below hb; clear hb) | (with_reducible refine store_vec rfl _ _ rfl w.heap.size _ rfl rfl _ hs.this ?_; intro wy hy))
      go_roundw
      case rel => exact ⟨i + 1, by omega, by go_num, hs.sets hy⟩
      case measure => (simp [intOf] <;> omega)
    · obtain rfl : i = 2 := by omega
      have hR' := hs.kb.get hR (by omega)
      go_wp2_with (first | (with_reducible refine load_vec rfl _ rfl _ rfl _ hs.this ?_) | (with_reducible refine store_vec rfl _ _ rfl (w.heap.size + 1) _ rfl rfl _ hR' ?_; intro wq hq))
      exact bodyPost_ret (results_vec_tmp rfl _ _ (w.heap.size + 1) _ _ rfl rfl hq.this) rfl ⟨rfl, (hs.kb.to_below hZ (by omega)).trans (hq.below.mono (by omega))⟩

end Go.Proofs.Ytcpfabkokgiepaa
