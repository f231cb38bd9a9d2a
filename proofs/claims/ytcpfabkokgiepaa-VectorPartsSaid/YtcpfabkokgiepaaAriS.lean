/-
  arith.Shift: each width.
-/
import Derived.Test.YtcpfabkokgiepaaAriU
set_option linter.unusedSimpArgs false
set_option linter.unusedVariables false
namespace Go.Proofs.Ytcpfabkokgiepaa
open Go.RowKit Pl
set_option linter.unusedVariables false

end Go.Proofs.Ytcpfabkokgiepaa
namespace Pl
/-- One lane moved by p places. -/
def shR (w k p : Nat) (v : Vec) (i : Nat) : Nat := if k = 11 then u64 ((getN v w i : Int) * 2 ^ p) else if k = 12 then u64 (sgn w (getN v w i) / 2 ^ p) else u64 ((getN v w i : Int) / 2 ^ p)
def vs (w k p : Nat) (v : Vec) : Vec := buildOn v w (shR w k p v) (128 / w)
end Pl
namespace Go.Proofs.Ytcpfabkokgiepaa
open Go.RowKit Pl

theorem shr_z (n p : Nat) (h : n < 2 ^ 64) : (n : Int) / 2 ^ p = ((Pl.u64 ((n : Int) / 2 ^ p) : Nat) : Int) := by
  have e : (n : Int) / 2 ^ p = ((n / 2 ^ p : Nat) : Int) := by simp
  have h2 : n / 2 ^ p ≤ n := Nat.div_le_self _ _
  rw [e, u64_nat _ (by omega)]
set_option maxRecDepth 100000 in
set_option maxHeartbeats 2000000 in
theorem sh_8_11 (v : Vec) (n p : Nat) (w : World) (hp : n % 8 = p) (hn : n < 4294967296) :
    Calls Try.prog 24 #[.int .i64 64875, .agg (cells v), .int .u32 (n : Int)] w fun e w' => e = .returned (.tuple #[.agg (cells (vs 8 11 p v)), .int .i64 0]) ∧ Below w.heap.size w w' := by
  have hp2 : (n : Int) % 8 = (p : Int) := by omega
  have hp3 : p < 8 := by omega
  clear hp
  go_enter Try.func24, Try.ntmps24
  go_wp2_with (first | (go_at_call 49; refine (kind_64875 _).mono ?_; rintro e w' ⟨rfl, rfl⟩) | (go_at_call 50; ((with_reducible refine (lanes8 _).mono ?_); rintro e w' ⟨rfl, rfl⟩)))
  rw [← cells_zero]
  obtain ⟨W, hW⟩ : ∃ W, W = (w.alloc (.cells (cells v) 45)).alloc (.cells (cells 0) 45) := ⟨_, rfl⟩
  have hB : W.heap[w.heap.size]? = some (.cells (cells v) 45 (0, 0)) := hW ▸ heap_alloc2_old _ _ _
  have hR : W.heap[w.heap.size + 1]? = some (.cells (cells 0) 45 (0, 0)) := hW ▸ heap_alloc2_new _ _ _
  have hZ : Below w.heap.size w W := hW ▸ ((Below.refl _ _).alloc (Nat.le_refl _) _).alloc (by simp) _
  rw [← hW]
  clear hW hp2 hn
  skip
  go_loopw [34] (fun j wr => ∃ i : Nat, i ≤ 16 ∧ j = .int .i64 i ∧ St W w.heap.size (buildOn v 8 (shR 8 11 p v) i) wr) (fun j _ => 16 - (intOf j).toNat)
  case atStart => exact ⟨0, Nat.zero_le _, rfl, St.start hB⟩
  case round =>
    obtain ⟨i, hi, rfl, hs⟩ := hrel
    by_cases hlt : i < 16
    · have hz : IntKind.u64.wrap ((getN v 8 i : Int) * 2 ^ p) = ((shR 8 11 p v i : Nat) : Int) := wrap_u64 _
      go_wp2_with (first | (with_reducible refine load_vec rfl _ rfl _ rfl _ hs.this ?_) | (go_at_call 51; (with_reducible refine (got8 v _ i _ (by omega)).mono ?_); rintro e u2 ⟨rfl, hb⟩; replace hs := hs.below hb; clear hb) | (go_at_call 53; (with_reducible refine (gots8 v _ i _ (by omega)).mono ?_); rintro e u2 ⟨rfl, hb⟩; replace hs := hs.below hb; clear hb) | (go_at_call 54; (with_reducible refine (set8z _ _ _ i (shR 8 11 p v i) _ rfl rfl (by omega)).mono ?_); rintro e u2 ⟨rfl, hb⟩; replace hs := hs.below hb; clear hb) | (with_reducible refine store_vec rfl _ _ rfl w.heap.size _ rfl rfl _ hs.this ?_; intro wy hy))
      go_roundw
      case rel => exact ⟨i + 1, by omega, by go_num, hs.sets hy⟩
      case measure => (simp [intOf] <;> omega)
    · obtain rfl : i = 16 := by omega
      have hR' := hs.kb.get hR (by omega)
      go_wp2_with (first | (with_reducible refine load_vec rfl _ rfl _ rfl _ hs.this ?_) | (with_reducible refine store_vec rfl _ _ rfl (w.heap.size + 1) _ rfl rfl _ hR' ?_; intro wq hq))
      exact bodyPost_ret (results_vec_tmp rfl _ _ (w.heap.size + 1) _ _ rfl rfl hq.this) rfl ⟨rfl, (hs.kb.to_below hZ (by omega)).trans (hq.below.mono (by omega))⟩


set_option maxRecDepth 100000 in
set_option maxHeartbeats 2000000 in
theorem sh_8_12 (v : Vec) (n p : Nat) (w : World) (hp : n % 8 = p) (hn : n < 4294967296) :
    Calls Try.prog 24 #[.int .i64 64876, .agg (cells v), .int .u32 (n : Int)] w fun e w' => e = .returned (.tuple #[.agg (cells (vs 8 12 p v)), .int .i64 0]) ∧ Below w.heap.size w w' := by
  have hp2 : (n : Int) % 8 = (p : Int) := by omega
  have hp3 : p < 8 := by omega
  clear hp
  go_enter Try.func24, Try.ntmps24
  go_wp2_with (first | (go_at_call 49; refine (kind_64876 _).mono ?_; rintro e w' ⟨rfl, rfl⟩) | (go_at_call 50; ((with_reducible refine (lanes8 _).mono ?_); rintro e w' ⟨rfl, rfl⟩)))
  rw [← cells_zero]
  obtain ⟨W, hW⟩ : ∃ W, W = (w.alloc (.cells (cells v) 45)).alloc (.cells (cells 0) 45) := ⟨_, rfl⟩
  have hB : W.heap[w.heap.size]? = some (.cells (cells v) 45 (0, 0)) := hW ▸ heap_alloc2_old _ _ _
  have hR : W.heap[w.heap.size + 1]? = some (.cells (cells 0) 45 (0, 0)) := hW ▸ heap_alloc2_new _ _ _
  have hZ : Below w.heap.size w W := hW ▸ ((Below.refl _ _).alloc (Nat.le_refl _) _).alloc (by simp) _
  rw [← hW]
  clear hW hp2 hn
  skip
  go_loopw [34] (fun j wr => ∃ i : Nat, i ≤ 16 ∧ j = .int .i64 i ∧ St W w.heap.size (buildOn v 8 (shR 8 12 p v) i) wr) (fun j _ => 16 - (intOf j).toNat)
  case atStart => exact ⟨0, Nat.zero_le _, rfl, St.start hB⟩
  case round =>
    obtain ⟨i, hi, rfl, hs⟩ := hrel
    by_cases hlt : i < 16
    · have hz : IntKind.u64.wrap (sgn 8 (getN v 8 i) / 2 ^ p) = ((shR 8 12 p v i : Nat) : Int) := wrap_u64 _
      go_wp2_with (first | (with_reducible refine load_vec rfl _ rfl _ rfl _ hs.this ?_) | (go_at_call 51; (with_reducible refine (got8 v _ i _ (by omega)).mono ?_); rintro e u2 ⟨rfl, hb⟩; replace hs := hs.below hb; clear hb) | (go_at_call 53; (with_reducible refine (gots8 v _ i _ (by omega)).mono ?_); rintro e u2 ⟨rfl, hb⟩; replace hs := hs.below hb; clear hb) | (go_at_call 54; (with_reducible refine (set8z _ _ _ i (shR 8 12 p v i) _ rfl rfl (by omega)).mono ?_); rintro e u2 ⟨rfl, hb⟩; replace hs := hs.below hb; clear hb) | (with_reducible refine store_vec rfl _ _ rfl w.heap.size _ rfl rfl _ hs.this ?_; intro wy hy))
      go_roundw
      case rel => exact ⟨i + 1, by omega, by go_num, hs.sets hy⟩
      case measure => (simp [intOf] <;> omega)
    · obtain rfl : i = 16 := by omega
      have hR' := hs.kb.get hR (by omega)
      go_wp2_with (first | (with_reducible refine load_vec rfl _ rfl _ rfl _ hs.this ?_) | (with_reducible refine store_vec rfl _ _ rfl (w.heap.size + 1) _ rfl rfl _ hR' ?_; intro wq hq))
      exact bodyPost_ret (results_vec_tmp rfl _ _ (w.heap.size + 1) _ _ rfl rfl hq.this) rfl ⟨rfl, (hs.kb.to_below hZ (by omega)).trans (hq.below.mono (by omega))⟩


set_option maxRecDepth 100000 in
set_option maxHeartbeats 2000000 in
theorem sh_8_13 (v : Vec) (n p : Nat) (w : World) (hp : n % 8 = p) (hn : n < 4294967296) :
    Calls Try.prog 24 #[.int .i64 64877, .agg (cells v), .int .u32 (n : Int)] w fun e w' => e = .returned (.tuple #[.agg (cells (vs 8 13 p v)), .int .i64 0]) ∧ Below w.heap.size w w' := by
  have hp2 : (n : Int) % 8 = (p : Int) := by omega
  have hp3 : p < 8 := by omega
  clear hp
  go_enter Try.func24, Try.ntmps24
  go_wp2_with (first | (go_at_call 49; refine (kind_64877 _).mono ?_; rintro e w' ⟨rfl, rfl⟩) | (go_at_call 50; ((with_reducible refine (lanes8 _).mono ?_); rintro e w' ⟨rfl, rfl⟩)))
  rw [← cells_zero]
  obtain ⟨W, hW⟩ : ∃ W, W = (w.alloc (.cells (cells v) 45)).alloc (.cells (cells 0) 45) := ⟨_, rfl⟩
  have hB : W.heap[w.heap.size]? = some (.cells (cells v) 45 (0, 0)) := hW ▸ heap_alloc2_old _ _ _
  have hR : W.heap[w.heap.size + 1]? = some (.cells (cells 0) 45 (0, 0)) := hW ▸ heap_alloc2_new _ _ _
  have hZ : Below w.heap.size w W := hW ▸ ((Below.refl _ _).alloc (Nat.le_refl _) _).alloc (by simp) _
  rw [← hW]
  clear hW hp2 hn
  skip
  go_loopw [34] (fun j wr => ∃ i : Nat, i ≤ 16 ∧ j = .int .i64 i ∧ St W w.heap.size (buildOn v 8 (shR 8 13 p v) i) wr) (fun j _ => 16 - (intOf j).toNat)
  case atStart => exact ⟨0, Nat.zero_le _, rfl, St.start hB⟩
  case round =>
    obtain ⟨i, hi, rfl, hs⟩ := hrel
    by_cases hlt : i < 16
    · have hz : (getN v 8 i : Int) / 2 ^ p = ((shR 8 13 p v i : Nat) : Int) := shr_z _ p (Nat.lt_of_lt_of_le (getN_lt v 8 i) (by decide))
      go_wp2_with (first | (with_reducible refine load_vec rfl _ rfl _ rfl _ hs.this ?_) | (go_at_call 51; (with_reducible refine (got8 v _ i _ (by omega)).mono ?_); rintro e u2 ⟨rfl, hb⟩; replace hs := hs.below hb; clear hb) | (go_at_call 53; (with_reducible refine (gots8 v _ i _ (by omega)).mono ?_); rintro e u2 ⟨rfl, hb⟩; replace hs := hs.below hb; clear hb) | (go_at_call 54; (with_reducible refine (set8z _ _ _ i (shR 8 13 p v i) _ rfl rfl (by omega)).mono ?_); rintro e u2 ⟨rfl, hb⟩; replace hs := hs.below hb; clear hb) | (with_reducible refine store_vec rfl _ _ rfl w.heap.size _ rfl rfl _ hs.this ?_; intro wy hy))
      go_roundw
      case rel => exact ⟨i + 1, by omega, by go_num, hs.sets hy⟩
      case measure => (simp [intOf] <;> omega)
    · obtain rfl : i = 16 := by omega
      have hR' := hs.kb.get hR (by omega)
      go_wp2_with (first | (with_reducible refine load_vec rfl _ rfl _ rfl _ hs.this ?_) | (with_reducible refine store_vec rfl _ _ rfl (w.heap.size + 1) _ rfl rfl _ hR' ?_; intro wq hq))
      exact bodyPost_ret (results_vec_tmp rfl _ _ (w.heap.size + 1) _ _ rfl rfl hq.this) rfl ⟨rfl, (hs.kb.to_below hZ (by omega)).trans (hq.below.mono (by omega))⟩


set_option maxRecDepth 100000 in
set_option maxHeartbeats 2000000 in
theorem sh_16_11 (v : Vec) (n p : Nat) (w : World) (hp : n % 16 = p) (hn : n < 4294967296) :
    Calls Try.prog 24 #[.int .i64 64907, .agg (cells v), .int .u32 (n : Int)] w fun e w' => e = .returned (.tuple #[.agg (cells (vs 16 11 p v)), .int .i64 0]) ∧ Below w.heap.size w w' := by
  have hp2 : (n : Int) % 16 = (p : Int) := by omega
  have hp3 : p < 16 := by omega
  clear hp
  go_enter Try.func24, Try.ntmps24
  go_wp2_with (first | (go_at_call 49; refine (kind_64907 _).mono ?_; rintro e w' ⟨rfl, rfl⟩) | (go_at_call 50; ((with_reducible refine (lanes16 _).mono ?_); rintro e w' ⟨rfl, rfl⟩)))
  rw [← cells_zero]
  obtain ⟨W, hW⟩ : ∃ W, W = (w.alloc (.cells (cells v) 45)).alloc (.cells (cells 0) 45) := ⟨_, rfl⟩
  have hB : W.heap[w.heap.size]? = some (.cells (cells v) 45 (0, 0)) := hW ▸ heap_alloc2_old _ _ _
  have hR : W.heap[w.heap.size + 1]? = some (.cells (cells 0) 45 (0, 0)) := hW ▸ heap_alloc2_new _ _ _
  have hZ : Below w.heap.size w W := hW ▸ ((Below.refl _ _).alloc (Nat.le_refl _) _).alloc (by simp) _
  rw [← hW]
  clear hW hp2 hn
  skip
  go_loopw [34] (fun j wr => ∃ i : Nat, i ≤ 8 ∧ j = .int .i64 i ∧ St W w.heap.size (buildOn v 16 (shR 16 11 p v) i) wr) (fun j _ => 8 - (intOf j).toNat)
  case atStart => exact ⟨0, Nat.zero_le _, rfl, St.start hB⟩
  case round =>
    obtain ⟨i, hi, rfl, hs⟩ := hrel
    by_cases hlt : i < 8
    · have hz : IntKind.u64.wrap ((getN v 16 i : Int) * 2 ^ p) = ((shR 16 11 p v i : Nat) : Int) := wrap_u64 _
      go_wp2_with (first | (with_reducible refine load_vec rfl _ rfl _ rfl _ hs.this ?_) | (go_at_call 51; (with_reducible refine (got16 v _ i _ (by omega)).mono ?_); rintro e u2 ⟨rfl, hb⟩; replace hs := hs.below hb; clear hb) | (go_at_call 53; (with_reducible refine (gots16 v _ i _ (by omega)).mono ?_); rintro e u2 ⟨rfl, hb⟩; replace hs := hs.below hb; clear hb) | (go_at_call 54; (with_reducible refine (set16z _ _ _ i (shR 16 11 p v i) _ rfl rfl (by omega)).mono ?_); rintro e u2 ⟨rfl, hb⟩; replace hs := hs.below hb; clear hb) | (with_reducible refine store_vec rfl _ _ rfl w.heap.size _ rfl rfl _ hs.this ?_; intro wy hy))
      go_roundw
      case rel => exact ⟨i + 1, by omega, by go_num, hs.sets hy⟩
      case measure => (simp [intOf] <;> omega)
    · obtain rfl : i = 8 := by omega
      have hR' := hs.kb.get hR (by omega)
      go_wp2_with (first | (with_reducible refine load_vec rfl _ rfl _ rfl _ hs.this ?_) | (with_reducible refine store_vec rfl _ _ rfl (w.heap.size + 1) _ rfl rfl _ hR' ?_; intro wq hq))
      exact bodyPost_ret (results_vec_tmp rfl _ _ (w.heap.size + 1) _ _ rfl rfl hq.this) rfl ⟨rfl, (hs.kb.to_below hZ (by omega)).trans (hq.below.mono (by omega))⟩


set_option maxRecDepth 100000 in
set_option maxHeartbeats 2000000 in
theorem sh_16_12 (v : Vec) (n p : Nat) (w : World) (hp : n % 16 = p) (hn : n < 4294967296) :
    Calls Try.prog 24 #[.int .i64 64908, .agg (cells v), .int .u32 (n : Int)] w fun e w' => e = .returned (.tuple #[.agg (cells (vs 16 12 p v)), .int .i64 0]) ∧ Below w.heap.size w w' := by
  have hp2 : (n : Int) % 16 = (p : Int) := by omega
  have hp3 : p < 16 := by omega
  clear hp
  go_enter Try.func24, Try.ntmps24
  go_wp2_with (first | (go_at_call 49; refine (kind_64908 _).mono ?_; rintro e w' ⟨rfl, rfl⟩) | (go_at_call 50; ((with_reducible refine (lanes16 _).mono ?_); rintro e w' ⟨rfl, rfl⟩)))
  rw [← cells_zero]
  obtain ⟨W, hW⟩ : ∃ W, W = (w.alloc (.cells (cells v) 45)).alloc (.cells (cells 0) 45) := ⟨_, rfl⟩
  have hB : W.heap[w.heap.size]? = some (.cells (cells v) 45 (0, 0)) := hW ▸ heap_alloc2_old _ _ _
  have hR : W.heap[w.heap.size + 1]? = some (.cells (cells 0) 45 (0, 0)) := hW ▸ heap_alloc2_new _ _ _
  have hZ : Below w.heap.size w W := hW ▸ ((Below.refl _ _).alloc (Nat.le_refl _) _).alloc (by simp) _
  rw [← hW]
  clear hW hp2 hn
  skip
  go_loopw [34] (fun j wr => ∃ i : Nat, i ≤ 8 ∧ j = .int .i64 i ∧ St W w.heap.size (buildOn v 16 (shR 16 12 p v) i) wr) (fun j _ => 8 - (intOf j).toNat)
  case atStart => exact ⟨0, Nat.zero_le _, rfl, St.start hB⟩
  case round =>
    obtain ⟨i, hi, rfl, hs⟩ := hrel
    by_cases hlt : i < 8
    · have hz : IntKind.u64.wrap (sgn 16 (getN v 16 i) / 2 ^ p) = ((shR 16 12 p v i : Nat) : Int) := wrap_u64 _
      go_wp2_with (first | (with_reducible refine load_vec rfl _ rfl _ rfl _ hs.this ?_) | (go_at_call 51; (with_reducible refine (got16 v _ i _ (by omega)).mono ?_); rintro e u2 ⟨rfl, hb⟩; replace hs := hs.below hb; clear hb) | (go_at_call 53; (with_reducible refine (gots16 v _ i _ (by omega)).mono ?_); rintro e u2 ⟨rfl, hb⟩; replace hs := hs.below hb; clear hb) | (go_at_call 54; (with_reducible refine (set16z _ _ _ i (shR 16 12 p v i) _ rfl rfl (by omega)).mono ?_); rintro e u2 ⟨rfl, hb⟩; replace hs := hs.below hb; clear hb) | (with_reducible refine store_vec rfl _ _ rfl w.heap.size _ rfl rfl _ hs.this ?_; intro wy hy))
      go_roundw
      case rel => exact ⟨i + 1, by omega, by go_num, hs.sets hy⟩
      case measure => (simp [intOf] <;> omega)
    · obtain rfl : i = 8 := by omega
      have hR' := hs.kb.get hR (by omega)
      go_wp2_with (first | (with_reducible refine load_vec rfl _ rfl _ rfl _ hs.this ?_) | (with_reducible refine store_vec rfl _ _ rfl (w.heap.size + 1) _ rfl rfl _ hR' ?_; intro wq hq))
      exact bodyPost_ret (results_vec_tmp rfl _ _ (w.heap.size + 1) _ _ rfl rfl hq.this) rfl ⟨rfl, (hs.kb.to_below hZ (by omega)).trans (hq.below.mono (by omega))⟩


set_option maxRecDepth 100000 in
set_option maxHeartbeats 2000000 in
theorem sh_16_13 (v : Vec) (n p : Nat) (w : World) (hp : n % 16 = p) (hn : n < 4294967296) :
    Calls Try.prog 24 #[.int .i64 64909, .agg (cells v), .int .u32 (n : Int)] w fun e w' => e = .returned (.tuple #[.agg (cells (vs 16 13 p v)), .int .i64 0]) ∧ Below w.heap.size w w' := by
  have hp2 : (n : Int) % 16 = (p : Int) := by omega
  have hp3 : p < 16 := by omega
  clear hp
  go_enter Try.func24, Try.ntmps24
  go_wp2_with (first | (go_at_call 49; refine (kind_64909 _).mono ?_; rintro e w' ⟨rfl, rfl⟩) | (go_at_call 50; ((with_reducible refine (lanes16 _).mono ?_); rintro e w' ⟨rfl, rfl⟩)))
  rw [← cells_zero]
  obtain ⟨W, hW⟩ : ∃ W, W = (w.alloc (.cells (cells v) 45)).alloc (.cells (cells 0) 45) := ⟨_, rfl⟩
  have hB : W.heap[w.heap.size]? = some (.cells (cells v) 45 (0, 0)) := hW ▸ heap_alloc2_old _ _ _
  have hR : W.heap[w.heap.size + 1]? = some (.cells (cells 0) 45 (0, 0)) := hW ▸ heap_alloc2_new _ _ _
  have hZ : Below w.heap.size w W := hW ▸ ((Below.refl _ _).alloc (Nat.le_refl _) _).alloc (by simp) _
  rw [← hW]
  clear hW hp2 hn
  skip
  go_loopw [34] (fun j wr => ∃ i : Nat, i ≤ 8 ∧ j = .int .i64 i ∧ St W w.heap.size (buildOn v 16 (shR 16 13 p v) i) wr) (fun j _ => 8 - (intOf j).toNat)
  case atStart => exact ⟨0, Nat.zero_le _, rfl, St.start hB⟩
  case round =>
    obtain ⟨i, hi, rfl, hs⟩ := hrel
    by_cases hlt : i < 8
    · have hz : (getN v 16 i : Int) / 2 ^ p = ((shR 16 13 p v i : Nat) : Int) := shr_z _ p (Nat.lt_of_lt_of_le (getN_lt v 16 i) (by decide))
      go_wp2_with (first | (with_reducible refine load_vec rfl _ rfl _ rfl _ hs.this ?_) | (go_at_call 51; (with_reducible refine (got16 v _ i _ (by omega)).mono ?_); rintro e u2 ⟨rfl, hb⟩; replace hs := hs.below hb; clear hb) | (go_at_call 53; (with_reducible refine (gots16 v _ i _ (by omega)).mono ?_); rintro e u2 ⟨rfl, hb⟩; replace hs := hs.below hb; clear hb) | (go_at_call 54; (with_reducible refine (set16z _ _ _ i (shR 16 13 p v i) _ rfl rfl (by omega)).mono ?_); rintro e u2 ⟨rfl, hb⟩; replace hs := hs.below hb; clear hb) | (with_reducible refine store_vec rfl _ _ rfl w.heap.size _ rfl rfl _ hs.this ?_; intro wy hy))
      go_roundw
      case rel => exact ⟨i + 1, by omega, by go_num, hs.sets hy⟩
      case measure => (simp [intOf] <;> omega)
    · obtain rfl : i = 8 := by omega
      have hR' := hs.kb.get hR (by omega)
      go_wp2_with (first | (with_reducible refine load_vec rfl _ rfl _ rfl _ hs.this ?_) | (with_reducible refine store_vec rfl _ _ rfl (w.heap.size + 1) _ rfl rfl _ hR' ?_; intro wq hq))
      exact bodyPost_ret (results_vec_tmp rfl _ _ (w.heap.size + 1) _ _ rfl rfl hq.this) rfl ⟨rfl, (hs.kb.to_below hZ (by omega)).trans (hq.below.mono (by omega))⟩


set_option maxRecDepth 100000 in
set_option maxHeartbeats 2000000 in
theorem sh_32_11 (v : Vec) (n p : Nat) (w : World) (hp : n % 32 = p) (hn : n < 4294967296) :
    Calls Try.prog 24 #[.int .i64 64939, .agg (cells v), .int .u32 (n : Int)] w fun e w' => e = .returned (.tuple #[.agg (cells (vs 32 11 p v)), .int .i64 0]) ∧ Below w.heap.size w w' := by
  have hp2 : (n : Int) % 32 = (p : Int) := by omega
  have hp3 : p < 32 := by omega
  clear hp
  go_enter Try.func24, Try.ntmps24
  go_wp2_with (first | (go_at_call 49; refine (kind_64939 _).mono ?_; rintro e w' ⟨rfl, rfl⟩) | (go_at_call 50; ((with_reducible refine (lanes32 _).mono ?_); rintro e w' ⟨rfl, rfl⟩)))
  rw [← cells_zero]
  obtain ⟨W, hW⟩ : ∃ W, W = (w.alloc (.cells (cells v) 45)).alloc (.cells (cells 0) 45) := ⟨_, rfl⟩
  have hB : W.heap[w.heap.size]? = some (.cells (cells v) 45 (0, 0)) := hW ▸ heap_alloc2_old _ _ _
  have hR : W.heap[w.heap.size + 1]? = some (.cells (cells 0) 45 (0, 0)) := hW ▸ heap_alloc2_new _ _ _
  have hZ : Below w.heap.size w W := hW ▸ ((Below.refl _ _).alloc (Nat.le_refl _) _).alloc (by simp) _
  rw [← hW]
  clear hW hp2 hn
  skip
  go_loopw [34] (fun j wr => ∃ i : Nat, i ≤ 4 ∧ j = .int .i64 i ∧ St W w.heap.size (buildOn v 32 (shR 32 11 p v) i) wr) (fun j _ => 4 - (intOf j).toNat)
  case atStart => exact ⟨0, Nat.zero_le _, rfl, St.start hB⟩
  case round =>
    obtain ⟨i, hi, rfl, hs⟩ := hrel
    by_cases hlt : i < 4
    · have hz : IntKind.u64.wrap ((getN v 32 i : Int) * 2 ^ p) = ((shR 32 11 p v i : Nat) : Int) := wrap_u64 _
      go_wp2_with (first | (with_reducible refine load_vec rfl _ rfl _ rfl _ hs.this ?_) | (go_at_call 51; (with_reducible refine (got32 v _ i _ (by omega)).mono ?_); rintro e u2 ⟨rfl, hb⟩; replace hs := hs.below hb; clear hb) | (go_at_call 53; (with_reducible refine (gots32 v _ i _ (by omega)).mono ?_); rintro e u2 ⟨rfl, hb⟩; replace hs := hs.below hb; clear hb) | (go_at_call 54; (with_reducible refine (set32z _ _ _ i (shR 32 11 p v i) _ rfl rfl (by omega)).mono ?_); rintro e u2 ⟨rfl, hb⟩; replace hs := hs.below hb; clear hb) | (with_reducible refine store_vec rfl _ _ rfl w.heap.size _ rfl rfl _ hs.this ?_; intro wy hy))
      go_roundw
      case rel => exact ⟨i + 1, by omega, by go_num, hs.sets hy⟩
      case measure => (simp [intOf] <;> omega)
    · obtain rfl : i = 4 := by omega
      have hR' := hs.kb.get hR (by omega)
      go_wp2_with (first | (with_reducible refine load_vec rfl _ rfl _ rfl _ hs.this ?_) | (with_reducible refine store_vec rfl _ _ rfl (w.heap.size + 1) _ rfl rfl _ hR' ?_; intro wq hq))
      exact bodyPost_ret (results_vec_tmp rfl _ _ (w.heap.size + 1) _ _ rfl rfl hq.this) rfl ⟨rfl, (hs.kb.to_below hZ (by omega)).trans (hq.below.mono (by omega))⟩


set_option maxRecDepth 100000 in
set_option maxHeartbeats 2000000 in
theorem sh_32_12 (v : Vec) (n p : Nat) (w : World) (hp : n % 32 = p) (hn : n < 4294967296) :
    Calls Try.prog 24 #[.int .i64 64940, .agg (cells v), .int .u32 (n : Int)] w fun e w' => e = .returned (.tuple #[.agg (cells (vs 32 12 p v)), .int .i64 0]) ∧ Below w.heap.size w w' := by
  have hp2 : (n : Int) % 32 = (p : Int) := by omega
  have hp3 : p < 32 := by omega
  clear hp
  go_enter Try.func24, Try.ntmps24
  go_wp2_with (first | (go_at_call 49; refine (kind_64940 _).mono ?_; rintro e w' ⟨rfl, rfl⟩) | (go_at_call 50; ((with_reducible refine (lanes32 _).mono ?_); rintro e w' ⟨rfl, rfl⟩)))
  rw [← cells_zero]
  obtain ⟨W, hW⟩ : ∃ W, W = (w.alloc (.cells (cells v) 45)).alloc (.cells (cells 0) 45) := ⟨_, rfl⟩
  have hB : W.heap[w.heap.size]? = some (.cells (cells v) 45 (0, 0)) := hW ▸ heap_alloc2_old _ _ _
  have hR : W.heap[w.heap.size + 1]? = some (.cells (cells 0) 45 (0, 0)) := hW ▸ heap_alloc2_new _ _ _
  have hZ : Below w.heap.size w W := hW ▸ ((Below.refl _ _).alloc (Nat.le_refl _) _).alloc (by simp) _
  rw [← hW]
  clear hW hp2 hn
  skip
  go_loopw [34] (fun j wr => ∃ i : Nat, i ≤ 4 ∧ j = .int .i64 i ∧ St W w.heap.size (buildOn v 32 (shR 32 12 p v) i) wr) (fun j _ => 4 - (intOf j).toNat)
  case atStart => exact ⟨0, Nat.zero_le _, rfl, St.start hB⟩
  case round =>
    obtain ⟨i, hi, rfl, hs⟩ := hrel
    by_cases hlt : i < 4
    · have hz : IntKind.u64.wrap (sgn 32 (getN v 32 i) / 2 ^ p) = ((shR 32 12 p v i : Nat) : Int) := wrap_u64 _
      go_wp2_with (first | (with_reducible refine load_vec rfl _ rfl _ rfl _ hs.this ?_) | (go_at_call 51; (with_reducible refine (got32 v _ i _ (by omega)).mono ?_); rintro e u2 ⟨rfl, hb⟩; replace hs := hs.below hb; clear hb) | (go_at_call 53; (with_reducible refine (gots32 v _ i _ (by omega)).mono ?_); rintro e u2 ⟨rfl, hb⟩; replace hs := hs.below hb; clear hb) | (go_at_call 54; (with_reducible refine (set32z _ _ _ i (shR 32 12 p v i) _ rfl rfl (by omega)).mono ?_); rintro e u2 ⟨rfl, hb⟩; replace hs := hs.below hb; clear hb) | (with_reducible refine store_vec rfl _ _ rfl w.heap.size _ rfl rfl _ hs.this ?_; intro wy hy))
      go_roundw
      case rel => exact ⟨i + 1, by omega, by go_num, hs.sets hy⟩
      case measure => (simp [intOf] <;> omega)
    · obtain rfl : i = 4 := by omega
      have hR' := hs.kb.get hR (by omega)
      go_wp2_with (first | (with_reducible refine load_vec rfl _ rfl _ rfl _ hs.this ?_) | (with_reducible refine store_vec rfl _ _ rfl (w.heap.size + 1) _ rfl rfl _ hR' ?_; intro wq hq))
      exact bodyPost_ret (results_vec_tmp rfl _ _ (w.heap.size + 1) _ _ rfl rfl hq.this) rfl ⟨rfl, (hs.kb.to_below hZ (by omega)).trans (hq.below.mono (by omega))⟩


set_option maxRecDepth 100000 in
set_option maxHeartbeats 2000000 in
theorem sh_32_13 (v : Vec) (n p : Nat) (w : World) (hp : n % 32 = p) (hn : n < 4294967296) :
    Calls Try.prog 24 #[.int .i64 64941, .agg (cells v), .int .u32 (n : Int)] w fun e w' => e = .returned (.tuple #[.agg (cells (vs 32 13 p v)), .int .i64 0]) ∧ Below w.heap.size w w' := by
  have hp2 : (n : Int) % 32 = (p : Int) := by omega
  have hp3 : p < 32 := by omega
  clear hp
  go_enter Try.func24, Try.ntmps24
  go_wp2_with (first | (go_at_call 49; refine (kind_64941 _).mono ?_; rintro e w' ⟨rfl, rfl⟩) | (go_at_call 50; ((with_reducible refine (lanes32 _).mono ?_); rintro e w' ⟨rfl, rfl⟩)))
  rw [← cells_zero]
  obtain ⟨W, hW⟩ : ∃ W, W = (w.alloc (.cells (cells v) 45)).alloc (.cells (cells 0) 45) := ⟨_, rfl⟩
  have hB : W.heap[w.heap.size]? = some (.cells (cells v) 45 (0, 0)) := hW ▸ heap_alloc2_old _ _ _
  have hR : W.heap[w.heap.size + 1]? = some (.cells (cells 0) 45 (0, 0)) := hW ▸ heap_alloc2_new _ _ _
  have hZ : Below w.heap.size w W := hW ▸ ((Below.refl _ _).alloc (Nat.le_refl _) _).alloc (by simp) _
  rw [← hW]
  clear hW hp2 hn
  skip
  go_loopw [34] (fun j wr => ∃ i : Nat, i ≤ 4 ∧ j = .int .i64 i ∧ St W w.heap.size (buildOn v 32 (shR 32 13 p v) i) wr) (fun j _ => 4 - (intOf j).toNat)
  case atStart => exact ⟨0, Nat.zero_le _, rfl, St.start hB⟩
  case round =>
    obtain ⟨i, hi, rfl, hs⟩ := hrel
    by_cases hlt : i < 4
    · have hz : (getN v 32 i : Int) / 2 ^ p = ((shR 32 13 p v i : Nat) : Int) := shr_z _ p (Nat.lt_of_lt_of_le (getN_lt v 32 i) (by decide))
      go_wp2_with (first | (with_reducible refine load_vec rfl _ rfl _ rfl _ hs.this ?_) | (go_at_call 51; (with_reducible refine (got32 v _ i _ (by omega)).mono ?_); rintro e u2 ⟨rfl, hb⟩; replace hs := hs.below hb; clear hb) | (go_at_call 53; (with_reducible refine (gots32 v _ i _ (by omega)).mono ?_); rintro e u2 ⟨rfl, hb⟩; replace hs := hs.below hb; clear hb) | (go_at_call 54; (with_reducible refine (set32z _ _ _ i (shR 32 13 p v i) _ rfl rfl (by omega)).mono ?_); rintro e u2 ⟨rfl, hb⟩; replace hs := hs.below hb; clear hb) | (with_reducible refine store_vec rfl _ _ rfl w.heap.size _ rfl rfl _ hs.this ?_; intro wy hy))
      go_roundw
      case rel => exact ⟨i + 1, by omega, by go_num, hs.sets hy⟩
      case measure => (simp [intOf] <;> omega)
    · obtain rfl : i = 4 := by omega
      have hR' := hs.kb.get hR (by omega)
      go_wp2_with (first | (with_reducible refine load_vec rfl _ rfl _ rfl _ hs.this ?_) | (with_reducible refine store_vec rfl _ _ rfl (w.heap.size + 1) _ rfl rfl _ hR' ?_; intro wq hq))
      exact bodyPost_ret (results_vec_tmp rfl _ _ (w.heap.size + 1) _ _ rfl rfl hq.this) rfl ⟨rfl, (hs.kb.to_below hZ (by omega)).trans (hq.below.mono (by omega))⟩


set_option maxRecDepth 100000 in
set_option maxHeartbeats 2000000 in
theorem sh_64_11 (v : Vec) (n p : Nat) (w : World) (hp : n % 64 = p) (hn : n < 4294967296) :
    Calls Try.prog 24 #[.int .i64 64971, .agg (cells v), .int .u32 (n : Int)] w fun e w' => e = .returned (.tuple #[.agg (cells (vs 64 11 p v)), .int .i64 0]) ∧ Below w.heap.size w w' := by
  have hp2 : (n : Int) % 64 = (p : Int) := by omega
  have hp3 : p < 64 := by omega
  clear hp
  go_enter Try.func24, Try.ntmps24
  go_wp2_with (first | (go_at_call 49; refine (kind_64971 _).mono ?_; rintro e w' ⟨rfl, rfl⟩) | (go_at_call 50; ((with_reducible refine (lanes64 _).mono ?_); rintro e w' ⟨rfl, rfl⟩)))
  rw [← cells_zero]
  obtain ⟨W, hW⟩ : ∃ W, W = (w.alloc (.cells (cells v) 45)).alloc (.cells (cells 0) 45) := ⟨_, rfl⟩
  have hB : W.heap[w.heap.size]? = some (.cells (cells v) 45 (0, 0)) := hW ▸ heap_alloc2_old _ _ _
  have hR : W.heap[w.heap.size + 1]? = some (.cells (cells 0) 45 (0, 0)) := hW ▸ heap_alloc2_new _ _ _
  have hZ : Below w.heap.size w W := hW ▸ ((Below.refl _ _).alloc (Nat.le_refl _) _).alloc (by simp) _
  rw [← hW]
  clear hW hp2 hn
  skip
  go_loopw [34] (fun j wr => ∃ i : Nat, i ≤ 2 ∧ j = .int .i64 i ∧ St W w.heap.size (buildOn v 64 (shR 64 11 p v) i) wr) (fun j _ => 2 - (intOf j).toNat)
  case atStart => exact ⟨0, Nat.zero_le _, rfl, St.start hB⟩
  case round =>
    obtain ⟨i, hi, rfl, hs⟩ := hrel
    by_cases hlt : i < 2
    · have hz : IntKind.u64.wrap ((getN v 64 i : Int) * 2 ^ p) = ((shR 64 11 p v i : Nat) : Int) := wrap_u64 _
      go_wp2_with (first | (with_reducible refine load_vec rfl _ rfl _ rfl _ hs.this ?_) | (go_at_call 51; (with_reducible refine (got64 v _ i _ (by omega)).mono ?_); rintro e u2 ⟨rfl, hb⟩; replace hs := hs.below hb; clear hb) | (go_at_call 53; (with_reducible refine (gots64 v _ i _ (by omega)).mono ?_); rintro e u2 ⟨rfl, hb⟩; replace hs := hs.below hb; clear hb) | (go_at_call 54; (with_reducible refine (set64z _ _ _ i (shR 64 11 p v i) _ rfl rfl (by omega)).mono ?_); rintro e u2 ⟨rfl, hb⟩; replace hs := hs.below hb; clear hb) | (with_reducible refine store_vec rfl _ _ rfl w.heap.size _ rfl rfl _ hs.this ?_; intro wy hy))
      go_roundw
      case rel => exact ⟨i + 1, by omega, by go_num, hs.sets hy⟩
      case measure => (simp [intOf] <;> omega)
    · obtain rfl : i = 2 := by omega
      have hR' := hs.kb.get hR (by omega)
      go_wp2_with (first | (with_reducible refine load_vec rfl _ rfl _ rfl _ hs.this ?_) | (with_reducible refine store_vec rfl _ _ rfl (w.heap.size + 1) _ rfl rfl _ hR' ?_; intro wq hq))
      exact bodyPost_ret (results_vec_tmp rfl _ _ (w.heap.size + 1) _ _ rfl rfl hq.this) rfl ⟨rfl, (hs.kb.to_below hZ (by omega)).trans (hq.below.mono (by omega))⟩


set_option maxRecDepth 100000 in
set_option maxHeartbeats 2000000 in
theorem sh_64_12 (v : Vec) (n p : Nat) (w : World) (hp : n % 64 = p) (hn : n < 4294967296) :
    Calls Try.prog 24 #[.int .i64 64972, .agg (cells v), .int .u32 (n : Int)] w fun e w' => e = .returned (.tuple #[.agg (cells (vs 64 12 p v)), .int .i64 0]) ∧ Below w.heap.size w w' := by
  have hp2 : (n : Int) % 64 = (p : Int) := by omega
  have hp3 : p < 64 := by omega
  clear hp
  go_enter Try.func24, Try.ntmps24
  go_wp2_with (first | (go_at_call 49; refine (kind_64972 _).mono ?_; rintro e w' ⟨rfl, rfl⟩) | (go_at_call 50; ((with_reducible refine (lanes64 _).mono ?_); rintro e w' ⟨rfl, rfl⟩)))
  rw [← cells_zero]
  obtain ⟨W, hW⟩ : ∃ W, W = (w.alloc (.cells (cells v) 45)).alloc (.cells (cells 0) 45) := ⟨_, rfl⟩
  have hB : W.heap[w.heap.size]? = some (.cells (cells v) 45 (0, 0)) := hW ▸ heap_alloc2_old _ _ _
  have hR : W.heap[w.heap.size + 1]? = some (.cells (cells 0) 45 (0, 0)) := hW ▸ heap_alloc2_new _ _ _
  have hZ : Below w.heap.size w W := hW ▸ ((Below.refl _ _).alloc (Nat.le_refl _) _).alloc (by simp) _
  rw [← hW]
  clear hW hp2 hn
  skip
  go_loopw [34] (fun j wr => ∃ i : Nat, i ≤ 2 ∧ j = .int .i64 i ∧ St W w.heap.size (buildOn v 64 (shR 64 12 p v) i) wr) (fun j _ => 2 - (intOf j).toNat)
  case atStart => exact ⟨0, Nat.zero_le _, rfl, St.start hB⟩
  case round =>
    obtain ⟨i, hi, rfl, hs⟩ := hrel
    by_cases hlt : i < 2
    · have hz : IntKind.u64.wrap (sgn 64 (getN v 64 i) / 2 ^ p) = ((shR 64 12 p v i : Nat) : Int) := wrap_u64 _
      go_wp2_with (first | (with_reducible refine load_vec rfl _ rfl _ rfl _ hs.this ?_) | (go_at_call 51; (with_reducible refine (got64 v _ i _ (by omega)).mono ?_); rintro e u2 ⟨rfl, hb⟩; replace hs := hs.below hb; clear hb) | (go_at_call 53; (with_reducible refine (gots64 v _ i _ (by omega)).mono ?_); rintro e u2 ⟨rfl, hb⟩; replace hs := hs.below hb; clear hb) | (go_at_call 54; (with_reducible refine (set64z _ _ _ i (shR 64 12 p v i) _ rfl rfl (by omega)).mono ?_); rintro e u2 ⟨rfl, hb⟩; replace hs := hs.below hb; clear hb) | (with_reducible refine store_vec rfl _ _ rfl w.heap.size _ rfl rfl _ hs.this ?_; intro wy hy))
      go_roundw
      case rel => exact ⟨i + 1, by omega, by go_num, hs.sets hy⟩
      case measure => (simp [intOf] <;> omega)
    · obtain rfl : i = 2 := by omega
      have hR' := hs.kb.get hR (by omega)
      go_wp2_with (first | (with_reducible refine load_vec rfl _ rfl _ rfl _ hs.this ?_) | (with_reducible refine store_vec rfl _ _ rfl (w.heap.size + 1) _ rfl rfl _ hR' ?_; intro wq hq))
      exact bodyPost_ret (results_vec_tmp rfl _ _ (w.heap.size + 1) _ _ rfl rfl hq.this) rfl ⟨rfl, (hs.kb.to_below hZ (by omega)).trans (hq.below.mono (by omega))⟩


set_option maxRecDepth 100000 in
set_option maxHeartbeats 2000000 in
theorem sh_64_13 (v : Vec) (n p : Nat) (w : World) (hp : n % 64 = p) (hn : n < 4294967296) :
    Calls Try.prog 24 #[.int .i64 64973, .agg (cells v), .int .u32 (n : Int)] w fun e w' => e = .returned (.tuple #[.agg (cells (vs 64 13 p v)), .int .i64 0]) ∧ Below w.heap.size w w' := by
  have hp2 : (n : Int) % 64 = (p : Int) := by omega
  have hp3 : p < 64 := by omega
  clear hp
  go_enter Try.func24, Try.ntmps24
  go_wp2_with (first | (go_at_call 49; refine (kind_64973 _).mono ?_; rintro e w' ⟨rfl, rfl⟩) | (go_at_call 50; ((with_reducible refine (lanes64 _).mono ?_); rintro e w' ⟨rfl, rfl⟩)))
  rw [← cells_zero]
  obtain ⟨W, hW⟩ : ∃ W, W = (w.alloc (.cells (cells v) 45)).alloc (.cells (cells 0) 45) := ⟨_, rfl⟩
  have hB : W.heap[w.heap.size]? = some (.cells (cells v) 45 (0, 0)) := hW ▸ heap_alloc2_old _ _ _
  have hR : W.heap[w.heap.size + 1]? = some (.cells (cells 0) 45 (0, 0)) := hW ▸ heap_alloc2_new _ _ _
  have hZ : Below w.heap.size w W := hW ▸ ((Below.refl _ _).alloc (Nat.le_refl _) _).alloc (by simp) _
  rw [← hW]
  clear hW hp2 hn
  skip
  go_loopw [34] (fun j wr => ∃ i : Nat, i ≤ 2 ∧ j = .int .i64 i ∧ St W w.heap.size (buildOn v 64 (shR 64 13 p v) i) wr) (fun j _ => 2 - (intOf j).toNat)
  case atStart => exact ⟨0, Nat.zero_le _, rfl, St.start hB⟩
  case round =>
    obtain ⟨i, hi, rfl, hs⟩ := hrel
    by_cases hlt : i < 2
    · have hz : (getN v 64 i : Int) / 2 ^ p = ((shR 64 13 p v i : Nat) : Int) := shr_z _ p (Nat.lt_of_lt_of_le (getN_lt v 64 i) (by decide))
      go_wp2_with (first | (with_reducible refine load_vec rfl _ rfl _ rfl _ hs.this ?_) | (go_at_call 51; (with_reducible refine (got64 v _ i _ (by omega)).mono ?_); rintro e u2 ⟨rfl, hb⟩; replace hs := hs.below hb; clear hb) | (go_at_call 53; (with_reducible refine (gots64 v _ i _ (by omega)).mono ?_); rintro e u2 ⟨rfl, hb⟩; replace hs := hs.below hb; clear hb) | (go_at_call 54; (with_reducible refine (set64z _ _ _ i (shR 64 13 p v i) _ rfl rfl (by omega)).mono ?_); rintro e u2 ⟨rfl, hb⟩; replace hs := hs.below hb; clear hb) | (with_reducible refine store_vec rfl _ _ rfl w.heap.size _ rfl rfl _ hs.this ?_; intro wy hy))
      go_roundw
      case rel => exact ⟨i + 1, by omega, by go_num, hs.sets hy⟩
      case measure => (simp [intOf] <;> omega)
    · obtain rfl : i = 2 := by omega
      have hR' := hs.kb.get hR (by omega)
      go_wp2_with (first | (with_reducible refine load_vec rfl _ rfl _ rfl _ hs.this ?_) | (with_reducible refine store_vec rfl _ _ rfl (w.heap.size + 1) _ rfl rfl _ hR' ?_; intro wq hq))
      exact bodyPost_ret (results_vec_tmp rfl _ _ (w.heap.size + 1) _ _ rfl rfl hq.this) rfl ⟨rfl, (hs.kb.to_below hZ (by omega)).trans (hq.below.mono (by omega))⟩

end Go.Proofs.Ytcpfabkokgiepaa
