/-
  move.Splat: its contracts; the plain laws of VmemParts.
-/
import Derived.Test.YtlcndenbnokcjaaVmH
import Derived.Test.YtlcndenbnokcjaaWidU
set_option linter.unusedSimpArgs false
set_option linter.unusedVariables false
namespace Go.Proofs.Ytlcndenbnokcjaa
open Go.RowKit Pl

set_option maxRecDepth 100000 in
theorem splat_8 (x : Nat) (w : World) :
    Calls Try.prog 43 #[.int .i64 64783, .int .u64 (x : Nat)] w fun e w' => e = .returned (.tuple #[.agg (cells (buildOn 0 8 (fun _ => x) 16)), .int .i64 0]) ∧ Below w.heap.size w w' := by
  go_enter Try.func43, Try.ntmps43
  go_wp2_with (first | (go_at_call 54; ((with_reducible refine (lanes8 _).mono ?_); rintro e w' ⟨rfl, rfl⟩)))
  rw [← cells_zero]
  obtain ⟨W, hW⟩ : ∃ W, W = (w.alloc (.cells (cells 0) 61)).alloc (.cells (cells 0) 61) := ⟨_, rfl⟩
  have hR : W.heap[w.heap.size]? = some (.cells (cells 0) 61 (0, 0)) := hW ▸ heap_alloc2_old _ _ _
  have hO : W.heap[w.heap.size + 1]? = some (.cells (cells 0) 61 (0, 0)) := hW ▸ heap_alloc2_new _ _ _
  have hZ : Below w.heap.size w W := hW ▸ ((Below.refl _ _).alloc (Nat.le_refl _) _).alloc (by simp) _
  rw [← hW]
  clear hW
  go_loopw [24] (fun j wr => ∃ k : Nat, k ≤ 16 ∧ j = .int .i64 k ∧ St W (w.heap.size + 1) (buildOn 0 8 (fun _ => x) k) wr) (fun j _ => 16 - (intOf j).toNat)
  case atStart => exact ⟨0, Nat.zero_le _, rfl, St.start hO⟩
  case round =>
    obtain ⟨k, hk, rfl, hs⟩ := hrel
    by_cases hlt : k < 16
    · go_wp2_with (first | (with_reducible refine load_vec rfl _ rfl _ rfl _ hs.this ?_) | (go_at_call 31; (with_reducible refine (set8z _ _ _ k x _ rfl rfl (by omega)).mono ?_); rintro e u ⟨rfl, hb⟩; replace hs := hs.below hb; clear hb) | (with_reducible refine store_vec rfl _ _ rfl (w.heap.size + 1) _ rfl rfl _ hs.this ?_; intro wz hz))
      go_roundw
      case rel => exact ⟨k + 1, by omega, by go_num, hs.sets hz⟩
      case measure => (simp [intOf] <;> omega)
    · obtain rfl : k = 16 := by omega
      have hR' := hs.kb.get hR (by omega)
      go_wp2_with (first | (with_reducible refine load_vec rfl _ rfl _ rfl _ hs.this ?_) | (with_reducible refine store_vec rfl _ _ rfl w.heap.size _ rfl rfl _ hR' ?_; intro wq hq))
      exact bodyPost_ret (results_vec_tmp rfl _ _ w.heap.size _ _ rfl rfl hq.this) rfl ⟨rfl, (hs.kb.to_below hZ (by omega)).trans (hq.below.mono (by omega))⟩
set_option maxRecDepth 100000 in
theorem splat_16 (x : Nat) (w : World) :
    Calls Try.prog 43 #[.int .i64 64784, .int .u64 (x : Nat)] w fun e w' => e = .returned (.tuple #[.agg (cells (buildOn 0 16 (fun _ => x) 8)), .int .i64 0]) ∧ Below w.heap.size w w' := by
  go_enter Try.func43, Try.ntmps43
  go_wp2_with (first | (go_at_call 54; ((with_reducible refine (lanes16 _).mono ?_); rintro e w' ⟨rfl, rfl⟩)))
  rw [← cells_zero]
  obtain ⟨W, hW⟩ : ∃ W, W = (w.alloc (.cells (cells 0) 61)).alloc (.cells (cells 0) 61) := ⟨_, rfl⟩
  have hR : W.heap[w.heap.size]? = some (.cells (cells 0) 61 (0, 0)) := hW ▸ heap_alloc2_old _ _ _
  have hO : W.heap[w.heap.size + 1]? = some (.cells (cells 0) 61 (0, 0)) := hW ▸ heap_alloc2_new _ _ _
  have hZ : Below w.heap.size w W := hW ▸ ((Below.refl _ _).alloc (Nat.le_refl _) _).alloc (by simp) _
  rw [← hW]
  clear hW
  go_loopw [24] (fun j wr => ∃ k : Nat, k ≤ 8 ∧ j = .int .i64 k ∧ St W (w.heap.size + 1) (buildOn 0 16 (fun _ => x) k) wr) (fun j _ => 8 - (intOf j).toNat)
  case atStart => exact ⟨0, Nat.zero_le _, rfl, St.start hO⟩
  case round =>
    obtain ⟨k, hk, rfl, hs⟩ := hrel
    by_cases hlt : k < 8
    · go_wp2_with (first | (with_reducible refine load_vec rfl _ rfl _ rfl _ hs.this ?_) | (go_at_call 31; (with_reducible refine (set16z _ _ _ k x _ rfl rfl (by omega)).mono ?_); rintro e u ⟨rfl, hb⟩; replace hs := hs.below hb; clear hb) | (with_reducible refine store_vec rfl _ _ rfl (w.heap.size + 1) _ rfl rfl _ hs.this ?_; intro wz hz))
      go_roundw
      case rel => exact ⟨k + 1, by omega, by go_num, hs.sets hz⟩
      case measure => (simp [intOf] <;> omega)
    · obtain rfl : k = 8 := by omega
      have hR' := hs.kb.get hR (by omega)
      go_wp2_with (first | (with_reducible refine load_vec rfl _ rfl _ rfl _ hs.this ?_) | (with_reducible refine store_vec rfl _ _ rfl w.heap.size _ rfl rfl _ hR' ?_; intro wq hq))
      exact bodyPost_ret (results_vec_tmp rfl _ _ w.heap.size _ _ rfl rfl hq.this) rfl ⟨rfl, (hs.kb.to_below hZ (by omega)).trans (hq.below.mono (by omega))⟩
set_option maxRecDepth 100000 in
theorem splat_32 (x : Nat) (w : World) :
    Calls Try.prog 43 #[.int .i64 64785, .int .u64 (x : Nat)] w fun e w' => e = .returned (.tuple #[.agg (cells (buildOn 0 32 (fun _ => x) 4)), .int .i64 0]) ∧ Below w.heap.size w w' := by
  go_enter Try.func43, Try.ntmps43
  go_wp2_with (first | (go_at_call 54; ((with_reducible refine (lanes32 _).mono ?_); rintro e w' ⟨rfl, rfl⟩)))
  rw [← cells_zero]
  obtain ⟨W, hW⟩ : ∃ W, W = (w.alloc (.cells (cells 0) 61)).alloc (.cells (cells 0) 61) := ⟨_, rfl⟩
  have hR : W.heap[w.heap.size]? = some (.cells (cells 0) 61 (0, 0)) := hW ▸ heap_alloc2_old _ _ _
  have hO : W.heap[w.heap.size + 1]? = some (.cells (cells 0) 61 (0, 0)) := hW ▸ heap_alloc2_new _ _ _
  have hZ : Below w.heap.size w W := hW ▸ ((Below.refl _ _).alloc (Nat.le_refl _) _).alloc (by simp) _
  rw [← hW]
  clear hW
  go_loopw [24] (fun j wr => ∃ k : Nat, k ≤ 4 ∧ j = .int .i64 k ∧ St W (w.heap.size + 1) (buildOn 0 32 (fun _ => x) k) wr) (fun j _ => 4 - (intOf j).toNat)
  case atStart => exact ⟨0, Nat.zero_le _, rfl, St.start hO⟩
  case round =>
    obtain ⟨k, hk, rfl, hs⟩ := hrel
    by_cases hlt : k < 4
    · go_wp2_with (first | (with_reducible refine load_vec rfl _ rfl _ rfl _ hs.this ?_) | (go_at_call 31; (with_reducible refine (set32z _ _ _ k x _ rfl rfl (by omega)).mono ?_); rintro e u ⟨rfl, hb⟩; replace hs := hs.below hb; clear hb) | (with_reducible refine store_vec rfl _ _ rfl (w.heap.size + 1) _ rfl rfl _ hs.this ?_; intro wz hz))
      go_roundw
      case rel => exact ⟨k + 1, by omega, by go_num, hs.sets hz⟩
      case measure => (simp [intOf] <;> omega)
    · obtain rfl : k = 4 := by omega
      have hR' := hs.kb.get hR (by omega)
      go_wp2_with (first | (with_reducible refine load_vec rfl _ rfl _ rfl _ hs.this ?_) | (with_reducible refine store_vec rfl _ _ rfl w.heap.size _ rfl rfl _ hR' ?_; intro wq hq))
      exact bodyPost_ret (results_vec_tmp rfl _ _ w.heap.size _ _ rfl rfl hq.this) rfl ⟨rfl, (hs.kb.to_below hZ (by omega)).trans (hq.below.mono (by omega))⟩
set_option maxRecDepth 100000 in
theorem splat_64 (x : Nat) (w : World) :
    Calls Try.prog 43 #[.int .i64 64786, .int .u64 (x : Nat)] w fun e w' => e = .returned (.tuple #[.agg (cells (buildOn 0 64 (fun _ => x) 2)), .int .i64 0]) ∧ Below w.heap.size w w' := by
  go_enter Try.func43, Try.ntmps43
  go_wp2_with (first | (go_at_call 54; ((with_reducible refine (lanes64 _).mono ?_); rintro e w' ⟨rfl, rfl⟩)))
  rw [← cells_zero]
  obtain ⟨W, hW⟩ : ∃ W, W = (w.alloc (.cells (cells 0) 61)).alloc (.cells (cells 0) 61) := ⟨_, rfl⟩
  have hR : W.heap[w.heap.size]? = some (.cells (cells 0) 61 (0, 0)) := hW ▸ heap_alloc2_old _ _ _
  have hO : W.heap[w.heap.size + 1]? = some (.cells (cells 0) 61 (0, 0)) := hW ▸ heap_alloc2_new _ _ _
  have hZ : Below w.heap.size w W := hW ▸ ((Below.refl _ _).alloc (Nat.le_refl _) _).alloc (by simp) _
  rw [← hW]
  clear hW
  go_loopw [24] (fun j wr => ∃ k : Nat, k ≤ 2 ∧ j = .int .i64 k ∧ St W (w.heap.size + 1) (buildOn 0 64 (fun _ => x) k) wr) (fun j _ => 2 - (intOf j).toNat)
  case atStart => exact ⟨0, Nat.zero_le _, rfl, St.start hO⟩
  case round =>
    obtain ⟨k, hk, rfl, hs⟩ := hrel
    by_cases hlt : k < 2
    · go_wp2_with (first | (with_reducible refine load_vec rfl _ rfl _ rfl _ hs.this ?_) | (go_at_call 31; (with_reducible refine (set64z _ _ _ k x _ rfl rfl (by omega)).mono ?_); rintro e u ⟨rfl, hb⟩; replace hs := hs.below hb; clear hb) | (with_reducible refine store_vec rfl _ _ rfl (w.heap.size + 1) _ rfl rfl _ hs.this ?_; intro wz hz))
      go_roundw
      case rel => exact ⟨k + 1, by omega, by go_num, hs.sets hz⟩
      case measure => (simp [intOf] <;> omega)
    · obtain rfl : k = 2 := by omega
      have hR' := hs.kb.get hR (by omega)
      go_wp2_with (first | (with_reducible refine load_vec rfl _ rfl _ rfl _ hs.this ?_) | (with_reducible refine store_vec rfl _ _ rfl w.heap.size _ rfl rfl _ hR' ?_; intro wq hq))
      exact bodyPost_ret (results_vec_tmp rfl _ _ w.heap.size _ _ rfl rfl hq.this) rfl ⟨rfl, (hs.kb.to_below hZ (by omega)).trans (hq.below.mono (by omega))⟩
theorem mod_part (y a m : Nat) (h : a + m ≤ 64) : y % 2 ^ 64 / 2 ^ a % 2 ^ m = y / 2 ^ a % 2 ^ m := by
  apply Nat.eq_of_testBit_eq
  intro j
  rw [Nat.testBit_mod_two_pow, Nat.testBit_mod_two_pow, Nat.testBit_div_two_pow, Nat.testBit_div_two_pow, Nat.testBit_mod_two_pow]
  by_cases hj : j < m
  · rw [decide_eq_true (show j + a < 64 by omega), Bool.true_and]
  · rw [decide_eq_false hj, Bool.false_and, Bool.false_and]
theorem getN_low (v : Vec) (w i : Nat) (h : w * i + w ≤ 64) : getN (lowV (getN v 64 0)) w i = getN v w i := by
  have h1 := bitsAt_putAt_in 0 0 64 (getN v 64 0) (w * i) w (by decide) h
  rw [Nat.zero_add] at h1
  refine Eq.trans h1 ?_
  show v.toNat / 2 ^ (64 * 0) % 2 ^ 64 / 2 ^ (w * i) % 2 ^ w = v.toNat / 2 ^ (w * i) % 2 ^ w
  rw [mod_part _ _ _ h]
  simp
theorem spread_ext (v : Vec) (w : Nat) (hw : w = 8 ∨ w = 16 ∨ w = 32) : spreadV (getN v 64 0) w true = buildOn 0 (2 * w) (extN v w 0) (64 / w) ∧ spreadV (getN v 64 0) w false = buildOn 0 (2 * w) (extN v w 2) (64 / w) := by
  have key : ∀ i, i < 64 / w → getN (lowV (getN v 64 0)) w i = getN v w i := fun i hi => getN_low v w i (by rcases hw with rfl | rfl | rfl <;> omega)
  unfold spreadV
  constructor
  · refine buildOn_congr _ _ _ _ _ (fun i hi => ?_)
    rw [if_pos rfl, key i hi]
    show _ = (if 0 < 2 then u64 (sgn w (getN v w (i + 0 % 2 * (64 / w)))) else _) % _
    rw [if_pos (by decide), Nat.zero_mod, Nat.zero_mul, Nat.add_zero]
  · refine buildOn_congr _ _ _ _ _ (fun i hi => ?_)
    rw [if_neg (by decide), key i hi]
    show _ = (if 2 < 2 then _ else getN v w (i + 2 % 2 * (64 / w))) % _
    rw [if_neg (by decide), Nat.mod_self, Nat.zero_mul, Nat.add_zero]
theorem one_32 (n : Nat) (h : n < 4294967296) : buildOn 0 64 (fun i => [n].getD i 0) 1 = buildOn 0 32 (fun i => [n].getD i 0) 1 := by
  show putAt 0 (64 * 0) 64 n = putAt 0 (32 * 0) 32 n
  apply vec_ext
  intro j _
  rw [testBit_putAt _ _ _ _ _ (by decide), testBit_putAt _ _ _ _ _ (by decide)]
  by_cases h1 : j < 32
  · rw [if_pos ⟨by omega, by omega⟩, if_pos ⟨by omega, by omega⟩]
  · rw [if_neg (show ¬ (32 * 0 ≤ j ∧ j < 32 * 0 + 32) by omega)]
    by_cases h2 : j < 64
    · rw [if_pos ⟨by omega, by omega⟩]
      have : n.testBit j = false := Nat.testBit_lt_two_pow (Nat.lt_of_lt_of_le h (show 2 ^ 32 ≤ 2 ^ j from Nat.pow_le_pow_right (by decide) (by omega)))
      rw [show j - 64 * 0 = j by omega, this]
      simp
    · rw [if_neg (by omega)]
end Go.Proofs.Ytlcndenbnokcjaa
