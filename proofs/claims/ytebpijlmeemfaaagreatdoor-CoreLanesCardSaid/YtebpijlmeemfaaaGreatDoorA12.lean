/- A part of the proof that plaittop.CoreLanes returns true. -/
import Derived.Test.YtebpijlmeemfaaaGreatDoorA01
import Derived.Test.YtebpijlmeemfaaaGreatDoorA10
set_option linter.all false
set_option linter.unusedSectionVars false
set_option linter.unusedSimpArgs false
set_option linter.unusedVariables false
section
namespace Pl
open Go
def holdN (lo hi : Int) (w : Nat) (v : Vec) (i : Nat) : Nat := u64 (min (max (sgn w (getN v w i)) lo) hi)
def nbuild (w n : Nat) (fa fb : Nat → Nat) : Nat → Vec
 | 0 => 0
 | k + 1 => setN (setN (nbuild w n fa fb k) w k (fa k)) w (n + k) (fb k)
theorem getN_nbuild (w n : Nat) (fa fb : Nat → Nat) (h : 2 * n = 128 / w) (k j : Nat) (hk : k ≤ n) :
  getN (nbuild w n fa fb k) w j = if j < k then fa j % 2 ^ w else if n ≤ j ∧ j < n + k then fb (j - n) % 2 ^ w else getN 0 w j := by
 induction k with
 | zero => simp only [nbuild, Nat.not_lt_zero, if_false]; rw [if_neg (by omega)]
 | succ k ih =>
  rw [nbuild, getN_setN _ _ _ _ _ (by omega), getN_setN _ _ _ _ _ (by omega), ih (by omega)]
  by_cases h1 : j = n + k
  ·rw [if_pos h1, if_neg (by omega), if_pos (by omega), h1, Nat.add_sub_cancel_left]
  ·rw [if_neg h1]
   by_cases h2 : j = k
   ·rw [if_pos h2, if_pos (by omega), h2]
   ·rw [if_neg h2]
    by_cases h3 : j < k
    ·rw [if_pos h3, if_pos (by omega)]
    ·rw [if_neg h3, if_neg (show ¬ j < k + 1 by omega)]
     by_cases h4 : n ≤ j ∧ j < n + k
     ·rw [if_pos h4, if_pos (by omega)]
     ·rw [if_neg h4, if_neg (by omega)]
theorem hold_wrap (lo hi x : Int) : IntKind.u64.wrap (if hi < if x < lo then lo else x then hi else if x < lo then lo else x) = ((u64 (min (max x lo) hi) : Nat) : Int) := by
 rw [wrap_u64]
 congr 2
 rw [Int.min_def, Int.max_def]
 split <;> split <;> split <;> split <;> omega
def maxI (x lo : Int) : Int := if x < lo then lo else x
def minI (hi y : Int) : Int := if hi < y then hi else y
theorem fold_max (x lo : Int) [d : Decidable (x < lo)] : @ite Int (x < lo) d lo x = maxI x lo := by unfold maxI; split <;> rfl
theorem fold_min (hi y : Int) [d : Decidable (hi < y)] : @ite Int (hi < y) d hi y = minI hi y := by unfold minI; split <;> rfl
end Pl
namespace Pl
open Go
def mulN (w c : Nat) (a b : Vec) (i : Nat) : Nat := extN a w c i * extN b w c i % 2 ^ 64
theorem wrap_mul (x y : Nat) : IntKind.u64.wrap ((x : Int) * (y : Int)) = ((x * y % 2 ^ 64 : Nat) : Int) := by
 rw [wrap_u64]
 unfold u64
 have h1 : ((x : Int) * (y : Int)) = ((x * y : Nat) : Int) := by simp
 rw [h1]
 omega
end Pl
namespace Pl
open Go
def q15N (a b : Vec) (i : Nat) : Nat := u64 (min ((sgn 16 (getN a 16 i) * sgn 16 (getN b 16 i) + 16384) / 32768) 32767)
def dotN (a b : Vec) (i : Nat) : Nat := u64 (sgn 16 (getN a 16 (2 * i)) * sgn 16 (getN b 16 (2 * i)) + sgn 16 (getN a 16 (2 * i + 1)) * sgn 16 (getN b 16 (2 * i + 1)))
end Pl
namespace Pl
theorem sgn_bd16 (n : Nat) (h : n < 2 ^ 16) : -32768 ≤ sgn 16 n ∧ sgn 16 n ≤ 32767 := by
 unfold sgn
 have e : (2 : Int) ^ 16 = 65536 := by decide
 have e2 : (2 : Nat) ^ 16 = 65536 := by decide
 have e3 : (2 : Nat) ^ (16 - 1) = 32768 := by decide
 rw [e, e3]
 rw [e2] at h
 split <;> omega
theorem mul_bd16 (x y : Int) (hx : -32768 ≤ x ∧ x ≤ 32767) (hy : -32768 ≤ y ∧ y ≤ 32767) : -1073741824 ≤ x * y ∧ x * y ≤ 1073741824 := by
 have h1 : (x * y).natAbs = x.natAbs * y.natAbs := Int.natAbs_mul x y
 have h2 : x.natAbs * y.natAbs ≤ 32768 * 32768 := Nat.mul_le_mul (by omega) (by omega)
 omega
end Pl
namespace Pl
open Go
theorem q15_hi (a b : Vec) (k : Nat) (p : Int) (hp : p = sgn 16 (getN a 16 k) * sgn 16 (getN b 16 k)) (h : 32767 < (p + 16384) / 32768) : (32767 : Int) = ((q15N a b k : Nat) : Int) := by
 unfold q15N
 rw [← hp, Int.min_def, if_neg (by omega)]
 rfl
theorem q15_lo (a b : Vec) (k : Nat) (p : Int) (hp : p = sgn 16 (getN a 16 k) * sgn 16 (getN b 16 k)) (h : ¬ 32767 < (p + 16384) / 32768) : IntKind.u64.wrap ((p + 16384) / 32768) = ((q15N a b k : Nat) : Int) := by
 unfold q15N
 rw [← hp, Int.min_def, if_pos (by omega), wrap_u64]
theorem dot_wrap (a b : Vec) (k : Nat) : IntKind.u64.wrap (RowKit.wrap64 (RowKit.wrap64 (sgn 16 (getN a 16 (2 * k)) * sgn 16 (getN b 16 (2 * k))) + RowKit.wrap64 (sgn 16 (getN a 16 (2 * k + 1)) * sgn 16 (getN b 16 (2 * k + 1))))) = ((dotN a b k : Nat) : Int) := by
 have h1 := mul_bd16 _ _ (sgn_bd16 _ (getN_lt a 16 (2 * k))) (sgn_bd16 _ (getN_lt b 16 (2 * k)))
 have h2 := mul_bd16 _ _ (sgn_bd16 _ (getN_lt a 16 (2 * k + 1))) (sgn_bd16 _ (getN_lt b 16 (2 * k + 1)))
 rw [IntWalk.wrap64_in (sgn 16 (getN a 16 (2 * k)) * _) (by omega), IntWalk.wrap64_in (sgn 16 (getN a 16 (2 * k + 1)) * _) (by omega), IntWalk.wrap64_in _ (by omega), wrap_u64]
 rfl
end Pl
namespace Pl
def binW (op : Int) (a b : Vec) : Vec × Int :=
 if 64924 ≤ op ∧ op < 64928 then (buildOn 0 16 (mulN 8 (op - 64924).toNat a b) 8, 0)
 else if 64956 ≤ op ∧ op < 64960 then (buildOn 0 32 (mulN 16 (op - 64956).toNat a b) 4, 0)
 else if 64988 ≤ op ∧ op < 64992 then (buildOn 0 64 (mulN 32 (op - 64988).toNat a b) 2, 0)
 else if op = 64869 then (nbuild 8 8 (holdN (-128) 127 16 a) (holdN (-128) 127 16 b) 8, 0)
 else if op = 64870 then (nbuild 8 8 (holdN 0 255 16 a) (holdN 0 255 16 b) 8, 0)
 else if op = 64901 then (nbuild 16 4 (holdN (-32768) 32767 32 a) (holdN (-32768) 32767 32 b) 4, 0)
 else if op = 64902 then (nbuild 16 4 (holdN 0 65535 32 a) (holdN 0 65535 32 b) 4, 0)
 else if op = 64898 then (buildOn 0 16 (q15N a b) 8, 0)
 else if op = 64954 then (buildOn 0 32 (dotN a b) 4, 0)
 else (0, 1)
end Pl
end
section
namespace Go.Proofs.YtebpijlmeemfaaaGreatDoor
open Go.RowKit Pl
set_option maxHeartbeats 1000000 in
theorem bin_row8 (op : Int) (c : Nat) (a b : Vec) (w : World) (hc : c < 4) (hop : op = 64924 + c) :
  Calls Tryz.prog 91 #[.int .i64 op, .agg (cells a), .agg (cells b)] w fun e w' => e = .returned (.tuple #[.agg (cells (buildOn 0 16 (mulN 8 c a b) 8)), .int .i64 0]) ∧ Below w.heap.size w w' := by
 subst hop
 go_enter Tryz.func91, Tryz.ntmps91
 go_wp2_with fail
 rw [← cells_zero]
 obtain ⟨W, hW⟩ : ∃ W, W = (((((w.alloc (.cells (cells a) 23)).alloc (.cells (cells b) 23)).alloc (.cells (cells 0) 23)).alloc (.cells (cells 0) 23))) := ⟨_, rfl⟩
 have hA : W.heap[w.heap.size]? = some (.cells (cells a) 23 (0, 0)) := by rw [hW]; exact heap_alloc4_0 _ _ _ _ _
 have hB : W.heap[w.heap.size + 1]? = some (.cells (cells b) 23 (0, 0)) := by rw [hW]; exact heap_alloc4_1 _ _ _ _ _
 have hR : W.heap[w.heap.size + 2]? = some (.cells (cells 0) 23 (0, 0)) := by rw [hW]; exact heap_alloc4_2 _ _ _ _ _
 have hO : W.heap[w.heap.size + 3]? = some (.cells (cells 0) 23 (0, 0)) := by rw [hW]; exact heap_alloc4_3 _ _ _ _ _
 have hZ : Below w.heap.size w W := by rw [hW]; exact below_alloc4 _ _ _ _ _
 rw [← hW]
 clear hW
 refine (group0 _ 156 c _ hc (by omega) (by decide) (by decide)).mono ?_
 rintro e w' ⟨rfl, rfl⟩
 go_wp2_with fail
 go_loopw [29] (fun j wr => ∃ k : Nat, k ≤ 8 ∧ j = .int .i64 k ∧ St W (w.heap.size + 3) (buildOn 0 16 (mulN 8 c a b) k) wr) (fun j _ => 8 - (intOf j).toNat)
 case atStart => exact ⟨0, Nat.zero_le _, rfl, St.start hO⟩
 case round =>
  obtain ⟨k, hk, rfl, hs⟩ := hrel
  by_cases hlt : k < 8
  ·go_wp2_with fail
   refine region_do (St W (w.heap.size + 3) (buildOn 0 16 (mulN 8 c a b) k)) 16 (by kernel_rfl) (by kernel_rfl) hs.drew ?_
   simp only [List.take_succ_cons, List.take_zero, List.drop_succ_cons, List.drop_zero]
   (refine do_load rfl _ rfl _ rfl _ (fun u hS => hS.this) ?_; simp only [Act.put, zqA, zqB, zqC])
   repeat (refine wpD_pure (v := ?_) rfl (fun u => ?_) ?_; rotate_left; (focus (go_simp; (try with_reducible rfl); done)); simp only [Act.put, zqA, zqB, zqC])
   (refine do_load rfl _ rfl _ rfl _ (fun u hS => hS.kb.get hA (by omega)) ?_; simp only [Act.put, zqA, zqB, zqC])
   repeat (refine wpD_pure (v := ?_) rfl (fun u => ?_) ?_; rotate_left; (focus (go_simp; (try with_reducible rfl); done)); simp only [Act.put, zqA, zqB, zqC])
   (refine wpD_call (v := .int .u64 (extN a 8 c k : Nat)) rfl 154 ?_ (fun u => ?_) (fun u hS => ?_) ?_; rotate_left 1; (focus (go_simp; (try with_reducible rfl); done)); (focus (refine (ext8 a c k _ _ rfl hc (by omega)).mono ?_; rintro e u2 ⟨rfl, hb⟩; exact ⟨rfl, hS.below hb⟩)); simp only [Act.put, zqA, zqB, zqC])
   repeat (refine wpD_pure (v := ?_) rfl (fun u => ?_) ?_; rotate_left; (focus (go_simp; (try with_reducible rfl); done)); simp only [Act.put, zqA, zqB, zqC])
   (refine do_load rfl _ rfl _ rfl _ (fun u hS => hS.kb.get hB (by omega)) ?_; simp only [Act.put, zqA, zqB, zqC])
   repeat (refine wpD_pure (v := ?_) rfl (fun u => ?_) ?_; rotate_left; (focus (go_simp; (try with_reducible rfl); done)); simp only [Act.put, zqA, zqB, zqC])
   (refine wpD_call (v := .int .u64 (extN b 8 c k : Nat)) rfl 154 ?_ (fun u => ?_) (fun u hS => ?_) ?_; rotate_left 1; (focus (go_simp; (try with_reducible rfl); done)); (focus (refine (ext8 b c k _ _ rfl hc (by omega)).mono ?_; rintro e u2 ⟨rfl, hb⟩; exact ⟨rfl, hS.below hb⟩)); simp only [Act.put, zqA, zqB, zqC])
   repeat (refine wpD_pure (v := ?_) rfl (fun u => ?_) ?_; rotate_left; (focus (go_simp; (try with_reducible rfl); done)); simp only [Act.put, zqA, zqB, zqC])
   (refine wpD_call (v := .agg (cells (setN (buildOn 0 16 (mulN 8 c a b) k) 16 k (mulN 8 c a b k)))) rfl 51 ?_ (fun u => ?_) (fun u hS => ?_) ?_; rotate_left 1; (focus (go_simp; (try with_reducible rfl); done)); (focus (refine (set16z _ _ _ k (mulN 8 c a b k) _ rfl (wrap_mul _ _) (by omega)).mono ?_; rintro e u2 ⟨rfl, hb⟩; exact ⟨rfl, hS.below hb⟩)); simp only [Act.put, zqA, zqB, zqC])
   refine wpD_nil (fun wq hq => ?_)
   go_wp2_with ((with_reducible refine store_vec rfl _ _ rfl (w.heap.size + 3) _ rfl rfl _ hq.this ?_; intro wz hz))
   go_roundw
   case rel => exact ⟨k + 1, by omega, by go_num, hq.sets hz⟩
   case measure => (simp [intOf] <;> omega)
  ·obtain rfl : k = 8 := by omega
   have hR' := hs.kb.get hR (by omega)
   go_wp2_with (first | (with_reducible refine load_vec rfl _ rfl _ rfl _ hs.this ?_) | (with_reducible refine store_vec rfl _ _ rfl (w.heap.size + 2) _ rfl rfl _ hR' ?_; intro wq hq))
   exact bodyPost_ret (results_vec_tmp rfl _ _ (w.heap.size + 2) _ _ rfl rfl hq.this) rfl ⟨rfl, (hs.kb.to_below hZ (by omega)).trans (hq.below.mono (by omega))⟩
set_option maxHeartbeats 1000000 in
theorem bin_row16 (op : Int) (c : Nat) (a b : Vec) (w : World) (hc : c < 4) (hop : op = 64956 + c) :
  Calls Tryz.prog 91 #[.int .i64 op, .agg (cells a), .agg (cells b)] w fun e w' => e = .returned (.tuple #[.agg (cells (buildOn 0 32 (mulN 16 c a b) 4)), .int .i64 0]) ∧ Below w.heap.size w w' := by
 subst hop
 go_enter Tryz.func91, Tryz.ntmps91
 go_wp2_with fail
 rw [← cells_zero]
 obtain ⟨W, hW⟩ : ∃ W, W = (((((w.alloc (.cells (cells a) 23)).alloc (.cells (cells b) 23)).alloc (.cells (cells 0) 23)).alloc (.cells (cells 0) 23))) := ⟨_, rfl⟩
 have hA : W.heap[w.heap.size]? = some (.cells (cells a) 23 (0, 0)) := by rw [hW]; exact heap_alloc4_0 _ _ _ _ _
 have hB : W.heap[w.heap.size + 1]? = some (.cells (cells b) 23 (0, 0)) := by rw [hW]; exact heap_alloc4_1 _ _ _ _ _
 have hR : W.heap[w.heap.size + 2]? = some (.cells (cells 0) 23 (0, 0)) := by rw [hW]; exact heap_alloc4_2 _ _ _ _ _
 have hO : W.heap[w.heap.size + 3]? = some (.cells (cells 0) 23 (0, 0)) := by rw [hW]; exact heap_alloc4_3 _ _ _ _ _
 have hZ : Below w.heap.size w W := by rw [hW]; exact below_alloc4 _ _ _ _ _
 rw [← hW]
 clear hW
 refine (group1 _ 156 c _ hc (by omega) (by decide) (by decide)).mono ?_
 rintro e w' ⟨rfl, rfl⟩
 go_wp2_with fail
 go_loopw [29] (fun j wr => ∃ k : Nat, k ≤ 4 ∧ j = .int .i64 k ∧ St W (w.heap.size + 3) (buildOn 0 32 (mulN 16 c a b) k) wr) (fun j _ => 4 - (intOf j).toNat)
 case atStart => exact ⟨0, Nat.zero_le _, rfl, St.start hO⟩
 case round =>
  obtain ⟨k, hk, rfl, hs⟩ := hrel
  by_cases hlt : k < 4
  ·go_wp2_with fail
   refine region_do (St W (w.heap.size + 3) (buildOn 0 32 (mulN 16 c a b) k)) 16 (by kernel_rfl) (by kernel_rfl) hs.drew ?_
   simp only [List.take_succ_cons, List.take_zero, List.drop_succ_cons, List.drop_zero]
   (refine do_load rfl _ rfl _ rfl _ (fun u hS => hS.this) ?_; simp only [Act.put, zqA, zqB, zqC])
   repeat (refine wpD_pure (v := ?_) rfl (fun u => ?_) ?_; rotate_left; (focus (go_simp; (try with_reducible rfl); done)); simp only [Act.put, zqA, zqB, zqC])
   (refine do_load rfl _ rfl _ rfl _ (fun u hS => hS.kb.get hA (by omega)) ?_; simp only [Act.put, zqA, zqB, zqC])
   repeat (refine wpD_pure (v := ?_) rfl (fun u => ?_) ?_; rotate_left; (focus (go_simp; (try with_reducible rfl); done)); simp only [Act.put, zqA, zqB, zqC])
   (refine wpD_call (v := .int .u64 (extN a 16 c k : Nat)) rfl 154 ?_ (fun u => ?_) (fun u hS => ?_) ?_; rotate_left 1; (focus (go_simp; (try with_reducible rfl); done)); (focus (refine (ext16 a c k _ _ rfl hc (by omega)).mono ?_; rintro e u2 ⟨rfl, hb⟩; exact ⟨rfl, hS.below hb⟩)); simp only [Act.put, zqA, zqB, zqC])
   repeat (refine wpD_pure (v := ?_) rfl (fun u => ?_) ?_; rotate_left; (focus (go_simp; (try with_reducible rfl); done)); simp only [Act.put, zqA, zqB, zqC])
   (refine do_load rfl _ rfl _ rfl _ (fun u hS => hS.kb.get hB (by omega)) ?_; simp only [Act.put, zqA, zqB, zqC])
   repeat (refine wpD_pure (v := ?_) rfl (fun u => ?_) ?_; rotate_left; (focus (go_simp; (try with_reducible rfl); done)); simp only [Act.put, zqA, zqB, zqC])
   (refine wpD_call (v := .int .u64 (extN b 16 c k : Nat)) rfl 154 ?_ (fun u => ?_) (fun u hS => ?_) ?_; rotate_left 1; (focus (go_simp; (try with_reducible rfl); done)); (focus (refine (ext16 b c k _ _ rfl hc (by omega)).mono ?_; rintro e u2 ⟨rfl, hb⟩; exact ⟨rfl, hS.below hb⟩)); simp only [Act.put, zqA, zqB, zqC])
   repeat (refine wpD_pure (v := ?_) rfl (fun u => ?_) ?_; rotate_left; (focus (go_simp; (try with_reducible rfl); done)); simp only [Act.put, zqA, zqB, zqC])
   (refine wpD_call (v := .agg (cells (setN (buildOn 0 32 (mulN 16 c a b) k) 32 k (mulN 16 c a b k)))) rfl 51 ?_ (fun u => ?_) (fun u hS => ?_) ?_; rotate_left 1; (focus (go_simp; (try with_reducible rfl); done)); (focus (refine (set32z _ _ _ k (mulN 16 c a b k) _ rfl (wrap_mul _ _) (by omega)).mono ?_; rintro e u2 ⟨rfl, hb⟩; exact ⟨rfl, hS.below hb⟩)); simp only [Act.put, zqA, zqB, zqC])
   refine wpD_nil (fun wq hq => ?_)
   go_wp2_with ((with_reducible refine store_vec rfl _ _ rfl (w.heap.size + 3) _ rfl rfl _ hq.this ?_; intro wz hz))
   go_roundw
   case rel => exact ⟨k + 1, by omega, by go_num, hq.sets hz⟩
   case measure => (simp [intOf] <;> omega)
  ·obtain rfl : k = 4 := by omega
   have hR' := hs.kb.get hR (by omega)
   go_wp2_with (first | (with_reducible refine load_vec rfl _ rfl _ rfl _ hs.this ?_) | (with_reducible refine store_vec rfl _ _ rfl (w.heap.size + 2) _ rfl rfl _ hR' ?_; intro wq hq))
   exact bodyPost_ret (results_vec_tmp rfl _ _ (w.heap.size + 2) _ _ rfl rfl hq.this) rfl ⟨rfl, (hs.kb.to_below hZ (by omega)).trans (hq.below.mono (by omega))⟩
set_option maxHeartbeats 1000000 in
theorem bin_row32 (op : Int) (c : Nat) (a b : Vec) (w : World) (hc : c < 4) (hop : op = 64988 + c) :
  Calls Tryz.prog 91 #[.int .i64 op, .agg (cells a), .agg (cells b)] w fun e w' => e = .returned (.tuple #[.agg (cells (buildOn 0 64 (mulN 32 c a b) 2)), .int .i64 0]) ∧ Below w.heap.size w w' := by
 subst hop
 go_enter Tryz.func91, Tryz.ntmps91
 go_wp2_with fail
 rw [← cells_zero]
 obtain ⟨W, hW⟩ : ∃ W, W = (((((w.alloc (.cells (cells a) 23)).alloc (.cells (cells b) 23)).alloc (.cells (cells 0) 23)).alloc (.cells (cells 0) 23))) := ⟨_, rfl⟩
 have hA : W.heap[w.heap.size]? = some (.cells (cells a) 23 (0, 0)) := by rw [hW]; exact heap_alloc4_0 _ _ _ _ _
 have hB : W.heap[w.heap.size + 1]? = some (.cells (cells b) 23 (0, 0)) := by rw [hW]; exact heap_alloc4_1 _ _ _ _ _
 have hR : W.heap[w.heap.size + 2]? = some (.cells (cells 0) 23 (0, 0)) := by rw [hW]; exact heap_alloc4_2 _ _ _ _ _
 have hO : W.heap[w.heap.size + 3]? = some (.cells (cells 0) 23 (0, 0)) := by rw [hW]; exact heap_alloc4_3 _ _ _ _ _
 have hZ : Below w.heap.size w W := by rw [hW]; exact below_alloc4 _ _ _ _ _
 rw [← hW]
 clear hW
 refine (group2 _ 156 c _ hc (by omega) (by decide) (by decide)).mono ?_
 rintro e w' ⟨rfl, rfl⟩
 go_wp2_with fail
 go_loopw [29] (fun j wr => ∃ k : Nat, k ≤ 2 ∧ j = .int .i64 k ∧ St W (w.heap.size + 3) (buildOn 0 64 (mulN 32 c a b) k) wr) (fun j _ => 2 - (intOf j).toNat)
 case atStart => exact ⟨0, Nat.zero_le _, rfl, St.start hO⟩
 case round =>
  obtain ⟨k, hk, rfl, hs⟩ := hrel
  by_cases hlt : k < 2
  ·go_wp2_with fail
   refine region_do (St W (w.heap.size + 3) (buildOn 0 64 (mulN 32 c a b) k)) 16 (by kernel_rfl) (by kernel_rfl) hs.drew ?_
   simp only [List.take_succ_cons, List.take_zero, List.drop_succ_cons, List.drop_zero]
   (refine do_load rfl _ rfl _ rfl _ (fun u hS => hS.this) ?_; simp only [Act.put, zqA, zqB, zqC])
   repeat (refine wpD_pure (v := ?_) rfl (fun u => ?_) ?_; rotate_left; (focus (go_simp; (try with_reducible rfl); done)); simp only [Act.put, zqA, zqB, zqC])
   (refine do_load rfl _ rfl _ rfl _ (fun u hS => hS.kb.get hA (by omega)) ?_; simp only [Act.put, zqA, zqB, zqC])
   repeat (refine wpD_pure (v := ?_) rfl (fun u => ?_) ?_; rotate_left; (focus (go_simp; (try with_reducible rfl); done)); simp only [Act.put, zqA, zqB, zqC])
   (refine wpD_call (v := .int .u64 (extN a 32 c k : Nat)) rfl 154 ?_ (fun u => ?_) (fun u hS => ?_) ?_; rotate_left 1; (focus (go_simp; (try with_reducible rfl); done)); (focus (refine (ext32 a c k _ _ rfl hc (by omega)).mono ?_; rintro e u2 ⟨rfl, hb⟩; exact ⟨rfl, hS.below hb⟩)); simp only [Act.put, zqA, zqB, zqC])
   repeat (refine wpD_pure (v := ?_) rfl (fun u => ?_) ?_; rotate_left; (focus (go_simp; (try with_reducible rfl); done)); simp only [Act.put, zqA, zqB, zqC])
   (refine do_load rfl _ rfl _ rfl _ (fun u hS => hS.kb.get hB (by omega)) ?_; simp only [Act.put, zqA, zqB, zqC])
   repeat (refine wpD_pure (v := ?_) rfl (fun u => ?_) ?_; rotate_left; (focus (go_simp; (try with_reducible rfl); done)); simp only [Act.put, zqA, zqB, zqC])
   (refine wpD_call (v := .int .u64 (extN b 32 c k : Nat)) rfl 154 ?_ (fun u => ?_) (fun u hS => ?_) ?_; rotate_left 1; (focus (go_simp; (try with_reducible rfl); done)); (focus (refine (ext32 b c k _ _ rfl hc (by omega)).mono ?_; rintro e u2 ⟨rfl, hb⟩; exact ⟨rfl, hS.below hb⟩)); simp only [Act.put, zqA, zqB, zqC])
   repeat (refine wpD_pure (v := ?_) rfl (fun u => ?_) ?_; rotate_left; (focus (go_simp; (try with_reducible rfl); done)); simp only [Act.put, zqA, zqB, zqC])
   (refine wpD_call (v := .agg (cells (setN (buildOn 0 64 (mulN 32 c a b) k) 64 k (mulN 32 c a b k)))) rfl 51 ?_ (fun u => ?_) (fun u hS => ?_) ?_; rotate_left 1; (focus (go_simp; (try with_reducible rfl); done)); (focus (refine (set64z _ _ _ k (mulN 32 c a b k) _ rfl (wrap_mul _ _) (by omega)).mono ?_; rintro e u2 ⟨rfl, hb⟩; exact ⟨rfl, hS.below hb⟩)); simp only [Act.put, zqA, zqB, zqC])
   refine wpD_nil (fun wq hq => ?_)
   go_wp2_with ((with_reducible refine store_vec rfl _ _ rfl (w.heap.size + 3) _ rfl rfl _ hq.this ?_; intro wz hz))
   go_roundw
   case rel => exact ⟨k + 1, by omega, by go_num, hq.sets hz⟩
   case measure => (simp [intOf] <;> omega)
  ·obtain rfl : k = 2 := by omega
   have hR' := hs.kb.get hR (by omega)
   go_wp2_with (first | (with_reducible refine load_vec rfl _ rfl _ rfl _ hs.this ?_) | (with_reducible refine store_vec rfl _ _ rfl (w.heap.size + 2) _ rfl rfl _ hR' ?_; intro wq hq))
   exact bodyPost_ret (results_vec_tmp rfl _ _ (w.heap.size + 2) _ _ rfl rfl hq.this) rfl ⟨rfl, (hs.kb.to_below hZ (by omega)).trans (hq.below.mono (by omega))⟩
end Go.Proofs.YtebpijlmeemfaaaGreatDoor
end
section
namespace Go.Proofs.YtebpijlmeemfaaaGreatDoor
open Go.RowKit Pl
set_option maxHeartbeats 1000000 in
theorem bin_q15 (a b : Vec) (w : World) :
  Calls Tryz.prog 91 #[.int .i64 64898, .agg (cells a), .agg (cells b)] w fun e w' => e = .returned (.tuple #[.agg (cells (buildOn 0 16 (q15N a b) 8)), .int .i64 0]) ∧ Below w.heap.size w w' := by
 go_enter Tryz.func91, Tryz.ntmps91
 go_wp2_with fail
 rw [← cells_zero]
 obtain ⟨W, hW⟩ : ∃ W, W = (((((w.alloc (.cells (cells a) 23)).alloc (.cells (cells b) 23)).alloc (.cells (cells 0) 23)).alloc (.cells (cells 0) 23))) := ⟨_, rfl⟩
 have hA : W.heap[w.heap.size]? = some (.cells (cells a) 23 (0, 0)) := by rw [hW]; exact heap_alloc4_0 _ _ _ _ _
 have hB : W.heap[w.heap.size + 1]? = some (.cells (cells b) 23 (0, 0)) := by rw [hW]; exact heap_alloc4_1 _ _ _ _ _
 have hR : W.heap[w.heap.size + 2]? = some (.cells (cells 0) 23 (0, 0)) := by rw [hW]; exact heap_alloc4_2 _ _ _ _ _
 have hO : W.heap[w.heap.size + 3]? = some (.cells (cells 0) 23 (0, 0)) := by rw [hW]; exact heap_alloc4_3 _ _ _ _ _
 have hZ : Below w.heap.size w W := by rw [hW]; exact below_alloc4 _ _ _ _ _
 rw [← hW]
 clear hW
 refine (group_no _ _ _ (by unfold wrap64; decide) (by unfold wrap64; decide) (by unfold wrap64; decide)).mono ?_
 rintro e w' ⟨rfl, rfl⟩
 go_wp2_with fail
 go_loopw [62] (fun j wr => ∃ k : Nat, k ≤ 8 ∧ j = .int .i64 k ∧ St W (w.heap.size + 3) (buildOn 0 16 (q15N a b) k) wr) (fun j _ => 8 - (intOf j).toNat)
 case atStart => exact ⟨0, Nat.zero_le _, rfl, St.start hO⟩
 case round =>
  obtain ⟨k, hk, rfl, hs⟩ := hrel
  by_cases hlt : k < 8
  ·go_wp2_with fail
   refine region_do (St W (w.heap.size + 3) (buildOn 0 16 (q15N a b) k)) 8 (by kernel_rfl) (by kernel_rfl) hs.drew ?_
   simp only [List.take_succ_cons, List.take_zero, List.drop_succ_cons, List.drop_zero]
   (refine do_load rfl _ rfl _ rfl _ (fun u hS => hS.kb.get hA (by omega)) ?_; simp only [Act.put, zqA, zqB, zqC])
   repeat (refine wpD_pure (v := ?_) rfl (fun u => ?_) ?_; rotate_left; (focus (go_simp; (try with_reducible rfl); done)); simp only [Act.put, zqA, zqB, zqC])
   (refine wpD_call (v := .int .i64 (sgn 16 (getN a 16 (k)))) rfl 122 ?_ (fun u => ?_) (fun u hS => ?_) ?_; rotate_left 1; (focus (go_simp; (try with_reducible rfl); done)); (focus (refine (signed16z a _ k _ rfl (by omega)).mono ?_; rintro e u2 ⟨rfl, hb⟩; exact ⟨rfl, hS.below hb⟩)); simp only [Act.put, zqA, zqB, zqC])
   (refine do_load rfl _ rfl _ rfl _ (fun u hS => hS.kb.get hB (by omega)) ?_; simp only [Act.put, zqA, zqB, zqC])
   repeat (refine wpD_pure (v := ?_) rfl (fun u => ?_) ?_; rotate_left; (focus (go_simp; (try with_reducible rfl); done)); simp only [Act.put, zqA, zqB, zqC])
   (refine wpD_call (v := .int .i64 (sgn 16 (getN b 16 (k)))) rfl 122 ?_ (fun u => ?_) (fun u hS => ?_) ?_; rotate_left 1; (focus (go_simp; (try with_reducible rfl); done)); (focus (refine (signed16z b _ k _ rfl (by omega)).mono ?_; rintro e u2 ⟨rfl, hb⟩; exact ⟨rfl, hS.below hb⟩)); simp only [Act.put, zqA, zqB, zqC])
   repeat (refine wpD_pure (v := ?_) rfl (fun u => ?_) ?_; rotate_left; (focus (go_simp; (try with_reducible rfl); done)); simp only [Act.put, zqA, zqB, zqC])
   refine wpD_nil (fun wq hq => ?_)
   have hb1 := sgn_bd16 (getN a 16 k) (getN_lt a 16 k)
   have hb2 := sgn_bd16 (getN b 16 k) (getN_lt b 16 k)
   have hmb := mul_bd16 _ _ hb1 hb2
   obtain ⟨p, hp⟩ : ∃ p, p = sgn 16 (getN a 16 k) * sgn 16 (getN b 16 k) := ⟨_, rfl⟩
   rw [← hp] at hmb ⊢
   have Hp := Lib.hid hp
   clear hb1 hb2 hp
   have e1 : IntKind.i64.wrap (IntKind.i64.wrap p + 16384) = p + 16384 := by rw [IntWalk.i64_in p (by omega), IntWalk.i64_in _ (by omega)]
   rw [e1]
   by_cases hm : 32767 < (p + 16384) / 32768
   ·have Hv := Lib.hid (q15_hi a b k p Hp.out hm)
    go_wp2_with (first | (with_reducible refine load_vec rfl _ rfl _ rfl _ hq.this ?_) | (go_at_call 51; refine (set16z _ _ _ k (q15N a b k) _ rfl Hv.out (by omega)).mono ?_; rintro e u2 ⟨rfl, hb⟩; have hq2 := hq.below hb) | (with_reducible refine store_vec rfl _ _ rfl (w.heap.size + 3) _ rfl rfl _ hq2.this ?_; intro wz hz))
    go_roundw
    case rel => exact ⟨k + 1, by omega, by go_num, hq2.sets hz⟩
    case measure => (simp [intOf] <;> omega)
   ·have Hv := Lib.hid (q15_lo a b k p Hp.out hm)
    go_wp2_with (first | (with_reducible refine load_vec rfl _ rfl _ rfl _ hq.this ?_) | (go_at_call 51; refine (set16z _ _ _ k (q15N a b k) _ rfl Hv.out (by omega)).mono ?_; rintro e u2 ⟨rfl, hb⟩; have hq2 := hq.below hb) | (with_reducible refine store_vec rfl _ _ rfl (w.heap.size + 3) _ rfl rfl _ hq2.this ?_; intro wz hz))
    go_roundw
    case rel => exact ⟨k + 1, by omega, by go_num, hq2.sets hz⟩
    case measure => (simp [intOf] <;> omega)
  ·obtain rfl : k = 8 := by omega
   have hR' := hs.kb.get hR (by omega)
   go_wp2_with (first | (with_reducible refine load_vec rfl _ rfl _ rfl _ hs.this ?_) | (with_reducible refine store_vec rfl _ _ rfl (w.heap.size + 2) _ rfl rfl _ hR' ?_; intro wq hq))
   exact bodyPost_ret (results_vec_tmp rfl _ _ (w.heap.size + 2) _ _ rfl rfl hq.this) rfl ⟨rfl, (hs.kb.to_below hZ (by omega)).trans (hq.below.mono (by omega))⟩
set_option maxHeartbeats 1000000 in
theorem bin_dot (a b : Vec) (w : World) :
  Calls Tryz.prog 91 #[.int .i64 64954, .agg (cells a), .agg (cells b)] w fun e w' => e = .returned (.tuple #[.agg (cells (buildOn 0 32 (dotN a b) 4)), .int .i64 0]) ∧ Below w.heap.size w w' := by
 go_enter Tryz.func91, Tryz.ntmps91
 go_wp2_with fail
 rw [← cells_zero]
 obtain ⟨W, hW⟩ : ∃ W, W = (((((w.alloc (.cells (cells a) 23)).alloc (.cells (cells b) 23)).alloc (.cells (cells 0) 23)).alloc (.cells (cells 0) 23))) := ⟨_, rfl⟩
 have hA : W.heap[w.heap.size]? = some (.cells (cells a) 23 (0, 0)) := by rw [hW]; exact heap_alloc4_0 _ _ _ _ _
 have hB : W.heap[w.heap.size + 1]? = some (.cells (cells b) 23 (0, 0)) := by rw [hW]; exact heap_alloc4_1 _ _ _ _ _
 have hR : W.heap[w.heap.size + 2]? = some (.cells (cells 0) 23 (0, 0)) := by rw [hW]; exact heap_alloc4_2 _ _ _ _ _
 have hO : W.heap[w.heap.size + 3]? = some (.cells (cells 0) 23 (0, 0)) := by rw [hW]; exact heap_alloc4_3 _ _ _ _ _
 have hZ : Below w.heap.size w W := by rw [hW]; exact below_alloc4 _ _ _ _ _
 rw [← hW]
 clear hW
 refine (group_no _ _ _ (by unfold wrap64; decide) (by unfold wrap64; decide) (by unfold wrap64; decide)).mono ?_
 rintro e w' ⟨rfl, rfl⟩
 go_wp2_with fail
 go_loopw [84] (fun j wr => ∃ k : Nat, k ≤ 4 ∧ j = .int .i64 k ∧ St W (w.heap.size + 3) (buildOn 0 32 (dotN a b) k) wr) (fun j _ => 4 - (intOf j).toNat)
 case atStart => exact ⟨0, Nat.zero_le _, rfl, St.start hO⟩
 case round =>
  obtain ⟨k, hk, rfl, hs⟩ := hrel
  by_cases hlt : k < 4
  ·have hk0 : (0 : Int) ≤ (k : Int) := Int.natCast_nonneg _
   have e1 : IntKind.i64.wrap (2 * (k : Int)) = 2 * k := IntWalk.i64_in _ (by omega)
   have e2 : IntKind.i64.wrap (2 * (k : Int) + 1) = 2 * k + 1 := IntWalk.i64_in _ (by omega)
   go_wp2_with fail
   refine region_do (St W (w.heap.size + 3) (buildOn 0 32 (dotN a b) k)) 9 (by kernel_rfl) (by kernel_rfl) hs.drew ?_
   simp only [List.take_succ_cons, List.take_zero, List.drop_succ_cons, List.drop_zero]
   (refine do_load rfl _ rfl _ rfl _ (fun u hS => hS.kb.get hA (by omega)) ?_; simp only [Act.put, zqA, zqB, zqC])
   repeat (refine wpD_pure (v := ?_) rfl (fun u => ?_) ?_; rotate_left; (focus (go_simp; (try with_reducible rfl); done)); simp only [Act.put, zqA, zqB, zqC])
   (refine wpD_call (v := .int .i64 (sgn 16 (getN a 16 (2 * k)))) rfl 122 ?_ (fun u => ?_) (fun u hS => ?_) ?_; rotate_left 1; (focus (go_simp; (try with_reducible rfl); done)); (focus (refine (signed16z a _ (2 * k) _ (by omega) (by omega)).mono ?_; rintro e u2 ⟨rfl, hb⟩; exact ⟨rfl, hS.below hb⟩)); simp only [Act.put, zqA, zqB, zqC])
   (refine do_load rfl _ rfl _ rfl _ (fun u hS => hS.kb.get hB (by omega)) ?_; simp only [Act.put, zqA, zqB, zqC])
   repeat (refine wpD_pure (v := ?_) rfl (fun u => ?_) ?_; rotate_left; (focus (go_simp; (try with_reducible rfl); done)); simp only [Act.put, zqA, zqB, zqC])
   (refine wpD_call (v := .int .i64 (sgn 16 (getN b 16 (2 * k)))) rfl 122 ?_ (fun u => ?_) (fun u hS => ?_) ?_; rotate_left 1; (focus (go_simp; (try with_reducible rfl); done)); (focus (refine (signed16z b _ (2 * k) _ (by omega) (by omega)).mono ?_; rintro e u2 ⟨rfl, hb⟩; exact ⟨rfl, hS.below hb⟩)); simp only [Act.put, zqA, zqB, zqC])
   repeat (refine wpD_pure (v := ?_) rfl (fun u => ?_) ?_; rotate_left; (focus (go_simp; (try with_reducible rfl); done)); simp only [Act.put, zqA, zqB, zqC])
   refine wpD_nil (fun wq hq => ?_)
   go_wp2_with fail
   refine region_do (St W (w.heap.size + 3) (buildOn 0 32 (dotN a b) k)) 11 (by kernel_rfl) (by kernel_rfl) hq.drew ?_
   simp only [List.take_succ_cons, List.take_zero, List.drop_succ_cons, List.drop_zero]
   (refine do_load rfl _ rfl _ rfl _ (fun u hS => hS.kb.get hA (by omega)) ?_; simp only [Act.put, zqA, zqB, zqC])
   repeat (refine wpD_pure (v := ?_) rfl (fun u => ?_) ?_; rotate_left; (focus (go_simp; (try with_reducible rfl); done)); simp only [Act.put, zqA, zqB, zqC])
   (refine wpD_call (v := .int .i64 (sgn 16 (getN a 16 (2 * k + 1)))) rfl 122 ?_ (fun u => ?_) (fun u hS => ?_) ?_; rotate_left 1; (focus (go_simp; (try with_reducible rfl); done)); (focus (refine (signed16z a _ (2 * k + 1) _ (by omega) (by omega)).mono ?_; rintro e u2 ⟨rfl, hb⟩; exact ⟨rfl, hS.below hb⟩)); simp only [Act.put, zqA, zqB, zqC])
   (refine do_load rfl _ rfl _ rfl _ (fun u hS => hS.kb.get hB (by omega)) ?_; simp only [Act.put, zqA, zqB, zqC])
   repeat (refine wpD_pure (v := ?_) rfl (fun u => ?_) ?_; rotate_left; (focus (go_simp; (try with_reducible rfl); done)); simp only [Act.put, zqA, zqB, zqC])
   (refine wpD_call (v := .int .i64 (sgn 16 (getN b 16 (2 * k + 1)))) rfl 122 ?_ (fun u => ?_) (fun u hS => ?_) ?_; rotate_left 1; (focus (go_simp; (try with_reducible rfl); done)); (focus (refine (signed16z b _ (2 * k + 1) _ (by omega) (by omega)).mono ?_; rintro e u2 ⟨rfl, hb⟩; exact ⟨rfl, hS.below hb⟩)); simp only [Act.put, zqA, zqB, zqC])
   repeat (refine wpD_pure (v := ?_) rfl (fun u => ?_) ?_; rotate_left; (focus (go_simp; (try with_reducible rfl); done)); simp only [Act.put, zqA, zqB, zqC])
   refine wpD_nil (fun wq hq => ?_)
   have Hv := Lib.hid (dot_wrap a b k)
   clear e1 e2
   go_wp2_with (first | (with_reducible refine load_vec rfl _ rfl _ rfl _ hq.this ?_) | (go_at_call 51; refine (set32z _ _ _ k (dotN a b k) _ rfl Hv.out (by omega)).mono ?_; rintro e u2 ⟨rfl, hb⟩; have hq2 := hq.below hb) | (with_reducible refine store_vec rfl _ _ rfl (w.heap.size + 3) _ rfl rfl _ hq2.this ?_; intro wz hz))
   go_roundw
   case rel => exact ⟨k + 1, by omega, by go_num, hq2.sets hz⟩
   case measure => (simp [intOf] <;> omega)
  ·obtain rfl : k = 4 := by omega
   have hR' := hs.kb.get hR (by omega)
   go_wp2_with (first | (with_reducible refine load_vec rfl _ rfl _ rfl _ hs.this ?_) | (with_reducible refine store_vec rfl _ _ rfl (w.heap.size + 2) _ rfl rfl _ hR' ?_; intro wq hq))
   exact bodyPost_ret (results_vec_tmp rfl _ _ (w.heap.size + 2) _ _ rfl rfl hq.this) rfl ⟨rfl, (hs.kb.to_below hZ (by omega)).trans (hq.below.mono (by omega))⟩
end Go.Proofs.YtebpijlmeemfaaaGreatDoor
end
