/-
  widen.Bin: the rounded products, the dot product, no opcode.
-/
import Derived.Test.YtcpfabkokgiepaaWidA
import Derived.Test.YtcpfabkokgiepaaWideBin
set_option linter.unusedSimpArgs false
set_option linter.unusedVariables false
namespace Go.Proofs.Ytcpfabkokgiepaa
open Go.RowKit Pl


set_option maxHeartbeats 1000000 in
theorem bin_q15 (a b : Vec) (w : World) :
    Calls Try.prog 22 #[.int .i64 64898, .agg (cells a), .agg (cells b)] w fun e w' => e = .returned (.tuple #[.agg (cells (buildOn 0 16 (q15N a b) 8)), .int .i64 0]) ∧ Below w.heap.size w w' := by
  go_enter Try.func22, Try.ntmps22
  go_wp2_with fail
  rw [← cells_zero]
  obtain ⟨W, hW⟩ : ∃ W, W = (((((w.alloc (.cells (cells a) 45)).alloc (.cells (cells b) 45)).alloc (.cells (cells 0) 45)).alloc (.cells (cells 0) 45))) := ⟨_, rfl⟩
  have hA : W.heap[w.heap.size]? = some (.cells (cells a) 45 (0, 0)) := by rw [hW]; exact heap_alloc4_0 _ _ _ _ _
  have hB : W.heap[w.heap.size + 1]? = some (.cells (cells b) 45 (0, 0)) := by rw [hW]; exact heap_alloc4_1 _ _ _ _ _
  have hR : W.heap[w.heap.size + 2]? = some (.cells (cells 0) 45 (0, 0)) := by rw [hW]; exact heap_alloc4_2 _ _ _ _ _
  have hO : W.heap[w.heap.size + 3]? = some (.cells (cells 0) 45 (0, 0)) := by rw [hW]; exact heap_alloc4_3 _ _ _ _ _
  have hZ : Below w.heap.size w W := by rw [hW]; exact below_alloc4 _ _ _ _ _
  rw [← hW]
  clear hW
  refine (group_no _ _ _ (by unfold wrap64; decide) (by unfold wrap64; decide) (by unfold wrap64; decide)).mono ?_
  rintro e w' ⟨rfl, rfl⟩
  go_wp2_with fail
  go_loopw [62] (fun j wr => ∃ k : Nat, k ≤ 8 ∧ j = .int .i64 k ∧ St W (w.heap.size + 3) (buildOn 0 16 (q15N a b) k) wr) (fun j _ => 8 - (intOf j).toNat)
  case atStart => exact ⟨0, Nat.zero_le _, rfl, St.start hO⟩
  case round =>
    obtain ⟨k, hk, rfl, hs⟩ := hrel
    by_cases hlt : k < 8
    · go_wp2_with fail
      refine region_do (St W (w.heap.size + 3) (buildOn 0 16 (q15N a b) k)) 8 (by kernel_rfl) (by kernel_rfl) hs.drew ?_
      simp only [List.take_succ_cons, List.take_zero, List.drop_succ_cons, List.drop_zero]
      (refine do_load rfl _ rfl _ rfl _ (fun u hS => hS.kb.get hA (by omega)) ?_; simp only [Act.put, List.setIfInBounds_toArray, List.set_cons_zero, List.set_cons_succ])
      repeat (refine wpD_pure (v := ?_) rfl (fun u => ?_) ?_; rotate_left; (focus (go_simp; (try with_reducible rfl); done)); simp only [Act.put, List.setIfInBounds_toArray, List.set_cons_zero, List.set_cons_succ])
      (refine wpD_call (v := .int .i64 (sgn 16 (getN a 16 (k)))) rfl 53 ?_ (fun u => ?_) (fun u hS => ?_) ?_; rotate_left 1; (focus (go_simp; (try with_reducible rfl); done)); (focus (refine (signed16z a _ k _ rfl (by omega)).mono ?_; rintro e u2 ⟨rfl, hb⟩; exact ⟨rfl, hS.below hb⟩)); simp only [Act.put, List.setIfInBounds_toArray, List.set_cons_zero, List.set_cons_succ])
      (refine do_load rfl _ rfl _ rfl _ (fun u hS => hS.kb.get hB (by omega)) ?_; simp only [Act.put, List.setIfInBounds_toArray, List.set_cons_zero, List.set_cons_succ])
      repeat (refine wpD_pure (v := ?_) rfl (fun u => ?_) ?_; rotate_left; (focus (go_simp; (try with_reducible rfl); done)); simp only [Act.put, List.setIfInBounds_toArray, List.set_cons_zero, List.set_cons_succ])
      (refine wpD_call (v := .int .i64 (sgn 16 (getN b 16 (k)))) rfl 53 ?_ (fun u => ?_) (fun u hS => ?_) ?_; rotate_left 1; (focus (go_simp; (try with_reducible rfl); done)); (focus (refine (signed16z b _ k _ rfl (by omega)).mono ?_; rintro e u2 ⟨rfl, hb⟩; exact ⟨rfl, hS.below hb⟩)); simp only [Act.put, List.setIfInBounds_toArray, List.set_cons_zero, List.set_cons_succ])
      repeat (refine wpD_pure (v := ?_) rfl (fun u => ?_) ?_; rotate_left; (focus (go_simp; (try with_reducible rfl); done)); simp only [Act.put, List.setIfInBounds_toArray, List.set_cons_zero, List.set_cons_succ])
      refine wpD_nil (fun wq hq => ?_)
      have hb1 := sgn_bd16 (getN a 16 k) (getN_lt a 16 k)
      have hb2 := sgn_bd16 (getN b 16 k) (getN_lt b 16 k)
      have hmb := mul_bd16 _ _ hb1 hb2
      obtain ⟨p, hp⟩ : ∃ p, p = sgn 16 (getN a 16 k) * sgn 16 (getN b 16 k) := ⟨_, rfl⟩
      rw [← hp] at hmb ⊢
      have Hp := Lib.hid hp
      clear hb1 hb2 hp
      have e1 : IntKind.i64.wrap (IntKind.i64.wrap p + 16384) = p + 16384 := by rw [IntWalk.i64_in p (by omega), IntWalk.i64_in _ (by omega)]
      rw [e1]
      by_cases hm : 32767 < (p + 16384) / 32768
      · have Hv := Lib.hid (q15_hi a b k p Hp.out hm)
        go_wp2_with (first | (with_reducible refine load_vec rfl _ rfl _ rfl _ hq.this ?_) | (go_at_call 54; refine (set16z _ _ _ k (q15N a b k) _ rfl Hv.out (by omega)).mono ?_; rintro e u2 ⟨rfl, hb⟩; have hq2 := hq.below hb) | (with_reducible refine store_vec rfl _ _ rfl (w.heap.size + 3) _ rfl rfl _ hq2.this ?_; intro wz hz))
        go_roundw
        case rel => exact ⟨k + 1, by omega, by go_num, hq2.sets hz⟩
        case measure => (simp [intOf] <;> omega)
      · have Hv := Lib.hid (q15_lo a b k p Hp.out hm)
        go_wp2_with (first | (with_reducible refine load_vec rfl _ rfl _ rfl _ hq.this ?_) | (go_at_call 54; refine (set16z _ _ _ k (q15N a b k) _ rfl Hv.out (by omega)).mono ?_; rintro e u2 ⟨rfl, hb⟩; have hq2 := hq.below hb) | (with_reducible refine store_vec rfl _ _ rfl (w.heap.size + 3) _ rfl rfl _ hq2.this ?_; intro wz hz))
        go_roundw
        case rel => exact ⟨k + 1, by omega, by go_num, hq2.sets hz⟩
        case measure => (simp [intOf] <;> omega)
    · obtain rfl : k = 8 := by omega
      have hR' := hs.kb.get hR (by omega)
      go_wp2_with (first | (with_reducible refine load_vec rfl _ rfl _ rfl _ hs.this ?_) | (with_reducible refine store_vec rfl _ _ rfl (w.heap.size + 2) _ rfl rfl _ hR' ?_; intro wq hq))
      exact bodyPost_ret (results_vec_tmp rfl _ _ (w.heap.size + 2) _ _ rfl rfl hq.this) rfl ⟨rfl, (hs.kb.to_below hZ (by omega)).trans (hq.below.mono (by omega))⟩


set_option maxHeartbeats 1000000 in
theorem bin_dot (a b : Vec) (w : World) :
    Calls Try.prog 22 #[.int .i64 64954, .agg (cells a), .agg (cells b)] w fun e w' => e = .returned (.tuple #[.agg (cells (buildOn 0 32 (dotN a b) 4)), .int .i64 0]) ∧ Below w.heap.size w w' := by
  go_enter Try.func22, Try.ntmps22
  go_wp2_with fail
  rw [← cells_zero]
  obtain ⟨W, hW⟩ : ∃ W, W = (((((w.alloc (.cells (cells a) 45)).alloc (.cells (cells b) 45)).alloc (.cells (cells 0) 45)).alloc (.cells (cells 0) 45))) := ⟨_, rfl⟩
  have hA : W.heap[w.heap.size]? = some (.cells (cells a) 45 (0, 0)) := by rw [hW]; exact heap_alloc4_0 _ _ _ _ _
  have hB : W.heap[w.heap.size + 1]? = some (.cells (cells b) 45 (0, 0)) := by rw [hW]; exact heap_alloc4_1 _ _ _ _ _
  have hR : W.heap[w.heap.size + 2]? = some (.cells (cells 0) 45 (0, 0)) := by rw [hW]; exact heap_alloc4_2 _ _ _ _ _
  have hO : W.heap[w.heap.size + 3]? = some (.cells (cells 0) 45 (0, 0)) := by rw [hW]; exact heap_alloc4_3 _ _ _ _ _
  have hZ : Below w.heap.size w W := by rw [hW]; exact below_alloc4 _ _ _ _ _
  rw [← hW]
  clear hW
  refine (group_no _ _ _ (by unfold wrap64; decide) (by unfold wrap64; decide) (by unfold wrap64; decide)).mono ?_
  rintro e w' ⟨rfl, rfl⟩
  go_wp2_with fail
  go_loopw [84] (fun j wr => ∃ k : Nat, k ≤ 4 ∧ j = .int .i64 k ∧ St W (w.heap.size + 3) (buildOn 0 32 (dotN a b) k) wr) (fun j _ => 4 - (intOf j).toNat)
  case atStart => exact ⟨0, Nat.zero_le _, rfl, St.start hO⟩
  case round =>
    obtain ⟨k, hk, rfl, hs⟩ := hrel
    by_cases hlt : k < 4
    · have hk0 : (0 : Int) ≤ (k : Int) := Int.natCast_nonneg _
      have e1 : IntKind.i64.wrap (2 * (k : Int)) = 2 * k := IntWalk.i64_in _ (by omega)
      have e2 : IntKind.i64.wrap (2 * (k : Int) + 1) = 2 * k + 1 := IntWalk.i64_in _ (by omega)
      go_wp2_with fail
      refine region_do (St W (w.heap.size + 3) (buildOn 0 32 (dotN a b) k)) 9 (by kernel_rfl) (by kernel_rfl) hs.drew ?_
      simp only [List.take_succ_cons, List.take_zero, List.drop_succ_cons, List.drop_zero]
      (refine do_load rfl _ rfl _ rfl _ (fun u hS => hS.kb.get hA (by omega)) ?_; simp only [Act.put, List.setIfInBounds_toArray, List.set_cons_zero, List.set_cons_succ])
      repeat (refine wpD_pure (v := ?_) rfl (fun u => ?_) ?_; rotate_left; (focus (go_simp; (try with_reducible rfl); done)); simp only [Act.put, List.setIfInBounds_toArray, List.set_cons_zero, List.set_cons_succ])
      (refine wpD_call (v := .int .i64 (sgn 16 (getN a 16 (2 * k)))) rfl 53 ?_ (fun u => ?_) (fun u hS => ?_) ?_; rotate_left 1; (focus (go_simp; (try with_reducible rfl); done)); (focus (refine (signed16z a _ (2 * k) _ (by omega) (by omega)).mono ?_; rintro e u2 ⟨rfl, hb⟩; exact ⟨rfl, hS.below hb⟩)); simp only [Act.put, List.setIfInBounds_toArray, List.set_cons_zero, List.set_cons_succ])
      (refine do_load rfl _ rfl _ rfl _ (fun u hS => hS.kb.get hB (by omega)) ?_; simp only [Act.put, List.setIfInBounds_toArray, List.set_cons_zero, List.set_cons_succ])
      repeat (refine wpD_pure (v := ?_) rfl (fun u => ?_) ?_; rotate_left; (focus (go_simp; (try with_reducible rfl); done)); simp only [Act.put, List.setIfInBounds_toArray, List.set_cons_zero, List.set_cons_succ])
      (refine wpD_call (v := .int .i64 (sgn 16 (getN b 16 (2 * k)))) rfl 53 ?_ (fun u => ?_) (fun u hS => ?_) ?_; rotate_left 1; (focus (go_simp; (try with_reducible rfl); done)); (focus (refine (signed16z b _ (2 * k) _ (by omega) (by omega)).mono ?_; rintro e u2 ⟨rfl, hb⟩; exact ⟨rfl, hS.below hb⟩)); simp only [Act.put, List.setIfInBounds_toArray, List.set_cons_zero, List.set_cons_succ])
      repeat (refine wpD_pure (v := ?_) rfl (fun u => ?_) ?_; rotate_left; (focus (go_simp; (try with_reducible rfl); done)); simp only [Act.put, List.setIfInBounds_toArray, List.set_cons_zero, List.set_cons_succ])
      refine wpD_nil (fun wq hq => ?_)
      go_wp2_with fail
      refine region_do (St W (w.heap.size + 3) (buildOn 0 32 (dotN a b) k)) 11 (by kernel_rfl) (by kernel_rfl) hq.drew ?_
      simp only [List.take_succ_cons, List.take_zero, List.drop_succ_cons, List.drop_zero]
      (refine do_load rfl _ rfl _ rfl _ (fun u hS => hS.kb.get hA (by omega)) ?_; simp only [Act.put, List.setIfInBounds_toArray, List.set_cons_zero, List.set_cons_succ])
      repeat (refine wpD_pure (v := ?_) rfl (fun u => ?_) ?_; rotate_left; (focus (go_simp; (try with_reducible rfl); done)); simp only [Act.put, List.setIfInBounds_toArray, List.set_cons_zero, List.set_cons_succ])
      (refine wpD_call (v := .int .i64 (sgn 16 (getN a 16 (2 * k + 1)))) rfl 53 ?_ (fun u => ?_) (fun u hS => ?_) ?_; rotate_left 1; (focus (go_simp; (try with_reducible rfl); done)); (focus (refine (signed16z a _ (2 * k + 1) _ (by omega) (by omega)).mono ?_; rintro e u2 ⟨rfl, hb⟩; exact ⟨rfl, hS.below hb⟩)); simp only [Act.put, List.setIfInBounds_toArray, List.set_cons_zero, List.set_cons_succ])
      (refine do_load rfl _ rfl _ rfl _ (fun u hS => hS.kb.get hB (by omega)) ?_; simp only [Act.put, List.setIfInBounds_toArray, List.set_cons_zero, List.set_cons_succ])
      repeat (refine wpD_pure (v := ?_) rfl (fun u => ?_) ?_; rotate_left; (focus (go_simp; (try with_reducible rfl); done)); simp only [Act.put, List.setIfInBounds_toArray, List.set_cons_zero, List.set_cons_succ])
      (refine wpD_call (v := .int .i64 (sgn 16 (getN b 16 (2 * k + 1)))) rfl 53 ?_ (fun u => ?_) (fun u hS => ?_) ?_; rotate_left 1; (focus (go_simp; (try with_reducible rfl); done)); (focus (refine (signed16z b _ (2 * k + 1) _ (by omega) (by omega)).mono ?_; rintro e u2 ⟨rfl, hb⟩; exact ⟨rfl, hS.below hb⟩)); simp only [Act.put, List.setIfInBounds_toArray, List.set_cons_zero, List.set_cons_succ])
      repeat (refine wpD_pure (v := ?_) rfl (fun u => ?_) ?_; rotate_left; (focus (go_simp; (try with_reducible rfl); done)); simp only [Act.put, List.setIfInBounds_toArray, List.set_cons_zero, List.set_cons_succ])
      refine wpD_nil (fun wq hq => ?_)
      have Hv := Lib.hid (dot_wrap a b k)
      clear e1 e2
      go_wp2_with (first | (with_reducible refine load_vec rfl _ rfl _ rfl _ hq.this ?_) | (go_at_call 54; refine (set32z _ _ _ k (dotN a b k) _ rfl Hv.out (by omega)).mono ?_; rintro e u2 ⟨rfl, hb⟩; have hq2 := hq.below hb) | (with_reducible refine store_vec rfl _ _ rfl (w.heap.size + 3) _ rfl rfl _ hq2.this ?_; intro wz hz))
      go_roundw
      case rel => exact ⟨k + 1, by omega, by go_num, hq2.sets hz⟩
      case measure => (simp [intOf] <;> omega)
    · obtain rfl : k = 4 := by omega
      have hR' := hs.kb.get hR (by omega)
      go_wp2_with (first | (with_reducible refine load_vec rfl _ rfl _ rfl _ hs.this ?_) | (with_reducible refine store_vec rfl _ _ rfl (w.heap.size + 2) _ rfl rfl _ hR' ?_; intro wq hq))
      exact bodyPost_ret (results_vec_tmp rfl _ _ (w.heap.size + 2) _ _ rfl rfl hq.this) rfl ⟨rfl, (hs.kb.to_below hZ (by omega)).trans (hq.below.mono (by omega))⟩

end Go.Proofs.Ytcpfabkokgiepaa
