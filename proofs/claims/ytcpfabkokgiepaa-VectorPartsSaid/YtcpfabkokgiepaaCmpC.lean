/-
  compare.Cmp: each width.
-/
import Derived.Test.YtcpfabkokgiepaaCmpA
import Derived.Test.YtcpfabkokgiepaaDoG
set_option linter.unusedSimpArgs false
set_option linter.unusedVariables false
namespace Go.Proofs.Ytcpfabkokgiepaa
open Go.RowKit Pl
set_option linter.unusedVariables false

end Go.Proofs.Ytcpfabkokgiepaa
namespace Pl
/-- The mask of a comparison. -/
def mskN (w : Nat) (k : Int) (a b : Vec) (i : Nat) : Nat := if holdC k (sgn w (getN a w i)) (sgn w (getN b w i)) = true then 18446744073709551615 else 0
theorem lit_ones : (18446744073709551615 : Int) = ((18446744073709551615 : Nat) : Int) := rfl
theorem msk_yes (w : Nat) (k : Int) (a b : Vec) (i : Nat) (h : holdC k (sgn w (getN a w i)) (sgn w (getN b w i)) = true) : mskN w k a b i = 18446744073709551615 := if_pos h
theorem setN_same (v : Vec) (w i : Nat) (h : i < 128 / w) : setN v w i (getN v w i) = v := by
  apply vec_ext
  intro j _
  unfold setN getN
  rw [testBit_putAt _ _ _ _ _ (lane_in h), testBit_bitsAt]
  split
  · rename_i h2
    rw [decide_eq_true (by omega), show w * i + (j - w * i) = j by omega]; rfl
  · rfl
theorem msk_no (w : Nat) (k : Int) (a b : Vec) (i : Nat) (hi : i < 128 / w) (h : holdC k (sgn w (getN a w i)) (sgn w (getN b w i)) = false) : buildOn 0 w (mskN w k a b) (i + 1) = buildOn 0 w (mskN w k a b) i := by
  have hm : mskN w k a b i = 0 := by unfold mskN; rw [if_neg (by rw [h]; decide)]
  have hz : getN (buildOn 0 w (mskN w k a b) i) w i = 0 := by
    rw [getN_buildOn _ _ _ _ _ (by omega), if_neg (by omega)]
    simp [getN, bitsAt]
  have hs := setN_same (buildOn 0 w (mskN w k a b) i) w i hi
  rw [buildOn, hm]
  rw [hz] at hs
  exact hs
end Pl
namespace Go.Proofs.Ytcpfabkokgiepaa
open Go.RowKit Pl

theorem holds_t {k s t : Int} (h : holdC k s t = true) (w : World) : Calls Try.prog 60 #[.int .i64 k, .int .i64 s, .int .i64 t] w fun e w' => e = .returned (.bool true) ∧ w' = w := by
  have := holds_any k s t w; rw [h] at this; exact this
theorem holds_f {k s t : Int} (h : holdC k s t = false) (w : World) : Calls Try.prog 60 #[.int .i64 k, .int .i64 s, .int .i64 t] w fun e w' => e = .returned (.bool false) ∧ w' = w := by
  have := holds_any k s t w; rw [h] at this; exact this


set_option maxRecDepth 100000 in
set_option maxHeartbeats 2000000 in
theorem cmp_w8 (op k : Int) (a b : Vec) (w : World) (hk : 0 ≤ k ∧ k ≤ 9) (ho : ∀ w, Calls Try.prog 59 #[.int .i64 op] w fun e w' => e = .returned (.tuple #[.int .i64 8, .int .i64 k]) ∧ w' = w) :
    Calls Try.prog 23 #[.int .i64 op, .agg (cells a), .agg (cells b)] w fun e w' => e = .returned (.tuple #[.agg (cells (buildOn 0 8 (mskN 8 k a b) 16)), .int .i64 0]) ∧ Below w.heap.size w w' := by
  obtain ⟨hk0, hk9⟩ := hk
  have HO := Lib.hid ho
  clear ho
  go_enter Try.func23, Try.ntmps23
  go_wp2_with (first | (go_at_call 59; refine (HO.out _).mono ?_; rintro e w' ⟨rfl, rfl⟩) | (go_at_call 50; ((with_reducible refine (lanes8 _).mono ?_); rintro e w' ⟨rfl, rfl⟩)))
  rw [← cells_zero]
  obtain ⟨W, hW⟩ : ∃ W, W = (((((w.alloc (.cells (cells a) 45)).alloc (.cells (cells b) 45)).alloc (.cells (cells 0) 45)).alloc (.cells (cells 0) 45))) := ⟨_, rfl⟩
  have hA : W.heap[w.heap.size]? = some (.cells (cells a) 45 (0, 0)) := by rw [hW]; exact heap_alloc4_0 _ _ _ _ _
  have hB : W.heap[w.heap.size + 1]? = some (.cells (cells b) 45 (0, 0)) := by rw [hW]; exact heap_alloc4_1 _ _ _ _ _
  have hR : W.heap[w.heap.size + 2]? = some (.cells (cells 0) 45 (0, 0)) := by rw [hW]; exact heap_alloc4_2 _ _ _ _ _
  have hO : W.heap[w.heap.size + 3]? = some (.cells (cells 0) 45 (0, 0)) := by rw [hW]; exact heap_alloc4_3 _ _ _ _ _
  have hZ : Below w.heap.size w W := by rw [hW]; exact below_alloc4 _ _ _ _ _
  rw [← hW]
  clear hW
  go_loopw [22] (fun j wr => ∃ i : Nat, i ≤ 16 ∧ j = .int .i64 i ∧ St W (w.heap.size + 3) (buildOn 0 8 (mskN 8 k a b) i) wr) (fun j _ => 16 - (intOf j).toNat)
  case atStart => exact ⟨0, Nat.zero_le _, rfl, St.start hO⟩
  case round =>
    obtain ⟨i, hi, rfl, hs⟩ := hrel
    by_cases hlt : i < 16
    · rcases (show holdC k (sgn 8 (getN a 8 i)) (sgn 8 (getN b 8 i)) = true ∨ holdC k (sgn 8 (getN a 8 i)) (sgn 8 (getN b 8 i)) = false from by cases holdC k (sgn 8 (getN a 8 i)) (sgn 8 (getN b 8 i)) <;> simp) with hh | hh
      · have HH := Lib.hid (holds_t hh)
        have HM : buildOn 0 8 (mskN 8 k a b) (i + 1) = setN (buildOn 0 8 (mskN 8 k a b) i) 8 i 18446744073709551615 := by rw [buildOn, msk_yes 8 k a b i hh]
        have HM2 := Lib.hid HM
        clear hh HM
        go_wp2_with fail
        refine region_do (St W (w.heap.size + 3) (buildOn 0 8 (mskN 8 k a b) i)) 9 (by kernel_rfl) (by kernel_rfl) hs.drew ?_
        simp only [List.take_succ_cons, List.take_zero, List.drop_succ_cons, List.drop_zero]
        repeat (first | (refine do_load rfl _ rfl _ rfl _ (fun u hS => hS.kb.get hA (by omega)) ?_; simp only [Act.put, List.setIfInBounds_toArray, List.set_cons_zero, List.set_cons_succ]) | (refine wpD_pure (v := ?_) rfl (fun u => ?_) ?_; rotate_left; (focus (go_simp; (try with_reducible rfl); done)); simp only [Act.put, List.setIfInBounds_toArray, List.set_cons_zero, List.set_cons_succ]))
        (refine wpD_call (v := .int .i64 (sgn 8 (getN a 8 i))) rfl 53 ?_ (fun u => ?_) (fun u hS => ?_) ?_; rotate_left 1; (focus (go_simp; (try with_reducible rfl); done)); (focus (refine (signed8z a _ i _ rfl (by omega)).mono ?_; rintro e u2 ⟨rfl, hb⟩; exact ⟨rfl, hS.below hb⟩)); simp only [Act.put, List.setIfInBounds_toArray, List.set_cons_zero, List.set_cons_succ])
        repeat (first | (refine do_load rfl _ rfl _ rfl _ (fun u hS => hS.kb.get hB (by omega)) ?_; simp only [Act.put, List.setIfInBounds_toArray, List.set_cons_zero, List.set_cons_succ]) | (refine wpD_pure (v := ?_) rfl (fun u => ?_) ?_; rotate_left; (focus (go_simp; (try with_reducible rfl); done)); simp only [Act.put, List.setIfInBounds_toArray, List.set_cons_zero, List.set_cons_succ]))
        (refine wpD_call (v := .int .i64 (sgn 8 (getN b 8 i))) rfl 53 ?_ (fun u => ?_) (fun u hS => ?_) ?_; rotate_left 1; (focus (go_simp; (try with_reducible rfl); done)); (focus (refine (signed8z b _ i _ rfl (by omega)).mono ?_; rintro e u2 ⟨rfl, hb⟩; exact ⟨rfl, hS.below hb⟩)); simp only [Act.put, List.setIfInBounds_toArray, List.set_cons_zero, List.set_cons_succ])
        repeat (refine wpD_pure (v := ?_) rfl (fun u => ?_) ?_; rotate_left; (focus (go_simp; (try with_reducible rfl); done)); simp only [Act.put, List.setIfInBounds_toArray, List.set_cons_zero, List.set_cons_succ])
        refine wpD_nil (fun wq hq => ?_)
        go_wp2_with (first | (go_at_call 60; refine (HH.out _).mono ?_; rintro e w' ⟨rfl, rfl⟩) | (with_reducible refine load_vec rfl _ rfl _ rfl _ hq.this ?_) | (go_at_call 54; (with_reducible refine (set8z _ _ _ i 18446744073709551615 _ rfl lit_ones (by omega)).mono ?_); rintro e u2 ⟨rfl, hb⟩; have hr := hq.below hb) | (with_reducible refine store_vec rfl _ _ rfl (w.heap.size + 3) _ rfl rfl _ hr.this ?_; intro wy hy))
        go_roundw
        case rel => exact ⟨i + 1, by omega, by go_num, HM2.out ▸ hr.sets hy⟩
        case measure => (simp [intOf] <;> omega)
      · have HH := Lib.hid (holds_f hh)
        have HM2 := Lib.hid (msk_no 8 k a b i (by omega) hh)
        clear hh
        go_wp2_with fail
        refine region_do (St W (w.heap.size + 3) (buildOn 0 8 (mskN 8 k a b) i)) 9 (by kernel_rfl) (by kernel_rfl) hs.drew ?_
        simp only [List.take_succ_cons, List.take_zero, List.drop_succ_cons, List.drop_zero]
        repeat (first | (refine do_load rfl _ rfl _ rfl _ (fun u hS => hS.kb.get hA (by omega)) ?_; simp only [Act.put, List.setIfInBounds_toArray, List.set_cons_zero, List.set_cons_succ]) | (refine wpD_pure (v := ?_) rfl (fun u => ?_) ?_; rotate_left; (focus (go_simp; (try with_reducible rfl); done)); simp only [Act.put, List.setIfInBounds_toArray, List.set_cons_zero, List.set_cons_succ]))
        (refine wpD_call (v := .int .i64 (sgn 8 (getN a 8 i))) rfl 53 ?_ (fun u => ?_) (fun u hS => ?_) ?_; rotate_left 1; (focus (go_simp; (try with_reducible rfl); done)); (focus (refine (signed8z a _ i _ rfl (by omega)).mono ?_; rintro e u2 ⟨rfl, hb⟩; exact ⟨rfl, hS.below hb⟩)); simp only [Act.put, List.setIfInBounds_toArray, List.set_cons_zero, List.set_cons_succ])
        repeat (first | (refine do_load rfl _ rfl _ rfl _ (fun u hS => hS.kb.get hB (by omega)) ?_; simp only [Act.put, List.setIfInBounds_toArray, List.set_cons_zero, List.set_cons_succ]) | (refine wpD_pure (v := ?_) rfl (fun u => ?_) ?_; rotate_left; (focus (go_simp; (try with_reducible rfl); done)); simp only [Act.put, List.setIfInBounds_toArray, List.set_cons_zero, List.set_cons_succ]))
        (refine wpD_call (v := .int .i64 (sgn 8 (getN b 8 i))) rfl 53 ?_ (fun u => ?_) (fun u hS => ?_) ?_; rotate_left 1; (focus (go_simp; (try with_reducible rfl); done)); (focus (refine (signed8z b _ i _ rfl (by omega)).mono ?_; rintro e u2 ⟨rfl, hb⟩; exact ⟨rfl, hS.below hb⟩)); simp only [Act.put, List.setIfInBounds_toArray, List.set_cons_zero, List.set_cons_succ])
        repeat (refine wpD_pure (v := ?_) rfl (fun u => ?_) ?_; rotate_left; (focus (go_simp; (try with_reducible rfl); done)); simp only [Act.put, List.setIfInBounds_toArray, List.set_cons_zero, List.set_cons_succ])
        refine wpD_nil (fun wq hq => ?_)
        go_wp2_with (go_at_call 60; refine (HH.out _).mono ?_; rintro e w' ⟨rfl, rfl⟩)
        go_roundw
        case rel => exact ⟨i + 1, by omega, by go_num, HM2.out ▸ hq⟩
        case measure => (simp [intOf] <;> omega)
    · obtain rfl : i = 16 := by omega
      have hR' := hs.kb.get hR (by omega)
      go_wp2_with (first | (with_reducible refine load_vec rfl _ rfl _ rfl _ hs.this ?_) | (with_reducible refine store_vec rfl _ _ rfl (w.heap.size + 2) _ rfl rfl _ hR' ?_; intro wq hq))
      exact bodyPost_ret (results_vec_tmp rfl _ _ (w.heap.size + 2) _ _ rfl rfl hq.this) rfl ⟨rfl, (hs.kb.to_below hZ (by omega)).trans (hq.below.mono (by omega))⟩


set_option maxRecDepth 100000 in
set_option maxHeartbeats 2000000 in
theorem cmp_w16 (op k : Int) (a b : Vec) (w : World) (hk : 0 ≤ k ∧ k ≤ 9) (ho : ∀ w, Calls Try.prog 59 #[.int .i64 op] w fun e w' => e = .returned (.tuple #[.int .i64 16, .int .i64 k]) ∧ w' = w) :
    Calls Try.prog 23 #[.int .i64 op, .agg (cells a), .agg (cells b)] w fun e w' => e = .returned (.tuple #[.agg (cells (buildOn 0 16 (mskN 16 k a b) 8)), .int .i64 0]) ∧ Below w.heap.size w w' := by
  obtain ⟨hk0, hk9⟩ := hk
  have HO := Lib.hid ho
  clear ho
  go_enter Try.func23, Try.ntmps23
  go_wp2_with (first | (go_at_call 59; refine (HO.out _).mono ?_; rintro e w' ⟨rfl, rfl⟩) | (go_at_call 50; ((with_reducible refine (lanes16 _).mono ?_); rintro e w' ⟨rfl, rfl⟩)))
  rw [← cells_zero]
  obtain ⟨W, hW⟩ : ∃ W, W = (((((w.alloc (.cells (cells a) 45)).alloc (.cells (cells b) 45)).alloc (.cells (cells 0) 45)).alloc (.cells (cells 0) 45))) := ⟨_, rfl⟩
  have hA : W.heap[w.heap.size]? = some (.cells (cells a) 45 (0, 0)) := by rw [hW]; exact heap_alloc4_0 _ _ _ _ _
  have hB : W.heap[w.heap.size + 1]? = some (.cells (cells b) 45 (0, 0)) := by rw [hW]; exact heap_alloc4_1 _ _ _ _ _
  have hR : W.heap[w.heap.size + 2]? = some (.cells (cells 0) 45 (0, 0)) := by rw [hW]; exact heap_alloc4_2 _ _ _ _ _
  have hO : W.heap[w.heap.size + 3]? = some (.cells (cells 0) 45 (0, 0)) := by rw [hW]; exact heap_alloc4_3 _ _ _ _ _
  have hZ : Below w.heap.size w W := by rw [hW]; exact below_alloc4 _ _ _ _ _
  rw [← hW]
  clear hW
  go_loopw [22] (fun j wr => ∃ i : Nat, i ≤ 8 ∧ j = .int .i64 i ∧ St W (w.heap.size + 3) (buildOn 0 16 (mskN 16 k a b) i) wr) (fun j _ => 8 - (intOf j).toNat)
  case atStart => exact ⟨0, Nat.zero_le _, rfl, St.start hO⟩
  case round =>
    obtain ⟨i, hi, rfl, hs⟩ := hrel
    by_cases hlt : i < 8
    · rcases (show holdC k (sgn 16 (getN a 16 i)) (sgn 16 (getN b 16 i)) = true ∨ holdC k (sgn 16 (getN a 16 i)) (sgn 16 (getN b 16 i)) = false from by cases holdC k (sgn 16 (getN a 16 i)) (sgn 16 (getN b 16 i)) <;> simp) with hh | hh
      · have HH := Lib.hid (holds_t hh)
        have HM : buildOn 0 16 (mskN 16 k a b) (i + 1) = setN (buildOn 0 16 (mskN 16 k a b) i) 16 i 18446744073709551615 := by rw [buildOn, msk_yes 16 k a b i hh]
        have HM2 := Lib.hid HM
        clear hh HM
        go_wp2_with fail
        refine region_do (St W (w.heap.size + 3) (buildOn 0 16 (mskN 16 k a b) i)) 9 (by kernel_rfl) (by kernel_rfl) hs.drew ?_
        simp only [List.take_succ_cons, List.take_zero, List.drop_succ_cons, List.drop_zero]
        repeat (first | (refine do_load rfl _ rfl _ rfl _ (fun u hS => hS.kb.get hA (by omega)) ?_; simp only [Act.put, List.setIfInBounds_toArray, List.set_cons_zero, List.set_cons_succ]) | (refine wpD_pure (v := ?_) rfl (fun u => ?_) ?_; rotate_left; (focus (go_simp; (try with_reducible rfl); done)); simp only [Act.put, List.setIfInBounds_toArray, List.set_cons_zero, List.set_cons_succ]))
        (refine wpD_call (v := .int .i64 (sgn 16 (getN a 16 i))) rfl 53 ?_ (fun u => ?_) (fun u hS => ?_) ?_; rotate_left 1; (focus (go_simp; (try with_reducible rfl); done)); (focus (refine (signed16z a _ i _ rfl (by omega)).mono ?_; rintro e u2 ⟨rfl, hb⟩; exact ⟨rfl, hS.below hb⟩)); simp only [Act.put, List.setIfInBounds_toArray, List.set_cons_zero, List.set_cons_succ])
        repeat (first | (refine do_load rfl _ rfl _ rfl _ (fun u hS => hS.kb.get hB (by omega)) ?_; simp only [Act.put, List.setIfInBounds_toArray, List.set_cons_zero, List.set_cons_succ]) | (refine wpD_pure (v := ?_) rfl (fun u => ?_) ?_; rotate_left; (focus (go_simp; (try with_reducible rfl); done)); simp only [Act.put, List.setIfInBounds_toArray, List.set_cons_zero, List.set_cons_succ]))
        (refine wpD_call (v := .int .i64 (sgn 16 (getN b 16 i))) rfl 53 ?_ (fun u => ?_) (fun u hS => ?_) ?_; rotate_left 1; (focus (go_simp; (try with_reducible rfl); done)); (focus (refine (signed16z b _ i _ rfl (by omega)).mono ?_; rintro e u2 ⟨rfl, hb⟩; exact ⟨rfl, hS.below hb⟩)); simp only [Act.put, List.setIfInBounds_toArray, List.set_cons_zero, List.set_cons_succ])
        repeat (refine wpD_pure (v := ?_) rfl (fun u => ?_) ?_; rotate_left; (focus (go_simp; (try with_reducible rfl); done)); simp only [Act.put, List.setIfInBounds_toArray, List.set_cons_zero, List.set_cons_succ])
        refine wpD_nil (fun wq hq => ?_)
        go_wp2_with (first | (go_at_call 60; refine (HH.out _).mono ?_; rintro e w' ⟨rfl, rfl⟩) | (with_reducible refine load_vec rfl _ rfl _ rfl _ hq.this ?_) | (go_at_call 54; (with_reducible refine (set16z _ _ _ i 18446744073709551615 _ rfl lit_ones (by omega)).mono ?_); rintro e u2 ⟨rfl, hb⟩; have hr := hq.below hb) | (with_reducible refine store_vec rfl _ _ rfl (w.heap.size + 3) _ rfl rfl _ hr.this ?_; intro wy hy))
        go_roundw
        case rel => exact ⟨i + 1, by omega, by go_num, HM2.out ▸ hr.sets hy⟩
        case measure => (simp [intOf] <;> omega)
      · have HH := Lib.hid (holds_f hh)
        have HM2 := Lib.hid (msk_no 16 k a b i (by omega) hh)
        clear hh
        go_wp2_with fail
        refine region_do (St W (w.heap.size + 3) (buildOn 0 16 (mskN 16 k a b) i)) 9 (by kernel_rfl) (by kernel_rfl) hs.drew ?_
        simp only [List.take_succ_cons, List.take_zero, List.drop_succ_cons, List.drop_zero]
        repeat (first | (refine do_load rfl _ rfl _ rfl _ (fun u hS => hS.kb.get hA (by omega)) ?_; simp only [Act.put, List.setIfInBounds_toArray, List.set_cons_zero, List.set_cons_succ]) | (refine wpD_pure (v := ?_) rfl (fun u => ?_) ?_; rotate_left; (focus (go_simp; (try with_reducible rfl); done)); simp only [Act.put, List.setIfInBounds_toArray, List.set_cons_zero, List.set_cons_succ]))
        (refine wpD_call (v := .int .i64 (sgn 16 (getN a 16 i))) rfl 53 ?_ (fun u => ?_) (fun u hS => ?_) ?_; rotate_left 1; (focus (go_simp; (try with_reducible rfl); done)); (focus (refine (signed16z a _ i _ rfl (by omega)).mono ?_; rintro e u2 ⟨rfl, hb⟩; exact ⟨rfl, hS.below hb⟩)); simp only [Act.put, List.setIfInBounds_toArray, List.set_cons_zero, List.set_cons_succ])
        repeat (first | (refine do_load rfl _ rfl _ rfl _ (fun u hS => hS.kb.get hB (by omega)) ?_; simp only [Act.put, List.setIfInBounds_toArray, List.set_cons_zero, List.set_cons_succ]) | (refine wpD_pure (v := ?_) rfl (fun u => ?_) ?_; rotate_left; (focus (go_simp; (try with_reducible rfl); done)); simp only [Act.put, List.setIfInBounds_toArray, List.set_cons_zero, List.set_cons_succ]))
        (refine wpD_call (v := .int .i64 (sgn 16 (getN b 16 i))) rfl 53 ?_ (fun u => ?_) (fun u hS => ?_) ?_; rotate_left 1; (focus (go_simp; (try with_reducible rfl); done)); (focus (refine (signed16z b _ i _ rfl (by omega)).mono ?_; rintro e u2 ⟨rfl, hb⟩; exact ⟨rfl, hS.below hb⟩)); simp only [Act.put, List.setIfInBounds_toArray, List.set_cons_zero, List.set_cons_succ])
        repeat (refine wpD_pure (v := ?_) rfl (fun u => ?_) ?_; rotate_left; (focus (go_simp; (try with_reducible rfl); done)); simp only [Act.put, List.setIfInBounds_toArray, List.set_cons_zero, List.set_cons_succ])
        refine wpD_nil (fun wq hq => ?_)
        go_wp2_with (go_at_call 60; refine (HH.out _).mono ?_; rintro e w' ⟨rfl, rfl⟩)
        go_roundw
        case rel => exact ⟨i + 1, by omega, by go_num, HM2.out ▸ hq⟩
        case measure => (simp [intOf] <;> omega)
    · obtain rfl : i = 8 := by omega
      have hR' := hs.kb.get hR (by omega)
      go_wp2_with (first | (with_reducible refine load_vec rfl _ rfl _ rfl _ hs.this ?_) | (with_reducible refine store_vec rfl _ _ rfl (w.heap.size + 2) _ rfl rfl _ hR' ?_; intro wq hq))
      exact bodyPost_ret (results_vec_tmp rfl _ _ (w.heap.size + 2) _ _ rfl rfl hq.this) rfl ⟨rfl, (hs.kb.to_below hZ (by omega)).trans (hq.below.mono (by omega))⟩


set_option maxRecDepth 100000 in
set_option maxHeartbeats 2000000 in
theorem cmp_w32 (op k : Int) (a b : Vec) (w : World) (hk : 0 ≤ k ∧ k ≤ 9) (ho : ∀ w, Calls Try.prog 59 #[.int .i64 op] w fun e w' => e = .returned (.tuple #[.int .i64 32, .int .i64 k]) ∧ w' = w) :
    Calls Try.prog 23 #[.int .i64 op, .agg (cells a), .agg (cells b)] w fun e w' => e = .returned (.tuple #[.agg (cells (buildOn 0 32 (mskN 32 k a b) 4)), .int .i64 0]) ∧ Below w.heap.size w w' := by
  obtain ⟨hk0, hk9⟩ := hk
  have HO := Lib.hid ho
  clear ho
  go_enter Try.func23, Try.ntmps23
  go_wp2_with (first | (go_at_call 59; refine (HO.out _).mono ?_; rintro e w' ⟨rfl, rfl⟩) | (go_at_call 50; ((with_reducible refine (lanes32 _).mono ?_); rintro e w' ⟨rfl, rfl⟩)))
  rw [← cells_zero]
  obtain ⟨W, hW⟩ : ∃ W, W = (((((w.alloc (.cells (cells a) 45)).alloc (.cells (cells b) 45)).alloc (.cells (cells 0) 45)).alloc (.cells (cells 0) 45))) := ⟨_, rfl⟩
  have hA : W.heap[w.heap.size]? = some (.cells (cells a) 45 (0, 0)) := by rw [hW]; exact heap_alloc4_0 _ _ _ _ _
  have hB : W.heap[w.heap.size + 1]? = some (.cells (cells b) 45 (0, 0)) := by rw [hW]; exact heap_alloc4_1 _ _ _ _ _
  have hR : W.heap[w.heap.size + 2]? = some (.cells (cells 0) 45 (0, 0)) := by rw [hW]; exact heap_alloc4_2 _ _ _ _ _
  have hO : W.heap[w.heap.size + 3]? = some (.cells (cells 0) 45 (0, 0)) := by rw [hW]; exact heap_alloc4_3 _ _ _ _ _
  have hZ : Below w.heap.size w W := by rw [hW]; exact below_alloc4 _ _ _ _ _
  rw [← hW]
  clear hW
  go_loopw [22] (fun j wr => ∃ i : Nat, i ≤ 4 ∧ j = .int .i64 i ∧ St W (w.heap.size + 3) (buildOn 0 32 (mskN 32 k a b) i) wr) (fun j _ => 4 - (intOf j).toNat)
  case atStart => exact ⟨0, Nat.zero_le _, rfl, St.start hO⟩
  case round =>
    obtain ⟨i, hi, rfl, hs⟩ := hrel
    by_cases hlt : i < 4
    · rcases (show holdC k (sgn 32 (getN a 32 i)) (sgn 32 (getN b 32 i)) = true ∨ holdC k (sgn 32 (getN a 32 i)) (sgn 32 (getN b 32 i)) = false from by cases holdC k (sgn 32 (getN a 32 i)) (sgn 32 (getN b 32 i)) <;> simp) with hh | hh
      · have HH := Lib.hid (holds_t hh)
        have HM : buildOn 0 32 (mskN 32 k a b) (i + 1) = setN (buildOn 0 32 (mskN 32 k a b) i) 32 i 18446744073709551615 := by rw [buildOn, msk_yes 32 k a b i hh]
        have HM2 := Lib.hid HM
        clear hh HM
        go_wp2_with fail
        refine region_do (St W (w.heap.size + 3) (buildOn 0 32 (mskN 32 k a b) i)) 9 (by kernel_rfl) (by kernel_rfl) hs.drew ?_
        simp only [List.take_succ_cons, List.take_zero, List.drop_succ_cons, List.drop_zero]
        repeat (first | (refine do_load rfl _ rfl _ rfl _ (fun u hS => hS.kb.get hA (by omega)) ?_; simp only [Act.put, List.setIfInBounds_toArray, List.set_cons_zero, List.set_cons_succ]) | (refine wpD_pure (v := ?_) rfl (fun u => ?_) ?_; rotate_left; (focus (go_simp; (try with_reducible rfl); done)); simp only [Act.put, List.setIfInBounds_toArray, List.set_cons_zero, List.set_cons_succ]))
        (refine wpD_call (v := .int .i64 (sgn 32 (getN a 32 i))) rfl 53 ?_ (fun u => ?_) (fun u hS => ?_) ?_; rotate_left 1; (focus (go_simp; (try with_reducible rfl); done)); (focus (refine (signed32z a _ i _ rfl (by omega)).mono ?_; rintro e u2 ⟨rfl, hb⟩; exact ⟨rfl, hS.below hb⟩)); simp only [Act.put, List.setIfInBounds_toArray, List.set_cons_zero, List.set_cons_succ])
        repeat (first | (refine do_load rfl _ rfl _ rfl _ (fun u hS => hS.kb.get hB (by omega)) ?_; simp only [Act.put, List.setIfInBounds_toArray, List.set_cons_zero, List.set_cons_succ]) | (refine wpD_pure (v := ?_) rfl (fun u => ?_) ?_; rotate_left; (focus (go_simp; (try with_reducible rfl); done)); simp only [Act.put, List.setIfInBounds_toArray, List.set_cons_zero, List.set_cons_succ]))
        (refine wpD_call (v := .int .i64 (sgn 32 (getN b 32 i))) rfl 53 ?_ (fun u => ?_) (fun u hS => ?_) ?_; rotate_left 1; (focus (go_simp; (try with_reducible rfl); done)); (focus (refine (signed32z b _ i _ rfl (by omega)).mono ?_; rintro e u2 ⟨rfl, hb⟩; exact ⟨rfl, hS.below hb⟩)); simp only [Act.put, List.setIfInBounds_toArray, List.set_cons_zero, List.set_cons_succ])
        repeat (refine wpD_pure (v := ?_) rfl (fun u => ?_) ?_; rotate_left; (focus (go_simp; (try with_reducible rfl); done)); simp only [Act.put, List.setIfInBounds_toArray, List.set_cons_zero, List.set_cons_succ])
        refine wpD_nil (fun wq hq => ?_)
        go_wp2_with (first | (go_at_call 60; refine (HH.out _).mono ?_; rintro e w' ⟨rfl, rfl⟩) | (with_reducible refine load_vec rfl _ rfl _ rfl _ hq.this ?_) | (go_at_call 54; (with_reducible refine (set32z _ _ _ i 18446744073709551615 _ rfl lit_ones (by omega)).mono ?_); rintro e u2 ⟨rfl, hb⟩; have hr := hq.below hb) | (with_reducible refine store_vec rfl _ _ rfl (w.heap.size + 3) _ rfl rfl _ hr.this ?_; intro wy hy))
        go_roundw
        case rel => exact ⟨i + 1, by omega, by go_num, HM2.out ▸ hr.sets hy⟩
        case measure => (simp [intOf] <;> omega)
      · have HH := Lib.hid (holds_f hh)
        have HM2 := Lib.hid (msk_no 32 k a b i (by omega) hh)
        clear hh
        go_wp2_with fail
        refine region_do (St W (w.heap.size + 3) (buildOn 0 32 (mskN 32 k a b) i)) 9 (by kernel_rfl) (by kernel_rfl) hs.drew ?_
        simp only [List.take_succ_cons, List.take_zero, List.drop_succ_cons, List.drop_zero]
        repeat (first | (refine do_load rfl _ rfl _ rfl _ (fun u hS => hS.kb.get hA (by omega)) ?_; simp only [Act.put, List.setIfInBounds_toArray, List.set_cons_zero, List.set_cons_succ]) | (refine wpD_pure (v := ?_) rfl (fun u => ?_) ?_; rotate_left; (focus (go_simp; (try with_reducible rfl); done)); simp only [Act.put, List.setIfInBounds_toArray, List.set_cons_zero, List.set_cons_succ]))
        (refine wpD_call (v := .int .i64 (sgn 32 (getN a 32 i))) rfl 53 ?_ (fun u => ?_) (fun u hS => ?_) ?_; rotate_left 1; (focus (go_simp; (try with_reducible rfl); done)); (focus (refine (signed32z a _ i _ rfl (by omega)).mono ?_; rintro e u2 ⟨rfl, hb⟩; exact ⟨rfl, hS.below hb⟩)); simp only [Act.put, List.setIfInBounds_toArray, List.set_cons_zero, List.set_cons_succ])
        repeat (first | (refine do_load rfl _ rfl _ rfl _ (fun u hS => hS.kb.get hB (by omega)) ?_; simp only [Act.put, List.setIfInBounds_toArray, List.set_cons_zero, List.set_cons_succ]) | (refine wpD_pure (v := ?_) rfl (fun u => ?_) ?_; rotate_left; (focus (go_simp; (try with_reducible rfl); done)); simp only [Act.put, List.setIfInBounds_toArray, List.set_cons_zero, List.set_cons_succ]))
        (refine wpD_call (v := .int .i64 (sgn 32 (getN b 32 i))) rfl 53 ?_ (fun u => ?_) (fun u hS => ?_) ?_; rotate_left 1; (focus (go_simp; (try with_reducible rfl); done)); (focus (refine (signed32z b _ i _ rfl (by omega)).mono ?_; rintro e u2 ⟨rfl, hb⟩; exact ⟨rfl, hS.below hb⟩)); simp only [Act.put, List.setIfInBounds_toArray, List.set_cons_zero, List.set_cons_succ])
        repeat (refine wpD_pure (v := ?_) rfl (fun u => ?_) ?_; rotate_left; (focus (go_simp; (try with_reducible rfl); done)); simp only [Act.put, List.setIfInBounds_toArray, List.set_cons_zero, List.set_cons_succ])
        refine wpD_nil (fun wq hq => ?_)
        go_wp2_with (go_at_call 60; refine (HH.out _).mono ?_; rintro e w' ⟨rfl, rfl⟩)
        go_roundw
        case rel => exact ⟨i + 1, by omega, by go_num, HM2.out ▸ hq⟩
        case measure => (simp [intOf] <;> omega)
    · obtain rfl : i = 4 := by omega
      have hR' := hs.kb.get hR (by omega)
      go_wp2_with (first | (with_reducible refine load_vec rfl _ rfl _ rfl _ hs.this ?_) | (with_reducible refine store_vec rfl _ _ rfl (w.heap.size + 2) _ rfl rfl _ hR' ?_; intro wq hq))
      exact bodyPost_ret (results_vec_tmp rfl _ _ (w.heap.size + 2) _ _ rfl rfl hq.this) rfl ⟨rfl, (hs.kb.to_below hZ (by omega)).trans (hq.below.mono (by omega))⟩


set_option maxRecDepth 100000 in
set_option maxHeartbeats 2000000 in
theorem cmp_w64 (op k : Int) (a b : Vec) (w : World) (hk : 0 ≤ k ∧ k ≤ 9) (ho : ∀ w, Calls Try.prog 59 #[.int .i64 op] w fun e w' => e = .returned (.tuple #[.int .i64 64, .int .i64 k]) ∧ w' = w.drew) :
    Calls Try.prog 23 #[.int .i64 op, .agg (cells a), .agg (cells b)] w fun e w' => e = .returned (.tuple #[.agg (cells (buildOn 0 64 (mskN 64 k a b) 2)), .int .i64 0]) ∧ Below w.heap.size w w' := by
  obtain ⟨hk0, hk9⟩ := hk
  have HO := Lib.hid ho
  clear ho
  go_enter Try.func23, Try.ntmps23
  go_wp2_with (first | (go_at_call 59; refine (HO.out _).mono ?_; rintro e w' ⟨rfl, rfl⟩) | (go_at_call 50; ((with_reducible refine (lanes64 _).mono ?_); rintro e w' ⟨rfl, rfl⟩)))
  rw [← cells_zero]
  obtain ⟨W, hW⟩ : ∃ W, W = (((((w.alloc (.cells (cells a) 45)).alloc (.cells (cells b) 45)).alloc (.cells (cells 0) 45)).alloc (.cells (cells 0) 45)).drew) := ⟨_, rfl⟩
  have hA : W.heap[w.heap.size]? = some (.cells (cells a) 45 (0, 0)) := by rw [hW]; exact heap_alloc4_0 _ _ _ _ _
  have hB : W.heap[w.heap.size + 1]? = some (.cells (cells b) 45 (0, 0)) := by rw [hW]; exact heap_alloc4_1 _ _ _ _ _
  have hR : W.heap[w.heap.size + 2]? = some (.cells (cells 0) 45 (0, 0)) := by rw [hW]; exact heap_alloc4_2 _ _ _ _ _
  have hO : W.heap[w.heap.size + 3]? = some (.cells (cells 0) 45 (0, 0)) := by rw [hW]; exact heap_alloc4_3 _ _ _ _ _
  have hZ : Below w.heap.size w W := by rw [hW]; exact Below.drew (below_alloc4 _ _ _ _ _)
  rw [← hW]
  clear hW
  go_loopw [22] (fun j wr => ∃ i : Nat, i ≤ 2 ∧ j = .int .i64 i ∧ St W (w.heap.size + 3) (buildOn 0 64 (mskN 64 k a b) i) wr) (fun j _ => 2 - (intOf j).toNat)
  case atStart => exact ⟨0, Nat.zero_le _, rfl, St.start hO⟩
  case round =>
    obtain ⟨i, hi, rfl, hs⟩ := hrel
    by_cases hlt : i < 2
    · rcases (show holdC k (sgn 64 (getN a 64 i)) (sgn 64 (getN b 64 i)) = true ∨ holdC k (sgn 64 (getN a 64 i)) (sgn 64 (getN b 64 i)) = false from by cases holdC k (sgn 64 (getN a 64 i)) (sgn 64 (getN b 64 i)) <;> simp) with hh | hh
      · have HH := Lib.hid (holds_t hh)
        have HM : buildOn 0 64 (mskN 64 k a b) (i + 1) = setN (buildOn 0 64 (mskN 64 k a b) i) 64 i 18446744073709551615 := by rw [buildOn, msk_yes 64 k a b i hh]
        have HM2 := Lib.hid HM
        clear hh HM
        go_wp2_with fail
        refine region_do (St W (w.heap.size + 3) (buildOn 0 64 (mskN 64 k a b) i)) 9 (by kernel_rfl) (by kernel_rfl) hs.drew ?_
        simp only [List.take_succ_cons, List.take_zero, List.drop_succ_cons, List.drop_zero]
        repeat (first | (refine do_load rfl _ rfl _ rfl _ (fun u hS => hS.kb.get hA (by omega)) ?_; simp only [Act.put, List.setIfInBounds_toArray, List.set_cons_zero, List.set_cons_succ]) | (refine wpD_pure (v := ?_) rfl (fun u => ?_) ?_; rotate_left; (focus (go_simp; (try with_reducible rfl); done)); simp only [Act.put, List.setIfInBounds_toArray, List.set_cons_zero, List.set_cons_succ]))
        (refine wpD_call (v := .int .i64 (sgn 64 (getN a 64 i))) rfl 53 ?_ (fun u => ?_) (fun u hS => ?_) ?_; rotate_left 1; (focus (go_simp; (try with_reducible rfl); done)); (focus (refine (signed64z a _ i _ rfl (by omega)).mono ?_; rintro e u2 ⟨rfl, hb⟩; exact ⟨rfl, hS.below hb⟩)); simp only [Act.put, List.setIfInBounds_toArray, List.set_cons_zero, List.set_cons_succ])
        repeat (first | (refine do_load rfl _ rfl _ rfl _ (fun u hS => hS.kb.get hB (by omega)) ?_; simp only [Act.put, List.setIfInBounds_toArray, List.set_cons_zero, List.set_cons_succ]) | (refine wpD_pure (v := ?_) rfl (fun u => ?_) ?_; rotate_left; (focus (go_simp; (try with_reducible rfl); done)); simp only [Act.put, List.setIfInBounds_toArray, List.set_cons_zero, List.set_cons_succ]))
        (refine wpD_call (v := .int .i64 (sgn 64 (getN b 64 i))) rfl 53 ?_ (fun u => ?_) (fun u hS => ?_) ?_; rotate_left 1; (focus (go_simp; (try with_reducible rfl); done)); (focus (refine (signed64z b _ i _ rfl (by omega)).mono ?_; rintro e u2 ⟨rfl, hb⟩; exact ⟨rfl, hS.below hb⟩)); simp only [Act.put, List.setIfInBounds_toArray, List.set_cons_zero, List.set_cons_succ])
        repeat (refine wpD_pure (v := ?_) rfl (fun u => ?_) ?_; rotate_left; (focus (go_simp; (try with_reducible rfl); done)); simp only [Act.put, List.setIfInBounds_toArray, List.set_cons_zero, List.set_cons_succ])
        refine wpD_nil (fun wq hq => ?_)
        go_wp2_with (first | (go_at_call 60; refine (HH.out _).mono ?_; rintro e w' ⟨rfl, rfl⟩) | (with_reducible refine load_vec rfl _ rfl _ rfl _ hq.this ?_) | (go_at_call 54; (with_reducible refine (set64z _ _ _ i 18446744073709551615 _ rfl lit_ones (by omega)).mono ?_); rintro e u2 ⟨rfl, hb⟩; have hr := hq.below hb) | (with_reducible refine store_vec rfl _ _ rfl (w.heap.size + 3) _ rfl rfl _ hr.this ?_; intro wy hy))
        go_roundw
        case rel => exact ⟨i + 1, by omega, by go_num, HM2.out ▸ hr.sets hy⟩
        case measure => (simp [intOf] <;> omega)
      · have HH := Lib.hid (holds_f hh)
        have HM2 := Lib.hid (msk_no 64 k a b i (by omega) hh)
        clear hh
        go_wp2_with fail
        refine region_do (St W (w.heap.size + 3) (buildOn 0 64 (mskN 64 k a b) i)) 9 (by kernel_rfl) (by kernel_rfl) hs.drew ?_
        simp only [List.take_succ_cons, List.take_zero, List.drop_succ_cons, List.drop_zero]
        repeat (first | (refine do_load rfl _ rfl _ rfl _ (fun u hS => hS.kb.get hA (by omega)) ?_; simp only [Act.put, List.setIfInBounds_toArray, List.set_cons_zero, List.set_cons_succ]) | (refine wpD_pure (v := ?_) rfl (fun u => ?_) ?_; rotate_left; (focus (go_simp; (try with_reducible rfl); done)); simp only [Act.put, List.setIfInBounds_toArray, List.set_cons_zero, List.set_cons_succ]))
        (refine wpD_call (v := .int .i64 (sgn 64 (getN a 64 i))) rfl 53 ?_ (fun u => ?_) (fun u hS => ?_) ?_; rotate_left 1; (focus (go_simp; (try with_reducible rfl); done)); (focus (refine (signed64z a _ i _ rfl (by omega)).mono ?_; rintro e u2 ⟨rfl, hb⟩; exact ⟨rfl, hS.below hb⟩)); simp only [Act.put, List.setIfInBounds_toArray, List.set_cons_zero, List.set_cons_succ])
        repeat (first | (refine do_load rfl _ rfl _ rfl _ (fun u hS => hS.kb.get hB (by omega)) ?_; simp only [Act.put, List.setIfInBounds_toArray, List.set_cons_zero, List.set_cons_succ]) | (refine wpD_pure (v := ?_) rfl (fun u => ?_) ?_; rotate_left; (focus (go_simp; (try with_reducible rfl); done)); simp only [Act.put, List.setIfInBounds_toArray, List.set_cons_zero, List.set_cons_succ]))
        (refine wpD_call (v := .int .i64 (sgn 64 (getN b 64 i))) rfl 53 ?_ (fun u => ?_) (fun u hS => ?_) ?_; rotate_left 1; (focus (go_simp; (try with_reducible rfl); done)); (focus (refine (signed64z b _ i _ rfl (by omega)).mono ?_; rintro e u2 ⟨rfl, hb⟩; exact ⟨rfl, hS.below hb⟩)); simp only [Act.put, List.setIfInBounds_toArray, List.set_cons_zero, List.set_cons_succ])
        repeat (refine wpD_pure (v := ?_) rfl (fun u => ?_) ?_; rotate_left; (focus (go_simp; (try with_reducible rfl); done)); simp only [Act.put, List.setIfInBounds_toArray, List.set_cons_zero, List.set_cons_succ])
        refine wpD_nil (fun wq hq => ?_)
        go_wp2_with (go_at_call 60; refine (HH.out _).mono ?_; rintro e w' ⟨rfl, rfl⟩)
        go_roundw
        case rel => exact ⟨i + 1, by omega, by go_num, HM2.out ▸ hq⟩
        case measure => (simp [intOf] <;> omega)
    · obtain rfl : i = 2 := by omega
      have hR' := hs.kb.get hR (by omega)
      go_wp2_with (first | (with_reducible refine load_vec rfl _ rfl _ rfl _ hs.this ?_) | (with_reducible refine store_vec rfl _ _ rfl (w.heap.size + 2) _ rfl rfl _ hR' ?_; intro wq hq))
      exact bodyPost_ret (results_vec_tmp rfl _ _ (w.heap.size + 2) _ _ rfl rfl hq.this) rfl ⟨rfl, (hs.kb.to_below hZ (by omega)).trans (hq.below.mono (by omega))⟩


theorem heap_z3 (w : World) (A B : Obj) (t : TypeId) : (((w.alloc A).alloc B).alloc (.cells #[.int .u8 0, .int .u8 0, .int .u8 0, .int .u8 0, .int .u8 0, .int .u8 0, .int .u8 0, .int .u8 0, .int .u8 0, .int .u8 0, .int .u8 0, .int .u8 0, .int .u8 0, .int .u8 0, .int .u8 0, .int .u8 0] t)).heap[w.heap.size + 2]? = some (.cells (cells 0) t (0, 0)) := by
  rw [cells_zero]; exact heap_alloc3_2 _ _ _ _
theorem cmp_none (op κ : Int) (a b : Vec) (w : World) (hκ : wrap64 (op - 64768) = κ) (h : κ < 35 ∨ 65 ≤ κ ∧ κ < 214 ∨ 220 ≤ κ) :
    Calls Try.prog 23 #[.int .i64 op, .agg (cells a), .agg (cells b)] w fun e w' => e = .returned (.tuple #[.agg (cells 0), .int .i64 1]) ∧ Below w.heap.size w w' := by
  have H := Lib.hid (fun w => order_none op κ w hκ h)
  clear hκ h
  go_enter Try.func23, Try.ntmps23
  go_wp2_with (first | (go_at_call 59; refine (H.out _).mono ?_; rintro e w' ⟨rfl, rfl⟩))
  exact bodyPost_ret (results_vec_tmp rfl _ _ (w.heap.size + 2) _ _ rfl rfl (heap_z3 w _ _ _)) rfl ⟨rfl, below_alloc3 _ _ _ _⟩
end Go.Proofs.Ytcpfabkokgiepaa
namespace Pl
/-- Comparisons: the result and the error's number. -/
def cmpV (op : Int) (a b : Vec) : Vec × Int :=
  if 64803 ≤ op ∧ op < 64813 then (buildOn 0 8 (mskN 8 (op - 64803) a b) 16, 0)
  else if 64813 ≤ op ∧ op < 64823 then (buildOn 0 16 (mskN 16 (op - 64813) a b) 8, 0)
  else if 64823 ≤ op ∧ op < 64833 then (buildOn 0 32 (mskN 32 (op - 64823) a b) 4, 0)
  else if op = 64982 then (buildOn 0 64 (mskN 64 0 a b) 2, 0)
  else if op = 64983 then (buildOn 0 64 (mskN 64 1 a b) 2, 0)
  else if op = 64984 then (buildOn 0 64 (mskN 64 2 a b) 2, 0)
  else if op = 64985 then (buildOn 0 64 (mskN 64 4 a b) 2, 0)
  else if op = 64986 then (buildOn 0 64 (mskN 64 6 a b) 2, 0)
  else if op = 64987 then (buildOn 0 64 (mskN 64 8 a b) 2, 0)
  else (0, 1)
end Pl
namespace Go.Proofs.Ytcpfabkokgiepaa
open Go.RowKit Pl
theorem cmp_any (op : Int) (a b : Vec) (w : World) (ho : -9223372036854775808 ≤ op ∧ op ≤ 9223372036854775807) :
    Calls Try.prog 23 #[.int .i64 op, .agg (cells a), .agg (cells b)] w fun e w' => e = .returned (.tuple #[.agg (cells (cmpV op a b).1), .int .i64 (cmpV op a b).2]) ∧ Below w.heap.size w w' := by
  unfold cmpV
  split
  · rename_i h
    obtain ⟨c, hc, rfl⟩ : ∃ c : Nat, c < 10 ∧ op = 64803 + (c : Int) := ⟨(op - 64803).toNat, by omega, by omega⟩
    rw [show (64803 : Int) + (c : Int) - 64803 = c by omega]
    exact cmp_w8 _ c a b w (by omega) fun w => order_row0 c w hc
  split
  · rename_i h
    obtain ⟨c, hc, rfl⟩ : ∃ c : Nat, c < 10 ∧ op = 64813 + (c : Int) := ⟨(op - 64813).toNat, by omega, by omega⟩
    rw [show (64813 : Int) + (c : Int) - 64813 = c by omega]
    exact cmp_w16 _ c a b w (by omega) fun w => order_row1 c w hc
  split
  · rename_i h
    obtain ⟨c, hc, rfl⟩ : ∃ c : Nat, c < 10 ∧ op = 64823 + (c : Int) := ⟨(op - 64823).toNat, by omega, by omega⟩
    rw [show (64823 : Int) + (c : Int) - 64823 = c by omega]
    exact cmp_w32 _ c a b w (by omega) fun w => order_row2 c w hc
  split
  · rename_i h; subst h; exact cmp_w64 _ 0 a b w (by omega) order_64_0
  split
  · rename_i h; subst h; exact cmp_w64 _ 1 a b w (by omega) order_64_1
  split
  · rename_i h; subst h; exact cmp_w64 _ 2 a b w (by omega) order_64_2
  split
  · rename_i h; subst h; exact cmp_w64 _ 4 a b w (by omega) order_64_3
  split
  · rename_i h; subst h; exact cmp_w64 _ 6 a b w (by omega) order_64_4
  split
  · rename_i h; subst h; exact cmp_w64 _ 8 a b w (by omega) order_64_5
  · exact cmp_none op _ a b w rfl (by unfold wrap64; omega)

end Go.Proofs.Ytcpfabkokgiepaa
