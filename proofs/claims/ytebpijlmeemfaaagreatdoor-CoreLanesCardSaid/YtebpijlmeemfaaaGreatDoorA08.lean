/- A part of the proof that plaittop.CoreLanes returns true. -/
import Derived.ChangeKeysEq
import Derived.Test.YtebpijlmeemfaaaGreatDoorA01
import Derived.Test.YtebpijlmeemfaaaGreatDoorA02
import Derived.Test.YtebpijlmeemfaaaGreatDoorA07
set_option linter.all false
set_option linter.unusedSectionVars false
set_option linter.unusedSimpArgs false
set_option linter.unusedVariables false
section
namespace Pl
def mskN (w : Nat) (k : Int) (a b : Vec) (i : Nat) : Nat := if holdC k (sgn w (getN a w i)) (sgn w (getN b w i)) = true then 18446744073709551615 else 0
theorem lit_ones : (18446744073709551615 : Int) = ((18446744073709551615 : Nat) : Int) := rfl
theorem msk_yes (w : Nat) (k : Int) (a b : Vec) (i : Nat) (h : holdC k (sgn w (getN a w i)) (sgn w (getN b w i)) = true) : mskN w k a b i = 18446744073709551615 := if_pos h
theorem setN_same (v : Vec) (w i : Nat) (h : i < 128 / w) : setN v w i (getN v w i) = v := by
 apply vec_ext
 intro j _
 unfold setN getN
 rw [testBit_putAt _ _ _ _ _ (lane_in h), testBit_bitsAt]
 split
 ·rename_i h2
  rw [decide_eq_true (by omega), show w * i + (j - w * i) = j by omega]; rfl
 ·rfl
theorem msk_no (w : Nat) (k : Int) (a b : Vec) (i : Nat) (hi : i < 128 / w) (h : holdC k (sgn w (getN a w i)) (sgn w (getN b w i)) = false) : buildOn 0 w (mskN w k a b) (i + 1) = buildOn 0 w (mskN w k a b) i := by
 have hm : mskN w k a b i = 0 := by unfold mskN; rw [if_neg (by rw [h]; decide)]
 have hz : getN (buildOn 0 w (mskN w k a b) i) w i = 0 := by
  rw [getN_buildOn _ _ _ _ _ (by omega), if_neg (by omega)]
  simp [getN, bitsAt]
 have hs := setN_same (buildOn 0 w (mskN w k a b) i) w i hi
 rw [buildOn, hm]
 rw [hz] at hs
 exact hs
end Pl
namespace Go.Proofs.YtebpijlmeemfaaaGreatDoor
open Go.RowKit Pl
theorem holds_t {k s t : Int} (h : holdC k s t = true) (w : World) : Calls Tryz.prog 157 #[.int .i64 k, .int .i64 s, .int .i64 t] w fun e w' => e = .returned (.bool true) ∧ w' = w := by
 have := holds_any k s t w; rw [h] at this; exact this
theorem holds_f {k s t : Int} (h : holdC k s t = false) (w : World) : Calls Tryz.prog 157 #[.int .i64 k, .int .i64 s, .int .i64 t] w fun e w' => e = .returned (.bool false) ∧ w' = w := by
 have := holds_any k s t w; rw [h] at this; exact this
set_option maxRecDepth 100000 in
set_option maxHeartbeats 2000000 in
theorem cmp_w8 (op k : Int) (a b : Vec) (w : World) (hk : 0 ≤ k ∧ k ≤ 9) (ho : ∀ w, Calls Tryz.prog 156 #[.int .i64 op] w fun e w' => e = .returned (.tuple #[.int .i64 8, .int .i64 k]) ∧ w' = w) :
  Calls Tryz.prog 90 #[.int .i64 op, .agg (cells a), .agg (cells b)] w fun e w' => e = .returned (.tuple #[.agg (cells (buildOn 0 8 (mskN 8 k a b) 16)), .int .i64 0]) ∧ Below w.heap.size w w' := by
 obtain ⟨hk0, hk9⟩ := hk
 have HO := Lib.hid ho
 clear ho
 go_enter Tryz.func90, Tryz.ntmps90
 go_wp2_with (first | (go_at_call 156; refine (HO.out _).mono ?_; rintro e w' ⟨rfl, rfl⟩) | (go_at_call 50; ((with_reducible refine (lanes8 _).mono ?_); rintro e w' ⟨rfl, rfl⟩)))
 rw [← cells_zero]
 obtain ⟨W, hW⟩ : ∃ W, W = (((((w.alloc (.cells (cells a) 23)).alloc (.cells (cells b) 23)).alloc (.cells (cells 0) 23)).alloc (.cells (cells 0) 23))) := ⟨_, rfl⟩
 have hA : W.heap[w.heap.size]? = some (.cells (cells a) 23 (0, 0)) := by rw [hW]; exact heap_alloc4_0 _ _ _ _ _
 have hB : W.heap[w.heap.size + 1]? = some (.cells (cells b) 23 (0, 0)) := by rw [hW]; exact heap_alloc4_1 _ _ _ _ _
 have hR : W.heap[w.heap.size + 2]? = some (.cells (cells 0) 23 (0, 0)) := by rw [hW]; exact heap_alloc4_2 _ _ _ _ _
 have hO : W.heap[w.heap.size + 3]? = some (.cells (cells 0) 23 (0, 0)) := by rw [hW]; exact heap_alloc4_3 _ _ _ _ _
 have hZ : Below w.heap.size w W := by rw [hW]; exact below_alloc4 _ _ _ _ _
 rw [← hW]
 clear hW
 go_loopw [22] (fun j wr => ∃ i : Nat, i ≤ 16 ∧ j = .int .i64 i ∧ St W (w.heap.size + 3) (buildOn 0 8 (mskN 8 k a b) i) wr) (fun j _ => 16 - (intOf j).toNat)
 case atStart => exact ⟨0, Nat.zero_le _, rfl, St.start hO⟩
 case round =>
  obtain ⟨i, hi, rfl, hs⟩ := hrel
  by_cases hlt : i < 16
  ·rcases (show holdC k (sgn 8 (getN a 8 i)) (sgn 8 (getN b 8 i)) = true ∨ holdC k (sgn 8 (getN a 8 i)) (sgn 8 (getN b 8 i)) = false from by cases holdC k (sgn 8 (getN a 8 i)) (sgn 8 (getN b 8 i)) <;> simp) with hh | hh
   ·have HH := Lib.hid (holds_t hh)
    have HM : buildOn 0 8 (mskN 8 k a b) (i + 1) = setN (buildOn 0 8 (mskN 8 k a b) i) 8 i 18446744073709551615 := by rw [buildOn, msk_yes 8 k a b i hh]
    have HM2 := Lib.hid HM
    clear hh HM
    go_wp2_with fail
    refine region_do (St W (w.heap.size + 3) (buildOn 0 8 (mskN 8 k a b) i)) 9 (by kernel_rfl) (by kernel_rfl) hs.drew ?_
    simp only [List.take_succ_cons, List.take_zero, List.drop_succ_cons, List.drop_zero]
    repeat (first | (refine do_load rfl _ rfl _ rfl _ (fun u hS => hS.kb.get hA (by omega)) ?_; simp only [Act.put, zqA, zqB, zqC]) | (refine wpD_pure (v := ?_) rfl (fun u => ?_) ?_; rotate_left; (focus (go_simp; (try with_reducible rfl); done)); simp only [Act.put, zqA, zqB, zqC]))
    (refine wpD_call (v := .int .i64 (sgn 8 (getN a 8 i))) rfl 122 ?_ (fun u => ?_) (fun u hS => ?_) ?_; rotate_left 1; (focus (go_simp; (try with_reducible rfl); done)); (focus (refine (signed8z a _ i _ rfl (by omega)).mono ?_; rintro e u2 ⟨rfl, hb⟩; exact ⟨rfl, hS.below hb⟩)); simp only [Act.put, zqA, zqB, zqC])
    repeat (first | (refine do_load rfl _ rfl _ rfl _ (fun u hS => hS.kb.get hB (by omega)) ?_; simp only [Act.put, zqA, zqB, zqC]) | (refine wpD_pure (v := ?_) rfl (fun u => ?_) ?_; rotate_left; (focus (go_simp; (try with_reducible rfl); done)); simp only [Act.put, zqA, zqB, zqC]))
    (refine wpD_call (v := .int .i64 (sgn 8 (getN b 8 i))) rfl 122 ?_ (fun u => ?_) (fun u hS => ?_) ?_; rotate_left 1; (focus (go_simp; (try with_reducible rfl); done)); (focus (refine (signed8z b _ i _ rfl (by omega)).mono ?_; rintro e u2 ⟨rfl, hb⟩; exact ⟨rfl, hS.below hb⟩)); simp only [Act.put, zqA, zqB, zqC])
    repeat (refine wpD_pure (v := ?_) rfl (fun u => ?_) ?_; rotate_left; (focus (go_simp; (try with_reducible rfl); done)); simp only [Act.put, zqA, zqB, zqC])
    refine wpD_nil (fun wq hq => ?_)
    go_wp2_with (first | (go_at_call 157; refine (HH.out _).mono ?_; rintro e w' ⟨rfl, rfl⟩) | (with_reducible refine load_vec rfl _ rfl _ rfl _ hq.this ?_) | (go_at_call 51; (with_reducible refine (set8z _ _ _ i 18446744073709551615 _ rfl lit_ones (by omega)).mono ?_); rintro e u2 ⟨rfl, hb⟩; have hr := hq.below hb) | (with_reducible refine store_vec rfl _ _ rfl (w.heap.size + 3) _ rfl rfl _ hr.this ?_; intro wy hy))
    go_roundw
    case rel => exact ⟨i + 1, by omega, by go_num, HM2.out ▸ hr.sets hy⟩
    case measure => (simp [intOf] <;> omega)
   ·have HH := Lib.hid (holds_f hh)
    have HM2 := Lib.hid (msk_no 8 k a b i (by omega) hh)
    clear hh
    go_wp2_with fail
    refine region_do (St W (w.heap.size + 3) (buildOn 0 8 (mskN 8 k a b) i)) 9 (by kernel_rfl) (by kernel_rfl) hs.drew ?_
    simp only [List.take_succ_cons, List.take_zero, List.drop_succ_cons, List.drop_zero]
    repeat (first | (refine do_load rfl _ rfl _ rfl _ (fun u hS => hS.kb.get hA (by omega)) ?_; simp only [Act.put, zqA, zqB, zqC]) | (refine wpD_pure (v := ?_) rfl (fun u => ?_) ?_; rotate_left; (focus (go_simp; (try with_reducible rfl); done)); simp only [Act.put, zqA, zqB, zqC]))
    (refine wpD_call (v := .int .i64 (sgn 8 (getN a 8 i))) rfl 122 ?_ (fun u => ?_) (fun u hS => ?_) ?_; rotate_left 1; (focus (go_simp; (try with_reducible rfl); done)); (focus (refine (signed8z a _ i _ rfl (by omega)).mono ?_; rintro e u2 ⟨rfl, hb⟩; exact ⟨rfl, hS.below hb⟩)); simp only [Act.put, zqA, zqB, zqC])
    repeat (first | (refine do_load rfl _ rfl _ rfl _ (fun u hS => hS.kb.get hB (by omega)) ?_; simp only [Act.put, zqA, zqB, zqC]) | (refine wpD_pure (v := ?_) rfl (fun u => ?_) ?_; rotate_left; (focus (go_simp; (try with_reducible rfl); done)); simp only [Act.put, zqA, zqB, zqC]))
    (refine wpD_call (v := .int .i64 (sgn 8 (getN b 8 i))) rfl 122 ?_ (fun u => ?_) (fun u hS => ?_) ?_; rotate_left 1; (focus (go_simp; (try with_reducible rfl); done)); (focus (refine (signed8z b _ i _ rfl (by omega)).mono ?_; rintro e u2 ⟨rfl, hb⟩; exact ⟨rfl, hS.below hb⟩)); simp only [Act.put, zqA, zqB, zqC])
    repeat (refine wpD_pure (v := ?_) rfl (fun u => ?_) ?_; rotate_left; (focus (go_simp; (try with_reducible rfl); done)); simp only [Act.put, zqA, zqB, zqC])
    refine wpD_nil (fun wq hq => ?_)
    go_wp2_with (go_at_call 157; refine (HH.out _).mono ?_; rintro e w' ⟨rfl, rfl⟩)
    go_roundw
    case rel => exact ⟨i + 1, by omega, by go_num, HM2.out ▸ hq⟩
    case measure => (simp [intOf] <;> omega)
  ·obtain rfl : i = 16 := by omega
   have hR' := hs.kb.get hR (by omega)
   go_wp2_with (first | (with_reducible refine load_vec rfl _ rfl _ rfl _ hs.this ?_) | (with_reducible refine store_vec rfl _ _ rfl (w.heap.size + 2) _ rfl rfl _ hR' ?_; intro wq hq))
   exact bodyPost_ret (results_vec_tmp rfl _ _ (w.heap.size + 2) _ _ rfl rfl hq.this) rfl ⟨rfl, (hs.kb.to_below hZ (by omega)).trans (hq.below.mono (by omega))⟩
set_option maxRecDepth 100000 in
set_option maxHeartbeats 2000000 in
theorem cmp_w16 (op k : Int) (a b : Vec) (w : World) (hk : 0 ≤ k ∧ k ≤ 9) (ho : ∀ w, Calls Tryz.prog 156 #[.int .i64 op] w fun e w' => e = .returned (.tuple #[.int .i64 16, .int .i64 k]) ∧ w' = w) :
  Calls Tryz.prog 90 #[.int .i64 op, .agg (cells a), .agg (cells b)] w fun e w' => e = .returned (.tuple #[.agg (cells (buildOn 0 16 (mskN 16 k a b) 8)), .int .i64 0]) ∧ Below w.heap.size w w' := by
 obtain ⟨hk0, hk9⟩ := hk
 have HO := Lib.hid ho
 clear ho
 go_enter Tryz.func90, Tryz.ntmps90
 go_wp2_with (first | (go_at_call 156; refine (HO.out _).mono ?_; rintro e w' ⟨rfl, rfl⟩) | (go_at_call 50; ((with_reducible refine (lanes16 _).mono ?_); rintro e w' ⟨rfl, rfl⟩)))
 rw [← cells_zero]
 obtain ⟨W, hW⟩ : ∃ W, W = (((((w.alloc (.cells (cells a) 23)).alloc (.cells (cells b) 23)).alloc (.cells (cells 0) 23)).alloc (.cells (cells 0) 23))) := ⟨_, rfl⟩
 have hA : W.heap[w.heap.size]? = some (.cells (cells a) 23 (0, 0)) := by rw [hW]; exact heap_alloc4_0 _ _ _ _ _
 have hB : W.heap[w.heap.size + 1]? = some (.cells (cells b) 23 (0, 0)) := by rw [hW]; exact heap_alloc4_1 _ _ _ _ _
 have hR : W.heap[w.heap.size + 2]? = some (.cells (cells 0) 23 (0, 0)) := by rw [hW]; exact heap_alloc4_2 _ _ _ _ _
 have hO : W.heap[w.heap.size + 3]? = some (.cells (cells 0) 23 (0, 0)) := by rw [hW]; exact heap_alloc4_3 _ _ _ _ _
 have hZ : Below w.heap.size w W := by rw [hW]; exact below_alloc4 _ _ _ _ _
 rw [← hW]
 clear hW
 go_loopw [22] (fun j wr => ∃ i : Nat, i ≤ 8 ∧ j = .int .i64 i ∧ St W (w.heap.size + 3) (buildOn 0 16 (mskN 16 k a b) i) wr) (fun j _ => 8 - (intOf j).toNat)
 case atStart => exact ⟨0, Nat.zero_le _, rfl, St.start hO⟩
 case round =>
  obtain ⟨i, hi, rfl, hs⟩ := hrel
  by_cases hlt : i < 8
  ·rcases (show holdC k (sgn 16 (getN a 16 i)) (sgn 16 (getN b 16 i)) = true ∨ holdC k (sgn 16 (getN a 16 i)) (sgn 16 (getN b 16 i)) = false from by cases holdC k (sgn 16 (getN a 16 i)) (sgn 16 (getN b 16 i)) <;> simp) with hh | hh
   ·have HH := Lib.hid (holds_t hh)
    have HM : buildOn 0 16 (mskN 16 k a b) (i + 1) = setN (buildOn 0 16 (mskN 16 k a b) i) 16 i 18446744073709551615 := by rw [buildOn, msk_yes 16 k a b i hh]
    have HM2 := Lib.hid HM
    clear hh HM
    go_wp2_with fail
    refine region_do (St W (w.heap.size + 3) (buildOn 0 16 (mskN 16 k a b) i)) 9 (by kernel_rfl) (by kernel_rfl) hs.drew ?_
    simp only [List.take_succ_cons, List.take_zero, List.drop_succ_cons, List.drop_zero]
    repeat (first | (refine do_load rfl _ rfl _ rfl _ (fun u hS => hS.kb.get hA (by omega)) ?_; simp only [Act.put, zqA, zqB, zqC]) | (refine wpD_pure (v := ?_) rfl (fun u => ?_) ?_; rotate_left; (focus (go_simp; (try with_reducible rfl); done)); simp only [Act.put, zqA, zqB, zqC]))
    (refine wpD_call (v := .int .i64 (sgn 16 (getN a 16 i))) rfl 122 ?_ (fun u => ?_) (fun u hS => ?_) ?_; rotate_left 1; (focus (go_simp; (try with_reducible rfl); done)); (focus (refine (signed16z a _ i _ rfl (by omega)).mono ?_; rintro e u2 ⟨rfl, hb⟩; exact ⟨rfl, hS.below hb⟩)); simp only [Act.put, zqA, zqB, zqC])
    repeat (first | (refine do_load rfl _ rfl _ rfl _ (fun u hS => hS.kb.get hB (by omega)) ?_; simp only [Act.put, zqA, zqB, zqC]) | (refine wpD_pure (v := ?_) rfl (fun u => ?_) ?_; rotate_left; (focus (go_simp; (try with_reducible rfl); done)); simp only [Act.put, zqA, zqB, zqC]))
    (refine wpD_call (v := .int .i64 (sgn 16 (getN b 16 i))) rfl 122 ?_ (fun u => ?_) (fun u hS => ?_) ?_; rotate_left 1; (focus (go_simp; (try with_reducible rfl); done)); (focus (refine (signed16z b _ i _ rfl (by omega)).mono ?_; rintro e u2 ⟨rfl, hb⟩; exact ⟨rfl, hS.below hb⟩)); simp only [Act.put, zqA, zqB, zqC])
    repeat (refine wpD_pure (v := ?_) rfl (fun u => ?_) ?_; rotate_left; (focus (go_simp; (try with_reducible rfl); done)); simp only [Act.put, zqA, zqB, zqC])
    refine wpD_nil (fun wq hq => ?_)
    go_wp2_with (first | (go_at_call 157; refine (HH.out _).mono ?_; rintro e w' ⟨rfl, rfl⟩) | (with_reducible refine load_vec rfl _ rfl _ rfl _ hq.this ?_) | (go_at_call 51; (with_reducible refine (set16z _ _ _ i 18446744073709551615 _ rfl lit_ones (by omega)).mono ?_); rintro e u2 ⟨rfl, hb⟩; have hr := hq.below hb) | (with_reducible refine store_vec rfl _ _ rfl (w.heap.size + 3) _ rfl rfl _ hr.this ?_; intro wy hy))
    go_roundw
    case rel => exact ⟨i + 1, by omega, by go_num, HM2.out ▸ hr.sets hy⟩
    case measure => (simp [intOf] <;> omega)
   ·have HH := Lib.hid (holds_f hh)
    have HM2 := Lib.hid (msk_no 16 k a b i (by omega) hh)
    clear hh
    go_wp2_with fail
    refine region_do (St W (w.heap.size + 3) (buildOn 0 16 (mskN 16 k a b) i)) 9 (by kernel_rfl) (by kernel_rfl) hs.drew ?_
    simp only [List.take_succ_cons, List.take_zero, List.drop_succ_cons, List.drop_zero]
    repeat (first | (refine do_load rfl _ rfl _ rfl _ (fun u hS => hS.kb.get hA (by omega)) ?_; simp only [Act.put, zqA, zqB, zqC]) | (refine wpD_pure (v := ?_) rfl (fun u => ?_) ?_; rotate_left; (focus (go_simp; (try with_reducible rfl); done)); simp only [Act.put, zqA, zqB, zqC]))
    (refine wpD_call (v := .int .i64 (sgn 16 (getN a 16 i))) rfl 122 ?_ (fun u => ?_) (fun u hS => ?_) ?_; rotate_left 1; (focus (go_simp; (try with_reducible rfl); done)); (focus (refine (signed16z a _ i _ rfl (by omega)).mono ?_; rintro e u2 ⟨rfl, hb⟩; exact ⟨rfl, hS.below hb⟩)); simp only [Act.put, zqA, zqB, zqC])
    repeat (first | (refine do_load rfl _ rfl _ rfl _ (fun u hS => hS.kb.get hB (by omega)) ?_; simp only [Act.put, zqA, zqB, zqC]) | (refine wpD_pure (v := ?_) rfl (fun u => ?_) ?_; rotate_left; (focus (go_simp; (try with_reducible rfl); done)); simp only [Act.put, zqA, zqB, zqC]))
    (refine wpD_call (v := .int .i64 (sgn 16 (getN b 16 i))) rfl 122 ?_ (fun u => ?_) (fun u hS => ?_) ?_; rotate_left 1; (focus (go_simp; (try with_reducible rfl); done)); (focus (refine (signed16z b _ i _ rfl (by omega)).mono ?_; rintro e u2 ⟨rfl, hb⟩; exact ⟨rfl, hS.below hb⟩)); simp only [Act.put, zqA, zqB, zqC])
    repeat (refine wpD_pure (v := ?_) rfl (fun u => ?_) ?_; rotate_left; (focus (go_simp; (try with_reducible rfl); done)); simp only [Act.put, zqA, zqB, zqC])
    refine wpD_nil (fun wq hq => ?_)
    go_wp2_with (go_at_call 157; refine (HH.out _).mono ?_; rintro e w' ⟨rfl, rfl⟩)
    go_roundw
    case rel => exact ⟨i + 1, by omega, by go_num, HM2.out ▸ hq⟩
    case measure => (simp [intOf] <;> omega)
  ·obtain rfl : i = 8 := by omega
   have hR' := hs.kb.get hR (by omega)
   go_wp2_with (first | (with_reducible refine load_vec rfl _ rfl _ rfl _ hs.this ?_) | (with_reducible refine store_vec rfl _ _ rfl (w.heap.size + 2) _ rfl rfl _ hR' ?_; intro wq hq))
   exact bodyPost_ret (results_vec_tmp rfl _ _ (w.heap.size + 2) _ _ rfl rfl hq.this) rfl ⟨rfl, (hs.kb.to_below hZ (by omega)).trans (hq.below.mono (by omega))⟩
set_option maxRecDepth 100000 in
set_option maxHeartbeats 2000000 in
theorem cmp_w32 (op k : Int) (a b : Vec) (w : World) (hk : 0 ≤ k ∧ k ≤ 9) (ho : ∀ w, Calls Tryz.prog 156 #[.int .i64 op] w fun e w' => e = .returned (.tuple #[.int .i64 32, .int .i64 k]) ∧ w' = w) :
  Calls Tryz.prog 90 #[.int .i64 op, .agg (cells a), .agg (cells b)] w fun e w' => e = .returned (.tuple #[.agg (cells (buildOn 0 32 (mskN 32 k a b) 4)), .int .i64 0]) ∧ Below w.heap.size w w' := by
 obtain ⟨hk0, hk9⟩ := hk
 have HO := Lib.hid ho
 clear ho
 go_enter Tryz.func90, Tryz.ntmps90
 go_wp2_with (first | (go_at_call 156; refine (HO.out _).mono ?_; rintro e w' ⟨rfl, rfl⟩) | (go_at_call 50; ((with_reducible refine (lanes32 _).mono ?_); rintro e w' ⟨rfl, rfl⟩)))
 rw [← cells_zero]
 obtain ⟨W, hW⟩ : ∃ W, W = (((((w.alloc (.cells (cells a) 23)).alloc (.cells (cells b) 23)).alloc (.cells (cells 0) 23)).alloc (.cells (cells 0) 23))) := ⟨_, rfl⟩
 have hA : W.heap[w.heap.size]? = some (.cells (cells a) 23 (0, 0)) := by rw [hW]; exact heap_alloc4_0 _ _ _ _ _
 have hB : W.heap[w.heap.size + 1]? = some (.cells (cells b) 23 (0, 0)) := by rw [hW]; exact heap_alloc4_1 _ _ _ _ _
 have hR : W.heap[w.heap.size + 2]? = some (.cells (cells 0) 23 (0, 0)) := by rw [hW]; exact heap_alloc4_2 _ _ _ _ _
 have hO : W.heap[w.heap.size + 3]? = some (.cells (cells 0) 23 (0, 0)) := by rw [hW]; exact heap_alloc4_3 _ _ _ _ _
 have hZ : Below w.heap.size w W := by rw [hW]; exact below_alloc4 _ _ _ _ _
 rw [← hW]
 clear hW
 go_loopw [22] (fun j wr => ∃ i : Nat, i ≤ 4 ∧ j = .int .i64 i ∧ St W (w.heap.size + 3) (buildOn 0 32 (mskN 32 k a b) i) wr) (fun j _ => 4 - (intOf j).toNat)
 case atStart => exact ⟨0, Nat.zero_le _, rfl, St.start hO⟩
 case round =>
  obtain ⟨i, hi, rfl, hs⟩ := hrel
  by_cases hlt : i < 4
  ·rcases (show holdC k (sgn 32 (getN a 32 i)) (sgn 32 (getN b 32 i)) = true ∨ holdC k (sgn 32 (getN a 32 i)) (sgn 32 (getN b 32 i)) = false from by cases holdC k (sgn 32 (getN a 32 i)) (sgn 32 (getN b 32 i)) <;> simp) with hh | hh
   ·have HH := Lib.hid (holds_t hh)
    have HM : buildOn 0 32 (mskN 32 k a b) (i + 1) = setN (buildOn 0 32 (mskN 32 k a b) i) 32 i 18446744073709551615 := by rw [buildOn, msk_yes 32 k a b i hh]
    have HM2 := Lib.hid HM
    clear hh HM
    go_wp2_with fail
    refine region_do (St W (w.heap.size + 3) (buildOn 0 32 (mskN 32 k a b) i)) 9 (by kernel_rfl) (by kernel_rfl) hs.drew ?_
    simp only [List.take_succ_cons, List.take_zero, List.drop_succ_cons, List.drop_zero]
    repeat (first | (refine do_load rfl _ rfl _ rfl _ (fun u hS => hS.kb.get hA (by omega)) ?_; simp only [Act.put, zqA, zqB, zqC]) | (refine wpD_pure (v := ?_) rfl (fun u => ?_) ?_; rotate_left; (focus (go_simp; (try with_reducible rfl); done)); simp only [Act.put, zqA, zqB, zqC]))
    (refine wpD_call (v := .int .i64 (sgn 32 (getN a 32 i))) rfl 122 ?_ (fun u => ?_) (fun u hS => ?_) ?_; rotate_left 1; (focus (go_simp; (try with_reducible rfl); done)); (focus (refine (signed32z a _ i _ rfl (by omega)).mono ?_; rintro e u2 ⟨rfl, hb⟩; exact ⟨rfl, hS.below hb⟩)); simp only [Act.put, zqA, zqB, zqC])
    repeat (first | (refine do_load rfl _ rfl _ rfl _ (fun u hS => hS.kb.get hB (by omega)) ?_; simp only [Act.put, zqA, zqB, zqC]) | (refine wpD_pure (v := ?_) rfl (fun u => ?_) ?_; rotate_left; (focus (go_simp; (try with_reducible rfl); done)); simp only [Act.put, zqA, zqB, zqC]))
    (refine wpD_call (v := .int .i64 (sgn 32 (getN b 32 i))) rfl 122 ?_ (fun u => ?_) (fun u hS => ?_) ?_; rotate_left 1; (focus (go_simp; (try with_reducible rfl); done)); (focus (refine (signed32z b _ i _ rfl (by omega)).mono ?_; rintro e u2 ⟨rfl, hb⟩; exact ⟨rfl, hS.below hb⟩)); simp only [Act.put, zqA, zqB, zqC])
    repeat (refine wpD_pure (v := ?_) rfl (fun u => ?_) ?_; rotate_left; (focus (go_simp; (try with_reducible rfl); done)); simp only [Act.put, zqA, zqB, zqC])
    refine wpD_nil (fun wq hq => ?_)
    go_wp2_with (first | (go_at_call 157; refine (HH.out _).mono ?_; rintro e w' ⟨rfl, rfl⟩) | (with_reducible refine load_vec rfl _ rfl _ rfl _ hq.this ?_) | (go_at_call 51; (with_reducible refine (set32z _ _ _ i 18446744073709551615 _ rfl lit_ones (by omega)).mono ?_); rintro e u2 ⟨rfl, hb⟩; have hr := hq.below hb) | (with_reducible refine store_vec rfl _ _ rfl (w.heap.size + 3) _ rfl rfl _ hr.this ?_; intro wy hy))
    go_roundw
    case rel => exact ⟨i + 1, by omega, by go_num, HM2.out ▸ hr.sets hy⟩
    case measure => (simp [intOf] <;> omega)
   ·have HH := Lib.hid (holds_f hh)
    have HM2 := Lib.hid (msk_no 32 k a b i (by omega) hh)
    clear hh
    go_wp2_with fail
    refine region_do (St W (w.heap.size + 3) (buildOn 0 32 (mskN 32 k a b) i)) 9 (by kernel_rfl) (by kernel_rfl) hs.drew ?_
    simp only [List.take_succ_cons, List.take_zero, List.drop_succ_cons, List.drop_zero]
    repeat (first | (refine do_load rfl _ rfl _ rfl _ (fun u hS => hS.kb.get hA (by omega)) ?_; simp only [Act.put, zqA, zqB, zqC]) | (refine wpD_pure (v := ?_) rfl (fun u => ?_) ?_; rotate_left; (focus (go_simp; (try with_reducible rfl); done)); simp only [Act.put, zqA, zqB, zqC]))
    (refine wpD_call (v := .int .i64 (sgn 32 (getN a 32 i))) rfl 122 ?_ (fun u => ?_) (fun u hS => ?_) ?_; rotate_left 1; (focus (go_simp; (try with_reducible rfl); done)); (focus (refine (signed32z a _ i _ rfl (by omega)).mono ?_; rintro e u2 ⟨rfl, hb⟩; exact ⟨rfl, hS.below hb⟩)); simp only [Act.put, zqA, zqB, zqC])
    repeat (first | (refine do_load rfl _ rfl _ rfl _ (fun u hS => hS.kb.get hB (by omega)) ?_; simp only [Act.put, zqA, zqB, zqC]) | (refine wpD_pure (v := ?_) rfl (fun u => ?_) ?_; rotate_left; (focus (go_simp; (try with_reducible rfl); done)); simp only [Act.put, zqA, zqB, zqC]))
    (refine wpD_call (v := .int .i64 (sgn 32 (getN b 32 i))) rfl 122 ?_ (fun u => ?_) (fun u hS => ?_) ?_; rotate_left 1; (focus (go_simp; (try with_reducible rfl); done)); (focus (refine (signed32z b _ i _ rfl (by omega)).mono ?_; rintro e u2 ⟨rfl, hb⟩; exact ⟨rfl, hS.below hb⟩)); simp only [Act.put, zqA, zqB, zqC])
    repeat (refine wpD_pure (v := ?_) rfl (fun u => ?_) ?_; rotate_left; (focus (go_simp; (try with_reducible rfl); done)); simp only [Act.put, zqA, zqB, zqC])
    refine wpD_nil (fun wq hq => ?_)
    go_wp2_with (go_at_call 157; refine (HH.out _).mono ?_; rintro e w' ⟨rfl, rfl⟩)
    go_roundw
    case rel => exact ⟨i + 1, by omega, by go_num, HM2.out ▸ hq⟩
    case measure => (simp [intOf] <;> omega)
  ·obtain rfl : i = 4 := by omega
   have hR' := hs.kb.get hR (by omega)
   go_wp2_with (first | (with_reducible refine load_vec rfl _ rfl _ rfl _ hs.this ?_) | (with_reducible refine store_vec rfl _ _ rfl (w.heap.size + 2) _ rfl rfl _ hR' ?_; intro wq hq))
   exact bodyPost_ret (results_vec_tmp rfl _ _ (w.heap.size + 2) _ _ rfl rfl hq.this) rfl ⟨rfl, (hs.kb.to_below hZ (by omega)).trans (hq.below.mono (by omega))⟩
set_option maxRecDepth 100000 in
set_option maxHeartbeats 2000000 in
theorem cmp_w64 (op k : Int) (a b : Vec) (w : World) (hk : 0 ≤ k ∧ k ≤ 9) (ho : ∀ w, Calls Tryz.prog 156 #[.int .i64 op] w fun e w' => e = .returned (.tuple #[.int .i64 64, .int .i64 k]) ∧ w' = w.drew) :
  Calls Tryz.prog 90 #[.int .i64 op, .agg (cells a), .agg (cells b)] w fun e w' => e = .returned (.tuple #[.agg (cells (buildOn 0 64 (mskN 64 k a b) 2)), .int .i64 0]) ∧ Below w.heap.size w w' := by
 obtain ⟨hk0, hk9⟩ := hk
 have HO := Lib.hid ho
 clear ho
 go_enter Tryz.func90, Tryz.ntmps90
 go_wp2_with (first | (go_at_call 156; refine (HO.out _).mono ?_; rintro e w' ⟨rfl, rfl⟩) | (go_at_call 50; ((with_reducible refine (lanes64 _).mono ?_); rintro e w' ⟨rfl, rfl⟩)))
 rw [← cells_zero]
 obtain ⟨W, hW⟩ : ∃ W, W = (((((w.alloc (.cells (cells a) 23)).alloc (.cells (cells b) 23)).alloc (.cells (cells 0) 23)).alloc (.cells (cells 0) 23)).drew) := ⟨_, rfl⟩
 have hA : W.heap[w.heap.size]? = some (.cells (cells a) 23 (0, 0)) := by rw [hW]; exact heap_alloc4_0 _ _ _ _ _
 have hB : W.heap[w.heap.size + 1]? = some (.cells (cells b) 23 (0, 0)) := by rw [hW]; exact heap_alloc4_1 _ _ _ _ _
 have hR : W.heap[w.heap.size + 2]? = some (.cells (cells 0) 23 (0, 0)) := by rw [hW]; exact heap_alloc4_2 _ _ _ _ _
 have hO : W.heap[w.heap.size + 3]? = some (.cells (cells 0) 23 (0, 0)) := by rw [hW]; exact heap_alloc4_3 _ _ _ _ _
 have hZ : Below w.heap.size w W := by rw [hW]; exact Below.drew (below_alloc4 _ _ _ _ _)
 rw [← hW]
 clear hW
 go_loopw [22] (fun j wr => ∃ i : Nat, i ≤ 2 ∧ j = .int .i64 i ∧ St W (w.heap.size + 3) (buildOn 0 64 (mskN 64 k a b) i) wr) (fun j _ => 2 - (intOf j).toNat)
 case atStart => exact ⟨0, Nat.zero_le _, rfl, St.start hO⟩
 case round =>
  obtain ⟨i, hi, rfl, hs⟩ := hrel
  by_cases hlt : i < 2
  ·rcases (show holdC k (sgn 64 (getN a 64 i)) (sgn 64 (getN b 64 i)) = true ∨ holdC k (sgn 64 (getN a 64 i)) (sgn 64 (getN b 64 i)) = false from by cases holdC k (sgn 64 (getN a 64 i)) (sgn 64 (getN b 64 i)) <;> simp) with hh | hh
   ·have HH := Lib.hid (holds_t hh)
    have HM : buildOn 0 64 (mskN 64 k a b) (i + 1) = setN (buildOn 0 64 (mskN 64 k a b) i) 64 i 18446744073709551615 := by rw [buildOn, msk_yes 64 k a b i hh]
    have HM2 := Lib.hid HM
    clear hh HM
    go_wp2_with fail
    refine region_do (St W (w.heap.size + 3) (buildOn 0 64 (mskN 64 k a b) i)) 9 (by kernel_rfl) (by kernel_rfl) hs.drew ?_
    simp only [List.take_succ_cons, List.take_zero, List.drop_succ_cons, List.drop_zero]
    repeat (first | (refine do_load rfl _ rfl _ rfl _ (fun u hS => hS.kb.get hA (by omega)) ?_; simp only [Act.put, zqA, zqB, zqC]) | (refine wpD_pure (v := ?_) rfl (fun u => ?_) ?_; rotate_left; (focus (go_simp; (try with_reducible rfl); done)); simp only [Act.put, zqA, zqB, zqC]))
    (refine wpD_call (v := .int .i64 (sgn 64 (getN a 64 i))) rfl 122 ?_ (fun u => ?_) (fun u hS => ?_) ?_; rotate_left 1; (focus (go_simp; (try with_reducible rfl); done)); (focus (refine (signed64z a _ i _ rfl (by omega)).mono ?_; rintro e u2 ⟨rfl, hb⟩; exact ⟨rfl, hS.below hb⟩)); simp only [Act.put, zqA, zqB, zqC])
    repeat (first | (refine do_load rfl _ rfl _ rfl _ (fun u hS => hS.kb.get hB (by omega)) ?_; simp only [Act.put, zqA, zqB, zqC]) | (refine wpD_pure (v := ?_) rfl (fun u => ?_) ?_; rotate_left; (focus (go_simp; (try with_reducible rfl); done)); simp only [Act.put, zqA, zqB, zqC]))
    (refine wpD_call (v := .int .i64 (sgn 64 (getN b 64 i))) rfl 122 ?_ (fun u => ?_) (fun u hS => ?_) ?_; rotate_left 1; (focus (go_simp; (try with_reducible rfl); done)); (focus (refine (signed64z b _ i _ rfl (by omega)).mono ?_; rintro e u2 ⟨rfl, hb⟩; exact ⟨rfl, hS.below hb⟩)); simp only [Act.put, zqA, zqB, zqC])
    repeat (refine wpD_pure (v := ?_) rfl (fun u => ?_) ?_; rotate_left; (focus (go_simp; (try with_reducible rfl); done)); simp only [Act.put, zqA, zqB, zqC])
    refine wpD_nil (fun wq hq => ?_)
    go_wp2_with (first | (go_at_call 157; refine (HH.out _).mono ?_; rintro e w' ⟨rfl, rfl⟩) | (with_reducible refine load_vec rfl _ rfl _ rfl _ hq.this ?_) | (go_at_call 51; (with_reducible refine (set64z _ _ _ i 18446744073709551615 _ rfl lit_ones (by omega)).mono ?_); rintro e u2 ⟨rfl, hb⟩; have hr := hq.below hb) | (with_reducible refine store_vec rfl _ _ rfl (w.heap.size + 3) _ rfl rfl _ hr.this ?_; intro wy hy))
    go_roundw
    case rel => exact ⟨i + 1, by omega, by go_num, HM2.out ▸ hr.sets hy⟩
    case measure => (simp [intOf] <;> omega)
   ·have HH := Lib.hid (holds_f hh)
    have HM2 := Lib.hid (msk_no 64 k a b i (by omega) hh)
    clear hh
    go_wp2_with fail
    refine region_do (St W (w.heap.size + 3) (buildOn 0 64 (mskN 64 k a b) i)) 9 (by kernel_rfl) (by kernel_rfl) hs.drew ?_
    simp only [List.take_succ_cons, List.take_zero, List.drop_succ_cons, List.drop_zero]
    repeat (first | (refine do_load rfl _ rfl _ rfl _ (fun u hS => hS.kb.get hA (by omega)) ?_; simp only [Act.put, zqA, zqB, zqC]) | (refine wpD_pure (v := ?_) rfl (fun u => ?_) ?_; rotate_left; (focus (go_simp; (try with_reducible rfl); done)); simp only [Act.put, zqA, zqB, zqC]))
    (refine wpD_call (v := .int .i64 (sgn 64 (getN a 64 i))) rfl 122 ?_ (fun u => ?_) (fun u hS => ?_) ?_; rotate_left 1; (focus (go_simp; (try with_reducible rfl); done)); (focus (refine (signed64z a _ i _ rfl (by omega)).mono ?_; rintro e u2 ⟨rfl, hb⟩; exact ⟨rfl, hS.below hb⟩)); simp only [Act.put, zqA, zqB, zqC])
    repeat (first | (refine do_load rfl _ rfl _ rfl _ (fun u hS => hS.kb.get hB (by omega)) ?_; simp only [Act.put, zqA, zqB, zqC]) | (refine wpD_pure (v := ?_) rfl (fun u => ?_) ?_; rotate_left; (focus (go_simp; (try with_reducible rfl); done)); simp only [Act.put, zqA, zqB, zqC]))
    (refine wpD_call (v := .int .i64 (sgn 64 (getN b 64 i))) rfl 122 ?_ (fun u => ?_) (fun u hS => ?_) ?_; rotate_left 1; (focus (go_simp; (try with_reducible rfl); done)); (focus (refine (signed64z b _ i _ rfl (by omega)).mono ?_; rintro e u2 ⟨rfl, hb⟩; exact ⟨rfl, hS.below hb⟩)); simp only [Act.put, zqA, zqB, zqC])
    repeat (refine wpD_pure (v := ?_) rfl (fun u => ?_) ?_; rotate_left; (focus (go_simp; (try with_reducible rfl); done)); simp only [Act.put, zqA, zqB, zqC])
    refine wpD_nil (fun wq hq => ?_)
    go_wp2_with (go_at_call 157; refine (HH.out _).mono ?_; rintro e w' ⟨rfl, rfl⟩)
    go_roundw
    case rel => exact ⟨i + 1, by omega, by go_num, HM2.out ▸ hq⟩
    case measure => (simp [intOf] <;> omega)
  ·obtain rfl : i = 2 := by omega
   have hR' := hs.kb.get hR (by omega)
   go_wp2_with (first | (with_reducible refine load_vec rfl _ rfl _ rfl _ hs.this ?_) | (with_reducible refine store_vec rfl _ _ rfl (w.heap.size + 2) _ rfl rfl _ hR' ?_; intro wq hq))
   exact bodyPost_ret (results_vec_tmp rfl _ _ (w.heap.size + 2) _ _ rfl rfl hq.this) rfl ⟨rfl, (hs.kb.to_below hZ (by omega)).trans (hq.below.mono (by omega))⟩
theorem heap_z3c (w : World) (A B : Obj) (t : TypeId) : (((w.alloc A).alloc B).alloc (.cells #[.int .u8 0, .int .u8 0, .int .u8 0, .int .u8 0, .int .u8 0, .int .u8 0, .int .u8 0, .int .u8 0, .int .u8 0, .int .u8 0, .int .u8 0, .int .u8 0, .int .u8 0, .int .u8 0, .int .u8 0, .int .u8 0] t)).heap[w.heap.size + 2]? = some (.cells (cells 0) t (0, 0)) := by
 rw [cells_zero]; exact heap_alloc3_2 _ _ _ _
theorem cmp_none (op κ : Int) (a b : Vec) (w : World) (hκ : wrap64 (op - 64768) = κ) (h : κ < 35 ∨ 65 ≤ κ ∧ κ < 214 ∨ 220 ≤ κ) :
  Calls Tryz.prog 90 #[.int .i64 op, .agg (cells a), .agg (cells b)] w fun e w' => e = .returned (.tuple #[.agg (cells 0), .int .i64 1]) ∧ Below w.heap.size w w' := by
 have H := Lib.hid (fun w => order_none op κ w hκ h)
 clear hκ h
 go_enter Tryz.func90, Tryz.ntmps90
 go_wp2_with (first | (go_at_call 156; refine (H.out _).mono ?_; rintro e w' ⟨rfl, rfl⟩))
 exact bodyPost_ret (results_vec_tmp rfl _ _ (w.heap.size + 2) _ _ rfl rfl (heap_z3c w _ _ _)) rfl ⟨rfl, below_alloc3 _ _ _ _⟩
end Go.Proofs.YtebpijlmeemfaaaGreatDoor
namespace Pl
def cmpV (op : Int) (a b : Vec) : Vec × Int :=
 if 64803 ≤ op ∧ op < 64813 then (buildOn 0 8 (mskN 8 (op - 64803) a b) 16, 0)
 else if 64813 ≤ op ∧ op < 64823 then (buildOn 0 16 (mskN 16 (op - 64813) a b) 8, 0)
 else if 64823 ≤ op ∧ op < 64833 then (buildOn 0 32 (mskN 32 (op - 64823) a b) 4, 0)
 else if op = 64982 then (buildOn 0 64 (mskN 64 0 a b) 2, 0)
 else if op = 64983 then (buildOn 0 64 (mskN 64 1 a b) 2, 0)
 else if op = 64984 then (buildOn 0 64 (mskN 64 2 a b) 2, 0)
 else if op = 64985 then (buildOn 0 64 (mskN 64 4 a b) 2, 0)
 else if op = 64986 then (buildOn 0 64 (mskN 64 6 a b) 2, 0)
 else if op = 64987 then (buildOn 0 64 (mskN 64 8 a b) 2, 0)
 else (0, 1)
end Pl
namespace Go.Proofs.YtebpijlmeemfaaaGreatDoor
open Go.RowKit Pl
theorem cmp_any (op : Int) (a b : Vec) (w : World) (ho : -9223372036854775808 ≤ op ∧ op ≤ 9223372036854775807) :
  Calls Tryz.prog 90 #[.int .i64 op, .agg (cells a), .agg (cells b)] w fun e w' => e = .returned (.tuple #[.agg (cells (cmpV op a b).1), .int .i64 (cmpV op a b).2]) ∧ Below w.heap.size w w' := by
 unfold cmpV
 split
 ·rename_i h
  obtain ⟨c, hc, rfl⟩ : ∃ c : Nat, c < 10 ∧ op = 64803 + (c : Int) := ⟨(op - 64803).toNat, by omega, by omega⟩
  rw [show (64803 : Int) + (c : Int) - 64803 = c by omega]
  exact cmp_w8 _ c a b w (by omega) fun w => order_row0 c w hc
 split
 ·rename_i h
  obtain ⟨c, hc, rfl⟩ : ∃ c : Nat, c < 10 ∧ op = 64813 + (c : Int) := ⟨(op - 64813).toNat, by omega, by omega⟩
  rw [show (64813 : Int) + (c : Int) - 64813 = c by omega]
  exact cmp_w16 _ c a b w (by omega) fun w => order_row1 c w hc
 split
 ·rename_i h
  obtain ⟨c, hc, rfl⟩ : ∃ c : Nat, c < 10 ∧ op = 64823 + (c : Int) := ⟨(op - 64823).toNat, by omega, by omega⟩
  rw [show (64823 : Int) + (c : Int) - 64823 = c by omega]
  exact cmp_w32 _ c a b w (by omega) fun w => order_row2 c w hc
 split
 ·rename_i h; subst h; exact cmp_w64 _ 0 a b w (by omega) order_64_0
 split
 ·rename_i h; subst h; exact cmp_w64 _ 1 a b w (by omega) order_64_1
 split
 ·rename_i h; subst h; exact cmp_w64 _ 2 a b w (by omega) order_64_2
 split
 ·rename_i h; subst h; exact cmp_w64 _ 4 a b w (by omega) order_64_3
 split
 ·rename_i h; subst h; exact cmp_w64 _ 6 a b w (by omega) order_64_4
 split
 ·rename_i h; subst h; exact cmp_w64 _ 8 a b w (by omega) order_64_5
 ·exact cmp_none op _ a b w rfl (by unfold wrap64; omega)
end Go.Proofs.YtebpijlmeemfaaaGreatDoor
end
section
namespace Pl
def mskR (w : Nat) (v : Vec) : Nat → Nat
 | 0 => 0
 | i + 1 => if sgn w (getN v w i) < 0 then mskR w v i ||| 2 ^ i else mskR w v i
def allR (w : Nat) (v : Vec) : Nat → Nat
 | 0 => 1
 | i + 1 => if getN v w i = 0 then 0 else allR w v i
end Pl
namespace Go.Proofs.YtebpijlmeemfaaaGreatDoor
open Go.RowKit Pl
structure H1 (w0 : World) (v : Vec) (u : World) : Prop where
 bel : Below w0.heap.size w0 u
 fst : u.heap[w0.heap.size]? = some (.cells (cells v) 23 (0, 0))
theorem H1.below {w0 u u1 : World} {v : Vec} (h : H1 w0 v u) (hb : Below u.heap.size u u1) : H1 w0 v u1 :=
 ⟨h.bel.trans (hb.mono (by have := block_lt h.fst; omega)), blk_keep h.fst hb⟩
theorem H1.drew {w0 u : World} {v : Vec} (h : H1 w0 v u) : H1 w0 v u.drew := ⟨h.bel.drew, h.fst⟩
theorem H1.start (v : Vec) (w : World) : H1 w v (w.alloc (.cells (cells v) 23)) := ⟨(Below.refl _ _).alloc (Nat.le_refl _) _, heap_alloc_new _ _⟩
end Go.Proofs.YtebpijlmeemfaaaGreatDoor
namespace Pl
def testV (op : Int) (v : Vec) : Int × Int :=
 if op = 64851 then (if v = 0 then 0 else 1, 0)
 else if op = 64867 then ((allR 8 v 16 : Int), 0) else if op = 64868 then ((mskR 8 v 16 : Int), 0)
 else if op = 64899 then ((allR 16 v 8 : Int), 0) else if op = 64900 then ((mskR 16 v 8 : Int), 0)
 else if op = 64931 then ((allR 32 v 4 : Int), 0) else if op = 64932 then ((mskR 32 v 4 : Int), 0)
 else if op = 64963 then ((allR 64 v 2 : Int), 0) else if op = 64964 then ((mskR 64 v 2 : Int), 0)
 else (0, 1)
end Pl
end
section
namespace Go.Proofs.YtebpijlmeemfaaaGreatDoor
open Go.RowKit Pl
structure N2 (w0 : World) (l : List (Nat × Vec)) (X : Vec) (D : Option Nat × Option Nat × Bool) (u : World) : Prop where
 bel : Below w0.heap.size w0 u
 hold : ∀ q ∈ l, u.heap[q.1]? = some (.cells (cells q.2) 23 (0, 0))
 nb : ∀ x, D.1 = some x → u.heap[x]? = some (.cells (cells (bif D.2.2 then X else 0)) 23 (0, 0)) ∧ w0.heap.size ≤ x ∧ ∀ q ∈ l, q.1 ≠ x
 nc : ∀ y, D.2.1 = some y → u.heap[y]? = some (.cells (cells 0) 23 (0, 0)) ∧ w0.heap.size ≤ y ∧ ∀ q ∈ l, q.1 ≠ y
 ne : ∀ x y, D.1 = some x → D.2.1 = some y → x ≠ y
section
variable {w0 u u1 : World} {l : List (Nat × Vec)} {X : Vec} {D : Option Nat × Option Nat × Bool} {b c : Option Nat}
theorem N2.below (h : N2 w0 l X D u) (hb : Below u.heap.size u u1) : N2 w0 l X D u1 :=
 ⟨h.bel.trans (hb.mono h.bel.size), fun q hq => blk_keep (h.hold q hq) hb, fun x hx => ⟨blk_keep (h.nb x hx).1 hb, (h.nb x hx).2⟩, fun x hx => ⟨blk_keep (h.nc x hx).1 hb, (h.nc x hx).2⟩, h.ne⟩
theorem N2.drew (h : N2 w0 l X D u) : N2 w0 l X D u.drew := ⟨h.bel.drew, h.hold, h.nb, h.nc, h.ne⟩
theorem N2.allocB (h : N2 w0 l X (none, c, false) u) : N2 w0 l X (some u.heap.size, c, false) (u.alloc (.cells (cells 0) 23)) :=
 ⟨h.bel.alloc h.bel.size _, fun q hq => blk_alloc (h.hold q hq) _, fun x hx => by
  obtain rfl : u.heap.size = x := by simpa using hx
  exact ⟨heap_alloc_new _ _, h.bel.size, fun q hq => Nat.ne_of_lt (block_lt (h.hold q hq))⟩, fun y hy => ⟨blk_alloc (h.nc y hy).1 _, (h.nc y hy).2⟩, fun x y hx hy => by
  obtain rfl : u.heap.size = x := by simpa using hx
  exact Nat.ne_of_gt (block_lt (h.nc y hy).1)⟩
theorem N2.allocC (h : N2 w0 l X (b, none, false) u) : N2 w0 l X (b, some u.heap.size, false) (u.alloc (.cells (cells 0) 23)) :=
 ⟨h.bel.alloc h.bel.size _, fun q hq => blk_alloc (h.hold q hq) _, fun x hx => ⟨blk_alloc (h.nb x hx).1 _, (h.nb x hx).2⟩, fun y hy => by
  obtain rfl : u.heap.size = y := by simpa using hy
  exact ⟨heap_alloc_new _ _, h.bel.size, fun q hq => Nat.ne_of_lt (block_lt (h.hold q hq))⟩, fun x y hx hy => by
  obtain rfl : u.heap.size = y := by simpa using hy
  exact Nat.ne_of_lt (block_lt (h.nb x hx).1)⟩
theorem N2.storeB {x : Nat} (h : N2 w0 l X (some x, c, false) u) (hs : Sets u x X u1) : N2 w0 l X (some x, c, true) u1 := by
 obtain ⟨h1, h2, h3⟩ := h.nb x rfl
 refine ⟨h.bel.trans (hs.below.mono h2), fun q hq => blk_sets (h.hold q hq) hs (h3 q hq), fun y hy => ?_, fun y hy => ⟨blk_sets (h.nc y hy).1 hs (Ne.symm (h.ne x y rfl hy)), (h.nc y hy).2⟩, h.ne⟩
 obtain rfl : x = y := by simpa using hy
 exact ⟨hs.this, h2, h3⟩
theorem N2.start (X : Vec) (hb : Below w0.heap.size w0 u) (hh : ∀ q ∈ l, u.heap[q.1]? = some (.cells (cells q.2) 23 (0, 0))) : N2 w0 l X (none, none, false) u :=
 ⟨hb, hh, fun x hx => (by cases hx), fun x hx => (by cases hx), fun x y hx => (by cases hx)⟩
end
def step2 (p1 p2 q : Nat) (i : Nat) (D D' : Option Nat × Option Nat × Bool) : Prop :=
 (i = p1 ∧ D.1 = none ∧ D.2.2 = false ∧ ∃ x, D' = (some x, D.2.1, false)) ∨ (i = p2 ∧ D.2.1 = none ∧ D.2.2 = false ∧ ∃ y, D' = (D.1, some y, false)) ∨ (i = q ∧ D.2.2 = false ∧ D' = (D.1, D.2.1, true))
def val2 (p1 p2 : Nat) (i : Nat) (D : Option Nat × Option Nat × Bool) : Value := if i = p1 then (match D.1 with | some x => ptr x | none => undef) else if i = p2 then (match D.2.1 with | some y => ptr y | none => undef) else undef
def check2 (ops : Array Oper) (n p1 p2 q : Nat) (order : List Nat) : Bool :=
 checkA ops n [p1, p2, q] order && decide (p1 ≠ p2) && decide (p1 ≠ q) && decide (p2 ≠ q) && decide (p1 < n) && decide (p2 < n) && decide (q < n) &&
 (Region.ready .any ops (marks (Array.replicate ops.size false) order) == [p1, p2]) && (Region.ready .any ops ((marks (Array.replicate ops.size false) order).setIfInBounds p1 true) == [p2]) && (Region.ready .any ops ((marks (Array.replicate ops.size false) order).setIfInBounds p2 true) == [p1]) &&
 (Region.ready .any ops (((marks (Array.replicate ops.size false) order).setIfInBounds p1 true).setIfInBounds p2 true) == [q]) &&
 Region.seqB .any ops (ops.size - n) n ((((marks (Array.replicate ops.size false) order).setIfInBounds p1 true).setIfInBounds p2 true).setIfInBounds q true)
theorem region_new2 {id : Nat} {Q : Exit → Act → World → Prop} {a : Act} {w : World} {l : List Oper} (w0 : World) (hs : List (Nat × Vec)) (X : Vec) (n p1 p2 q : Nat) (order : List Nat) (hB : check2 l.toArray n p1 p2 q order = true)
  {o1 o2 oq : Oper} (h1 : l[p1]? = some o1) (h2 : l[p2]? = some o2) (hoq : l[q]? = some oq) (g1 : o1.guard = none) (e1 : o1.op = .alloc 23) (g2 : o2.guard = none) (e2 : o2.op = .alloc 23) (hqn : oq.guard = none) (xo yo : Operand) (hqo : oq.op = .store 23 xo yo)
  (hd : o1.dst ≠ o2.dst) (hS : N2 w0 hs X (none, none, false) w.drew)
  (h : wpDA Tryz.prog l.toArray (N2 w0 hs X) (fun a' => ∀ x y, ((a'.put o1.dst (ptr x)).put o2.dst (ptr y)).eval xo = ptr x ∧ ((a'.put o1.dst (ptr x)).put o2.dst (ptr y)).eval yo = .agg (cells X) ∧
   ∀ w', N2 w0 hs X (some x, some y, true) w' → wpList Tryz.prog l.toArray Q (l.drop n) (((a'.put o1.dst (ptr x)).put o2.dst (ptr y)).put oq.dst undef) w') (opsAt l order) a) : (Code.region id l.toArray true).wp Tryz.prog Q a w := by
 simp only [check2, Bool.and_eq_true, decide_eq_true_eq, beq_iff_eq] at hB
 obtain ⟨⟨⟨⟨⟨⟨⟨⟨⟨⟨⟨hA, n12⟩, n1q⟩, n2q⟩, l1⟩, l2⟩, lq⟩, r0⟩, r1⟩, r2⟩, r3⟩, hsq⟩ := hB
 refine region_news (N2 w0 hs X) (step2 p1 p2 q) (val2 p1 p2) (none, none, false) n [p1, p2, q] order (by kernel_rfl) hA hS ?_
 have mono : ∀ (os : List Oper) (a : Act) (K K' : Act → Prop), (∀ a, K a → K' a) → wpDA Tryz.prog l.toArray (N2 w0 hs X) K os a → wpDA Tryz.prog l.toArray (N2 w0 hs X) K' os a := by
  intro os
  induction os with
  | nil => intro a K K' hk h; exact hk _ h
  | cons o os ih => intro a K K' hk ⟨v, h1, h2⟩; exact ⟨v, h1, ih _ _ _ hk h2⟩
 refine mono _ _ _ _ (fun a' h' => ?_) h
 have v1 : ∀ x c b, val2 p1 p2 p1 (some x, c, b) = ptr x := fun x c b => by simp [val2]
 have v2 : ∀ x y b, val2 p1 p2 p2 (x, some y, b) = ptr y := fun x y b => by simp [val2, Ne.symm n12]
 have vq : ∀ D, val2 p1 p2 q D = undef := fun D => by simp [val2, Ne.symm n1q, Ne.symm n2q]
 have i1 : (l.toArray)[p1]? = some o1 := by simpa using h1
 have i2 : (l.toArray)[p2]? = some o2 := by simpa using h2
 have iq : (l.toArray)[q]? = some oq := by simpa using hoq
 have N1A : ∀ (c : Option Nat) (a : Act), NewA Tryz.prog l.toArray (N2 w0 hs X) (step2 p1 p2 q) (val2 p1 p2) p1 (none, c, false) o1 a := fun c a => ⟨by unfold Region.wanted; rw [g1], fun w hw => ⟨(some w.heap.size, c, false), _, .inl ⟨rfl, rfl, rfl, _, rfl⟩, hw.allocB, .inl (by rw [new_run e1, v1])⟩⟩
 have N2A : ∀ (b : Option Nat) (a : Act), NewA Tryz.prog l.toArray (N2 w0 hs X) (step2 p1 p2 q) (val2 p1 p2) p2 (b, none, false) o2 a := fun b a => ⟨by unfold Region.wanted; rw [g2], fun w hw => ⟨(b, some w.heap.size, false), _, .inr (.inl ⟨rfl, rfl, rfl, _, rfl⟩), hw.allocC, .inl (by rw [new_run e2, v2])⟩⟩
 have last : ∀ (x y : Nat) (listed : Array Bool), listed = ((marks (Array.replicate l.toArray.size false) order).setIfInBounds p1 true).setIfInBounds p2 true →
   wpHeadA Tryz.prog .any l.toArray (N2 w0 hs X) (step2 p1 p2 q) (val2 p1 p2) [p1, p2, q] n (fun D listed a' => Region.seqB .any l.toArray (l.toArray.size - n) n listed = true ∧ ∀ w', N2 w0 hs X D w' → wpList Tryz.prog l.toArray Q (l.drop n) a' w') 1 (some x, some y, false) listed ((a'.put o1.dst (ptr x)).put o2.dst (ptr y)) := fun x y listed hl => by
  subst hl
  obtain ⟨hx, hy, hk⟩ := h' x y
  refine special_one q r3 lq (by simp) iq ⟨by unfold Region.wanted; rw [hqn], fun w hw => ?_⟩ (fun D' hD => ?_)
  ·obtain ⟨w1, s1, s2⟩ := store_run xo yo hqo x X 0 hx hy (hw.nb x rfl).1
   exact ⟨(some x, some y, true), w1, .inr (.inr ⟨rfl, rfl, rfl⟩), hw.storeB s1, .inr ⟨s2, vq _⟩⟩
  ·rcases hD with ⟨k, _⟩ | ⟨k, _⟩ | ⟨_, _, rfl⟩
   ·exact absurd k (Ne.symm n1q)
   ·exact absurd k (Ne.symm n2q)
   ·rw [vq]; exact ⟨hsq, hk⟩
 refine ⟨by rw [r0]; simp, fun i hi => ?_⟩
 rw [r0] at hi
 rcases (show i = p1 ∨ i = p2 by simpa using hi) with rfl | rfl
 ·refine ⟨l1, .inl ⟨by simp, o1, i1, N1A none a', fun D' hD => ?_⟩⟩
  rcases hD with ⟨_, _, _, x, rfl⟩ | ⟨k, _⟩ | ⟨k, _⟩
  ·rw [v1]
   refine special_one p2 r1 l2 (by simp) i2 (N2A _ _) (fun D' hD => ?_)
   rcases hD with ⟨k, _⟩ | ⟨_, _, _, y, rfl⟩ | ⟨k, _⟩
   ·exact absurd k (Ne.symm n12)
   ·rw [v2]; exact last x y _ rfl
   ·exact absurd k n2q
  ·exact absurd k n12
  ·exact absurd k n1q
 ·refine ⟨l2, .inl ⟨by simp, o2, i2, N2A none a', fun D' hD => ?_⟩⟩
  rcases hD with ⟨k, _⟩ | ⟨_, _, _, y, rfl⟩ | ⟨k, _⟩
  ·exact absurd k (Ne.symm n12)
  ·rw [v2]
   refine special_one p1 r2 l1 (by simp) i1 (N1A _ _) (fun D' hD => ?_)
   rcases hD with ⟨_, _, _, x, rfl⟩ | ⟨k, _⟩ | ⟨k, _⟩
   ·rw [v1, ← Act.put_comm a' (ptr x) (ptr y) (fun d k1 k2 => hd (k1.trans k2.symm))]; exact last x y _ (Array.setIfInBounds_comm _ _ (Ne.symm n12))
   ·exact absurd k n12
   ·exact absurd k n1q
  ·exact absurd k n2q
end Go.Proofs.YtebpijlmeemfaaaGreatDoor
end
section
namespace Go.Proofs.YtebpijlmeemfaaaGreatDoor
open Go.RowKit Pl
theorem load_at {ops : Array Oper} {rest : List Oper} {o : Oper} {a : Act} {w : World} {Q : Exit → Act → World → Prop} (hgd : o.guard = none) (x : Operand) (ho : o.op = .load 23 x)
  (b off : Nat) (hx : a.eval x = .pointer (some ⟨b, off, none⟩)) (v : Vec) (hc : w.rangeAt b off (cells v).toList)
  (h : wpList Tryz.prog ops Q rest (a.put o.dst (.agg (cells v))) w) : wpList Tryz.prog ops Q (o :: rest) a w :=
 wpList_load_mid hgd _ x ho b off hx (cells v).toList _ hc vunder rfl (vsize v) (by simpa using h)
theorem do_loadM {σ : Type} {ops : Array Oper} {S : σ → World → Prop} {L : Act → Prop} {o : Oper} {rest : List Oper} {a : Act} (hg : o.guard = none) (x : Operand) (ho : o.op = .load 23 x) (b off : Nat)
  (hx : a.eval x = .pointer (some ⟨b, off, none⟩)) (v : Vec) (h : ∀ D w, S D w → w.rangeAt b off (cells v).toList)
  (hr : wpDA Tryz.prog ops S L rest (a.put o.dst (.agg (cells v)))) : wpDA Tryz.prog ops S L (o :: rest) a :=
 wpDA_here hg (fun D w hS => by
  unfold execOp
  simp only [ho, hx, Instr.loadAt, Instr.sureAddr, Sem.run_bind, Sem.run_pure, Result.andThen_ok, run_loadVar_mid w b off 23 (cells v).toList _ (h D w hS) vunder rfl (vsize v), Array.toArray_toList]) hr
theorem rangeAt_below {w u : World} {B o : Nat} {cs : List Value} (h : w.rangeAt B o cs) (hB : B < w.heap.size) (hz : Below w.heap.size w u) : u.rangeAt B o cs := fun j v hv => by
 rw [hz.cell (p := ⟨B, o + j, none⟩) hB]; exact h j v hv
end Go.Proofs.YtebpijlmeemfaaaGreatDoor
namespace Pl
theorem bitsAt_and (u v : Vec) (s l : Nat) : bitsAt (u &&& v) s l = bitsAt u s l &&& bitsAt v s l := by
 apply Nat.eq_of_testBit_eq; intro j
 rw [Nat.testBit_and, testBit_bitsAt, testBit_bitsAt, testBit_bitsAt, BitVec.toNat_and, Nat.testBit_and]
 cases decide (j < l) <;> simp
theorem bitsAt_or (u v : Vec) (s l : Nat) : bitsAt (u ||| v) s l = bitsAt u s l ||| bitsAt v s l := by
 apply Nat.eq_of_testBit_eq; intro j
 rw [Nat.testBit_or, testBit_bitsAt, testBit_bitsAt, testBit_bitsAt, BitVec.toNat_or, Nat.testBit_or]
 cases decide (j < l) <;> simp
theorem bitsAt_xor (u v : Vec) (s l : Nat) : bitsAt (u ^^^ v) s l = bitsAt u s l ^^^ bitsAt v s l := by
 apply Nat.eq_of_testBit_eq; intro j
 rw [Nat.testBit_xor, testBit_bitsAt, testBit_bitsAt, testBit_bitsAt, BitVec.toNat_xor, Nat.testBit_xor]
 cases decide (j < l) <;> simp
theorem not8 (n : Nat) (h : n < 256) : 255 - n = 255 ^^^ n := by
 have : ∀ n : Fin 256, 255 - n.val = 255 ^^^ n.val := by decide +kernel
 exact this ⟨n, h⟩
theorem getN_not (v : Vec) (i : Nat) (h : i < 16) : getN (~~~v) 8 i = 255 - getN v 8 i := by
 rw [not8 _ (getN_lt v 8 i)]
 unfold getN
 apply Nat.eq_of_testBit_eq; intro j
 rw [Nat.testBit_xor, testBit_bitsAt, testBit_bitsAt, show (255 : Nat) = 2 ^ 8 - 1 from rfl, Nat.testBit_two_pow_sub_one]
 by_cases hj : j < 8
 ·have : (~~~v).toNat.testBit (8 * i + j) = !(v.toNat.testBit (8 * i + j)) := by
   have := BitVec.getLsbD_not (x := v) (i := 8 * i + j)
   rw [show decide (8 * i + j < 128) = true from decide_eq_true (by omega)] at this
   simpa [BitVec.getLsbD] using this
  rw [this]; simp [hj]
 ·simp [hj]
def bitF (k : Nat) (a b c : Vec) (i : Nat) : Nat :=
 if k = 77 then 255 - getN a 8 i else if k = 78 then getN a 8 i &&& getN b 8 i else if k = 79 then getN a 8 i &&& (255 - getN b 8 i) else if k = 80 then getN a 8 i ||| getN b 8 i else if k = 81 then getN a 8 i ^^^ getN b 8 i
 else (getN a 8 i &&& getN c 8 i) ||| (getN b 8 i &&& (255 - getN c 8 i))
def bitV (k : Nat) (a b c : Vec) : Vec :=
 if k = 77 then ~~~a else if k = 78 then a &&& b else if k = 79 then a &&& ~~~b else if k = 80 then a ||| b else if k = 81 then a ^^^ b else (a &&& c) ||| (b &&& ~~~c)
theorem bitF_get (k : Nat) (a b c : Vec) (i : Nat) (h : i < 16) : bitF k a b c i = getN (bitV k a b c) 8 i := by
 have ga : ∀ u v : Vec, getN (u &&& v) 8 i = getN u 8 i &&& getN v 8 i := fun u v => bitsAt_and u v _ _
 have go : ∀ u v : Vec, getN (u ||| v) 8 i = getN u 8 i ||| getN v 8 i := fun u v => bitsAt_or u v _ _
 have gx : ∀ u v : Vec, getN (u ^^^ v) 8 i = getN u 8 i ^^^ getN v 8 i := fun u v => bitsAt_xor u v _ _
 unfold bitF bitV
 split
 ·rw [getN_not _ _ h]
 split
 ·rw [ga]
 split
 ·rw [ga, getN_not _ _ h]
 split
 ·rw [go]
 split
 ·rw [gx]
 ·rw [go, ga, ga, getN_not _ _ h]
theorem bitF_lt (k : Nat) (a b c : Vec) (i : Nat) (h : i < 16) : bitF k a b c i < 256 := by
 rw [bitF_get k a b c i h]; exact getN_lt _ 8 i
theorem bit_all (k : Nat) (a b c : Vec) : buildOn a 8 (bitF k a b c) 16 = bitV k a b c :=
 lanes_ext 8 16 (by decide) (by decide) fun i h => by
  rw [getN_buildOn _ _ _ _ _ (by decide), if_pos h, bitF_get k a b c i h]
  exact Nat.mod_eq_of_lt (getN_lt _ 8 i)
end Pl
namespace Go.Proofs.YtebpijlmeemfaaaGreatDoor
open Go.RowKit Pl
theorem index_vec (v : Vec) (i : Nat) (hi : i < 16) (u : World) : (Instr.index 23 (.agg (cells v)) (.int .i64 (i : Int))).run Tryz.prog u = .ok (.int .u8 ((getN v 8 i : Nat) : Int)) u := by
 have hu : (underlying 23).run Tryz.prog u = .ok (.array 16 5) u := by kernel_rfl
 have hz : (Go.sizeOf 5).run Tryz.prog u = .ok 1 u := by kernel_rfl
 have hi2 : (i : Int) < 16 := by omega
 have ha : (isAgg 5).run Tryz.prog u = .ok false u := by kernel_rfl
 unfold Instr.index
 simp [asIntOf, Sem.run_bind, hu, hz, ha, part, getElem?_cells v i hi, byteV, getN]
 exact fun h => absurd h (by omega)
theorem zb_78 (a b c : Vec) (i : Nat) (hi : i < 16) : bits .and .u8 ((getN a 8 i : Nat) : Int) ((getN b 8 i : Nat) : Int) = ((bitF 78 a b c i % 256 : Nat) : Int) := by
 rw [u8_and_nat _ _ (getN_lt a 8 i) (getN_lt b 8 i), Nat.mod_eq_of_lt (bitF_lt _ _ _ _ _ hi)]; rfl
theorem zb_77 (a b c : Vec) (i : Nat) (hi : i < 16) : bits .xor .u8 (if IntKind.u8.signed = true then -1 else IntKind.u8.max) ((getN a 8 i : Nat) : Int) = ((bitF 77 a b c i % 256 : Nat) : Int) := by
 rw [show (if IntKind.u8.signed = true then (-1 : Int) else IntKind.u8.max) = ((255 : Nat) : Int) from rfl, u8_xor_nat _ _ (by decide) (getN_lt a 8 i), Nat.mod_eq_of_lt (bitF_lt _ _ _ _ _ hi), ← not8 _ (getN_lt a 8 i)]; rfl
theorem zb_79 (a b c : Vec) (i : Nat) (hi : i < 16) : bits .andNot .u8 ((getN a 8 i : Nat) : Int) ((getN b 8 i : Nat) : Int) = ((bitF 79 a b c i % 256 : Nat) : Int) := by
 rw [u8_andNot_nat _ _ (getN_lt a 8 i) (getN_lt b 8 i), Nat.mod_eq_of_lt (bitF_lt _ _ _ _ _ hi)]; rfl
theorem zb_80 (a b c : Vec) (i : Nat) (hi : i < 16) : bits .or .u8 ((getN a 8 i : Nat) : Int) ((getN b 8 i : Nat) : Int) = ((bitF 80 a b c i % 256 : Nat) : Int) := by
 rw [u8_or_nat _ _ (getN_lt a 8 i) (getN_lt b 8 i), Nat.mod_eq_of_lt (bitF_lt _ _ _ _ _ hi)]; rfl
theorem zb_81 (a b c : Vec) (i : Nat) (hi : i < 16) : bits .xor .u8 ((getN a 8 i : Nat) : Int) ((getN b 8 i : Nat) : Int) = ((bitF 81 a b c i % 256 : Nat) : Int) := by
 rw [u8_xor_nat _ _ (getN_lt a 8 i) (getN_lt b 8 i), Nat.mod_eq_of_lt (bitF_lt _ _ _ _ _ hi)]; rfl
theorem zb_82 (a b c : Vec) (i : Nat) (hi : i < 16) : bits .or .u8 (bits .and .u8 ((getN a 8 i : Nat) : Int) ((getN c 8 i : Nat) : Int)) (bits .andNot .u8 ((getN b 8 i : Nat) : Int) ((getN c 8 i : Nat) : Int)) = ((bitF 82 a b c i % 256 : Nat) : Int) := by
 have h1 : getN a 8 i < 256 := getN_lt a 8 i
 have h2 : getN b 8 i < 256 := getN_lt b 8 i
 have h3 : getN c 8 i < 256 := getN_lt c 8 i
 rw [u8_and_nat _ _ h1 h3, u8_andNot_nat _ _ h2 h3, u8_or_nat _ _ (Nat.and_lt_two_pow _ (n := 8) h3) (Nat.and_lt_two_pow _ (n := 8) (show 255 - getN c 8 i < 2 ^ 8 by omega)), Nat.mod_eq_of_lt (bitF_lt _ _ _ _ _ hi)]; rfl
theorem heap_zz (w : World) (t : TypeId) (A : Obj) : ((w.alloc A).alloc (.cells #[.int .u8 0, .int .u8 0, .int .u8 0, .int .u8 0, .int .u8 0, .int .u8 0, .int .u8 0, .int .u8 0, .int .u8 0, .int .u8 0, .int .u8 0, .int .u8 0, .int .u8 0, .int .u8 0, .int .u8 0, .int .u8 0] t)).heap[w.heap.size + 1]? = some (.cells (cells 0) t (0, 0)) := by
 rw [cells_zero]; exact heap_alloc2_new _ _ _
end Go.Proofs.YtebpijlmeemfaaaGreatDoor
end
