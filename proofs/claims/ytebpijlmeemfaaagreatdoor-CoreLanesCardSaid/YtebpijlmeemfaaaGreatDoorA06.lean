/- A part of the proof that plaittop.CoreLanes returns true. -/
import Derived.Lib.BitFns
import Derived.WalkKit
import Derived.WalkSpells
import Derived.WalkLawsBesides
import Derived.Laws.Bits128
import Derived.Lib.Hide
import Derived.Test.YtebpijlmeemfaaaGreatDoorRows
import Derived.Test.YtebpijlmeemfaaaGreatDoorA01
import Derived.Test.YtebpijlmeemfaaaGreatDoorA02
import Derived.Test.YtebpijlmeemfaaaGreatDoorA05
set_option linter.all false
set_option linter.unusedSectionVars false
set_option linter.unusedSimpArgs false
set_option linter.unusedVariables false
section
namespace Go.Proofs.YtebpijlmeemfaaaGreatDoor
open Go.RowKit Pl
theorem sgb8 (v : Vec) (i : Nat) : -128 ≤ sgn 8 (getN v 8 i) ∧ sgn 8 (getN v 8 i) < 128 := by
 have h : getN v 8 i < 256 := getN_lt v 8 i
 have hs : sgn 8 (getN v 8 i) = if getN v 8 i < 128 then (getN v 8 i : Int) else (getN v 8 i : Int) - 256 := rfl
 rw [hs]; split <;> omega
set_option maxRecDepth 100000 in
set_option maxHeartbeats 2000000 in
theorem bin_w8 (op : Int) (k : Nat) (a b : Vec) (w : World) (hk : 14 ≤ k ∧ k ≤ 27)
  (ho : ∀ w, Calls Tryz.prog 151 #[.int .i64 op] w fun e w' => e = .returned (.tuple #[.int .i64 8, .int .i64 (k : Int)]) ∧ w' = w)
  (hl : ∀ (x y : Nat) (s t : Int) (w : World), x < 256 → y < 256 → (-128 ≤ s ∧ s < 128) → (-128 ≤ t ∧ t < 128) →
   Calls Tryz.prog 155 #[.int .i64 8, .int .i64 (k : Int), .int .u64 (x : Int), .int .u64 (y : Int), .int .i64 s, .int .i64 t] w fun e w' => e = .returned (.int .u64 ((Pl.u64 (laneZ 8 k x y s t) : Nat) : Int)) ∧ Below w.heap.size w w') :
  Calls Tryz.prog 89 #[.int .i64 op, .agg (cells a), .agg (cells b)] w fun e w' => e = .returned (.tuple #[.agg (cells (buildOn 0 8 (laneR 8 k a b) 16)), .int .i64 0]) ∧ Below w.heap.size w w' := by
 obtain ⟨hk0, hk9⟩ := hk
 have HO := Lib.hid ho
 have HL := Lib.hid hl
 clear ho hl
 go_enter Tryz.func89, Tryz.ntmps89
 skip
 go_wp2_with (first | (go_at_call 151; refine (HO.out _).mono ?_; rintro e w' ⟨rfl, rfl⟩) | (go_at_call 50; ((with_reducible refine (lanes8 _).mono ?_); rintro e w' ⟨rfl, rfl⟩)))
 rw [← cells_zero]
 obtain ⟨W, hW⟩ : ∃ W, W = (((((w.alloc (.cells (cells a) 23)).alloc (.cells (cells b) 23)).alloc (.cells (cells 0) 23)).alloc (.cells (cells 0) 23))) := ⟨_, rfl⟩
 have hA : W.heap[w.heap.size]? = some (.cells (cells a) 23 (0, 0)) := by rw [hW]; exact heap_alloc4_0 _ _ _ _ _
 have hB : W.heap[w.heap.size + 1]? = some (.cells (cells b) 23 (0, 0)) := by rw [hW]; exact heap_alloc4_1 _ _ _ _ _
 have hR : W.heap[w.heap.size + 2]? = some (.cells (cells 0) 23 (0, 0)) := by rw [hW]; exact heap_alloc4_2 _ _ _ _ _
 have hO : W.heap[w.heap.size + 3]? = some (.cells (cells 0) 23 (0, 0)) := by rw [hW]; exact heap_alloc4_3 _ _ _ _ _
 have hZ : Below w.heap.size w W := by rw [hW]; exact below_alloc4 _ _ _ _ _
 rw [← hW]
 clear hW
 go_loopw [30] (fun j wr => ∃ i : Nat, i ≤ 16 ∧ j = .int .i64 i ∧ St W (w.heap.size + 3) (buildOn 0 8 (laneR 8 k a b) i) wr) (fun j _ => 16 - (intOf j).toNat)
 case atStart => exact ⟨0, Nat.zero_le _, rfl, St.start hO⟩
 case round =>
  obtain ⟨i, hi, rfl, hs⟩ := hrel
  by_cases hlt : i < 16
  ·go_wp2_with fail
   refine region_do (St W (w.heap.size + 3) (buildOn 0 8 (laneR 8 k a b) i)) 8 (by kernel_rfl) (by kernel_rfl) hs.drew ?_
   simp only [List.take_succ_cons, List.take_zero, List.drop_succ_cons, List.drop_zero]
   repeat (first | (refine do_load rfl _ rfl _ rfl _ (fun u hS => hS.kb.get hA (by omega)) ?_; simp only [Act.put, zqA, zqB, zqC]) | (refine wpD_pure (v := ?_) rfl (fun u => ?_) ?_; rotate_left; (focus (go_simp; (try with_reducible rfl); done)); simp only [Act.put, zqA, zqB, zqC]))
   (refine wpD_call (v := .int .u64 (getN a 8 i : Nat)) rfl 82 ?_ (fun u => ?_) (fun u hS => ?_) ?_; rotate_left 1; (focus (go_simp; (try with_reducible rfl); done)); (focus (refine (get8z a _ i _ rfl (by omega)).mono ?_; rintro e u2 ⟨rfl, hb⟩; exact ⟨rfl, hS.below hb⟩)); simp only [Act.put, zqA, zqB, zqC])
   repeat (first | (refine do_load rfl _ rfl _ rfl _ (fun u hS => hS.kb.get hB (by omega)) ?_; simp only [Act.put, zqA, zqB, zqC]) | (refine wpD_pure (v := ?_) rfl (fun u => ?_) ?_; rotate_left; (focus (go_simp; (try with_reducible rfl); done)); simp only [Act.put, zqA, zqB, zqC]))
   (refine wpD_call (v := .int .u64 (getN b 8 i : Nat)) rfl 82 ?_ (fun u => ?_) (fun u hS => ?_) ?_; rotate_left 1; (focus (go_simp; (try with_reducible rfl); done)); (focus (refine (get8z b _ i _ rfl (by omega)).mono ?_; rintro e u2 ⟨rfl, hb⟩; exact ⟨rfl, hS.below hb⟩)); simp only [Act.put, zqA, zqB, zqC])
   repeat (refine wpD_pure (v := ?_) rfl (fun u => ?_) ?_; rotate_left; (focus (go_simp; (try with_reducible rfl); done)); simp only [Act.put, zqA, zqB, zqC])
   refine wpD_nil (fun wq hq => ?_)
   go_wp2_with fail
   refine region_do (St W (w.heap.size + 3) (buildOn 0 8 (laneR 8 k a b) i)) 8 (by kernel_rfl) (by kernel_rfl) hq.drew ?_
   simp only [List.take_succ_cons, List.take_zero, List.drop_succ_cons, List.drop_zero]
   repeat (first | (refine do_load rfl _ rfl _ rfl _ (fun u hS => hS.kb.get hA (by omega)) ?_; simp only [Act.put, zqA, zqB, zqC]) | (refine wpD_pure (v := ?_) rfl (fun u => ?_) ?_; rotate_left; (focus (go_simp; (try with_reducible rfl); done)); simp only [Act.put, zqA, zqB, zqC]))
   (refine wpD_call (v := .int .i64 (sgn 8 (getN a 8 i))) rfl 122 ?_ (fun u => ?_) (fun u hS => ?_) ?_; rotate_left 1; (focus (go_simp; (try with_reducible rfl); done)); (focus (refine (signed8z a _ i _ rfl (by omega)).mono ?_; rintro e u2 ⟨rfl, hb⟩; exact ⟨rfl, hS.below hb⟩)); simp only [Act.put, zqA, zqB, zqC])
   repeat (first | (refine do_load rfl _ rfl _ rfl _ (fun u hS => hS.kb.get hB (by omega)) ?_; simp only [Act.put, zqA, zqB, zqC]) | (refine wpD_pure (v := ?_) rfl (fun u => ?_) ?_; rotate_left; (focus (go_simp; (try with_reducible rfl); done)); simp only [Act.put, zqA, zqB, zqC]))
   (refine wpD_call (v := .int .i64 (sgn 8 (getN b 8 i))) rfl 122 ?_ (fun u => ?_) (fun u hS => ?_) ?_; rotate_left 1; (focus (go_simp; (try with_reducible rfl); done)); (focus (refine (signed8z b _ i _ rfl (by omega)).mono ?_; rintro e u2 ⟨rfl, hb⟩; exact ⟨rfl, hS.below hb⟩)); simp only [Act.put, zqA, zqB, zqC])
   repeat (refine wpD_pure (v := ?_) rfl (fun u => ?_) ?_; rotate_left; (focus (go_simp; (try with_reducible rfl); done)); simp only [Act.put, zqA, zqB, zqC])
   refine wpD_nil (fun wp hp => ?_)
   go_wp2_with fail
   refine region_do (St W (w.heap.size + 3) (buildOn 0 8 (laneR 8 k a b) i)) 11 (by kernel_rfl) (by kernel_rfl) hp.drew ?_
   simp only [List.take_succ_cons, List.take_zero, List.drop_succ_cons, List.drop_zero]
   repeat (first | (refine do_load rfl _ rfl _ rfl _ (fun u hS => hS.this) ?_; simp only [Act.put, zqA, zqB, zqC]) | (refine wpD_pure (v := ?_) rfl (fun u => ?_) ?_; rotate_left; (focus (go_simp; (try with_reducible rfl); done)); simp only [Act.put, zqA, zqB, zqC]))
   (refine wpD_call (v := .int .u64 ((laneR 8 k a b i : Nat) : Int)) rfl 155 ?_ (fun u => ?_) (fun u hS => ?_) ?_; rotate_left 1; (focus (go_simp; (try with_reducible rfl); done)); (focus (refine (HL.out _ _ _ _ _ (getN_lt a 8 i) (getN_lt b 8 i) (sgb8 a i) (sgb8 b i)).mono ?_; rintro e u2 ⟨rfl, hb⟩; exact ⟨rfl, hS.below hb⟩)); simp only [Act.put, zqA, zqB, zqC])
   (refine wpD_call (v := .agg (cells (setN (buildOn 0 8 (laneR 8 k a b) i) 8 i (laneR 8 k a b i)))) rfl 51 ?_ (fun u => ?_) (fun u hS => ?_) ?_; rotate_left 1; (focus (go_simp; (try with_reducible rfl); done)); (focus (refine (set8z _ _ _ i (laneR 8 k a b i) _ rfl rfl (by omega)).mono ?_; rintro e u2 ⟨rfl, hb⟩; exact ⟨rfl, hS.below hb⟩)); simp only [Act.put, zqA, zqB, zqC])
   repeat (refine wpD_pure (v := ?_) rfl (fun u => ?_) ?_; rotate_left; (focus (go_simp; (try with_reducible rfl); done)); simp only [Act.put, zqA, zqB, zqC])
   refine wpD_nil (fun wr2 hr => ?_)
   go_wp2_with ((with_reducible refine store_vec rfl _ _ rfl (w.heap.size + 3) _ rfl rfl _ hr.this ?_; intro wy hy))
   go_roundw
   case rel => exact ⟨i + 1, by omega, by go_num, hr.sets hy⟩
   case measure => (simp [intOf] <;> omega)
  ·obtain rfl : i = 16 := by omega
   have hR' := hs.kb.get hR (by omega)
   go_wp2_with (first | (with_reducible refine load_vec rfl _ rfl _ rfl _ hs.this ?_) | (with_reducible refine store_vec rfl _ _ rfl (w.heap.size + 2) _ rfl rfl _ hR' ?_; intro wq hq))
   exact bodyPost_ret (results_vec_tmp rfl _ _ (w.heap.size + 2) _ _ rfl rfl hq.this) rfl ⟨rfl, (hs.kb.to_below hZ (by omega)).trans (hq.below.mono (by omega))⟩
theorem sgb16 (v : Vec) (i : Nat) : -32768 ≤ sgn 16 (getN v 16 i) ∧ sgn 16 (getN v 16 i) < 32768 := by
 have h : getN v 16 i < 65536 := getN_lt v 16 i
 have hs : sgn 16 (getN v 16 i) = if getN v 16 i < 32768 then (getN v 16 i : Int) else (getN v 16 i : Int) - 65536 := rfl
 rw [hs]; split <;> omega
set_option maxRecDepth 100000 in
set_option maxHeartbeats 2000000 in
theorem bin_w16 (op : Int) (k : Nat) (a b : Vec) (w : World) (hk : 14 ≤ k ∧ k ≤ 27)
  (ho : ∀ w, Calls Tryz.prog 151 #[.int .i64 op] w fun e w' => e = .returned (.tuple #[.int .i64 16, .int .i64 (k : Int)]) ∧ w' = w)
  (hl : ∀ (x y : Nat) (s t : Int) (w : World), x < 65536 → y < 65536 → (-32768 ≤ s ∧ s < 32768) → (-32768 ≤ t ∧ t < 32768) →
   Calls Tryz.prog 155 #[.int .i64 16, .int .i64 (k : Int), .int .u64 (x : Int), .int .u64 (y : Int), .int .i64 s, .int .i64 t] w fun e w' => e = .returned (.int .u64 ((Pl.u64 (laneZ 16 k x y s t) : Nat) : Int)) ∧ Below w.heap.size w w') :
  Calls Tryz.prog 89 #[.int .i64 op, .agg (cells a), .agg (cells b)] w fun e w' => e = .returned (.tuple #[.agg (cells (buildOn 0 16 (laneR 16 k a b) 8)), .int .i64 0]) ∧ Below w.heap.size w w' := by
 obtain ⟨hk0, hk9⟩ := hk
 have HO := Lib.hid ho
 have HL := Lib.hid hl
 clear ho hl
 go_enter Tryz.func89, Tryz.ntmps89
 skip
 go_wp2_with (first | (go_at_call 151; refine (HO.out _).mono ?_; rintro e w' ⟨rfl, rfl⟩) | (go_at_call 50; ((with_reducible refine (lanes16 _).mono ?_); rintro e w' ⟨rfl, rfl⟩)))
 rw [← cells_zero]
 obtain ⟨W, hW⟩ : ∃ W, W = (((((w.alloc (.cells (cells a) 23)).alloc (.cells (cells b) 23)).alloc (.cells (cells 0) 23)).alloc (.cells (cells 0) 23))) := ⟨_, rfl⟩
 have hA : W.heap[w.heap.size]? = some (.cells (cells a) 23 (0, 0)) := by rw [hW]; exact heap_alloc4_0 _ _ _ _ _
 have hB : W.heap[w.heap.size + 1]? = some (.cells (cells b) 23 (0, 0)) := by rw [hW]; exact heap_alloc4_1 _ _ _ _ _
 have hR : W.heap[w.heap.size + 2]? = some (.cells (cells 0) 23 (0, 0)) := by rw [hW]; exact heap_alloc4_2 _ _ _ _ _
 have hO : W.heap[w.heap.size + 3]? = some (.cells (cells 0) 23 (0, 0)) := by rw [hW]; exact heap_alloc4_3 _ _ _ _ _
 have hZ : Below w.heap.size w W := by rw [hW]; exact below_alloc4 _ _ _ _ _
 rw [← hW]
 clear hW
 go_loopw [30] (fun j wr => ∃ i : Nat, i ≤ 8 ∧ j = .int .i64 i ∧ St W (w.heap.size + 3) (buildOn 0 16 (laneR 16 k a b) i) wr) (fun j _ => 8 - (intOf j).toNat)
 case atStart => exact ⟨0, Nat.zero_le _, rfl, St.start hO⟩
 case round =>
  obtain ⟨i, hi, rfl, hs⟩ := hrel
  by_cases hlt : i < 8
  ·go_wp2_with fail
   refine region_do (St W (w.heap.size + 3) (buildOn 0 16 (laneR 16 k a b) i)) 8 (by kernel_rfl) (by kernel_rfl) hs.drew ?_
   simp only [List.take_succ_cons, List.take_zero, List.drop_succ_cons, List.drop_zero]
   repeat (first | (refine do_load rfl _ rfl _ rfl _ (fun u hS => hS.kb.get hA (by omega)) ?_; simp only [Act.put, zqA, zqB, zqC]) | (refine wpD_pure (v := ?_) rfl (fun u => ?_) ?_; rotate_left; (focus (go_simp; (try with_reducible rfl); done)); simp only [Act.put, zqA, zqB, zqC]))
   (refine wpD_call (v := .int .u64 (getN a 16 i : Nat)) rfl 82 ?_ (fun u => ?_) (fun u hS => ?_) ?_; rotate_left 1; (focus (go_simp; (try with_reducible rfl); done)); (focus (refine (get16z a _ i _ rfl (by omega)).mono ?_; rintro e u2 ⟨rfl, hb⟩; exact ⟨rfl, hS.below hb⟩)); simp only [Act.put, zqA, zqB, zqC])
   repeat (first | (refine do_load rfl _ rfl _ rfl _ (fun u hS => hS.kb.get hB (by omega)) ?_; simp only [Act.put, zqA, zqB, zqC]) | (refine wpD_pure (v := ?_) rfl (fun u => ?_) ?_; rotate_left; (focus (go_simp; (try with_reducible rfl); done)); simp only [Act.put, zqA, zqB, zqC]))
   (refine wpD_call (v := .int .u64 (getN b 16 i : Nat)) rfl 82 ?_ (fun u => ?_) (fun u hS => ?_) ?_; rotate_left 1; (focus (go_simp; (try with_reducible rfl); done)); (focus (refine (get16z b _ i _ rfl (by omega)).mono ?_; rintro e u2 ⟨rfl, hb⟩; exact ⟨rfl, hS.below hb⟩)); simp only [Act.put, zqA, zqB, zqC])
   repeat (refine wpD_pure (v := ?_) rfl (fun u => ?_) ?_; rotate_left; (focus (go_simp; (try with_reducible rfl); done)); simp only [Act.put, zqA, zqB, zqC])
   refine wpD_nil (fun wq hq => ?_)
   go_wp2_with fail
   refine region_do (St W (w.heap.size + 3) (buildOn 0 16 (laneR 16 k a b) i)) 8 (by kernel_rfl) (by kernel_rfl) hq.drew ?_
   simp only [List.take_succ_cons, List.take_zero, List.drop_succ_cons, List.drop_zero]
   repeat (first | (refine do_load rfl _ rfl _ rfl _ (fun u hS => hS.kb.get hA (by omega)) ?_; simp only [Act.put, zqA, zqB, zqC]) | (refine wpD_pure (v := ?_) rfl (fun u => ?_) ?_; rotate_left; (focus (go_simp; (try with_reducible rfl); done)); simp only [Act.put, zqA, zqB, zqC]))
   (refine wpD_call (v := .int .i64 (sgn 16 (getN a 16 i))) rfl 122 ?_ (fun u => ?_) (fun u hS => ?_) ?_; rotate_left 1; (focus (go_simp; (try with_reducible rfl); done)); (focus (refine (signed16z a _ i _ rfl (by omega)).mono ?_; rintro e u2 ⟨rfl, hb⟩; exact ⟨rfl, hS.below hb⟩)); simp only [Act.put, zqA, zqB, zqC])
   repeat (first | (refine do_load rfl _ rfl _ rfl _ (fun u hS => hS.kb.get hB (by omega)) ?_; simp only [Act.put, zqA, zqB, zqC]) | (refine wpD_pure (v := ?_) rfl (fun u => ?_) ?_; rotate_left; (focus (go_simp; (try with_reducible rfl); done)); simp only [Act.put, zqA, zqB, zqC]))
   (refine wpD_call (v := .int .i64 (sgn 16 (getN b 16 i))) rfl 122 ?_ (fun u => ?_) (fun u hS => ?_) ?_; rotate_left 1; (focus (go_simp; (try with_reducible rfl); done)); (focus (refine (signed16z b _ i _ rfl (by omega)).mono ?_; rintro e u2 ⟨rfl, hb⟩; exact ⟨rfl, hS.below hb⟩)); simp only [Act.put, zqA, zqB, zqC])
   repeat (refine wpD_pure (v := ?_) rfl (fun u => ?_) ?_; rotate_left; (focus (go_simp; (try with_reducible rfl); done)); simp only [Act.put, zqA, zqB, zqC])
   refine wpD_nil (fun wp hp => ?_)
   go_wp2_with fail
   refine region_do (St W (w.heap.size + 3) (buildOn 0 16 (laneR 16 k a b) i)) 11 (by kernel_rfl) (by kernel_rfl) hp.drew ?_
   simp only [List.take_succ_cons, List.take_zero, List.drop_succ_cons, List.drop_zero]
   repeat (first | (refine do_load rfl _ rfl _ rfl _ (fun u hS => hS.this) ?_; simp only [Act.put, zqA, zqB, zqC]) | (refine wpD_pure (v := ?_) rfl (fun u => ?_) ?_; rotate_left; (focus (go_simp; (try with_reducible rfl); done)); simp only [Act.put, zqA, zqB, zqC]))
   (refine wpD_call (v := .int .u64 ((laneR 16 k a b i : Nat) : Int)) rfl 155 ?_ (fun u => ?_) (fun u hS => ?_) ?_; rotate_left 1; (focus (go_simp; (try with_reducible rfl); done)); (focus (refine (HL.out _ _ _ _ _ (getN_lt a 16 i) (getN_lt b 16 i) (sgb16 a i) (sgb16 b i)).mono ?_; rintro e u2 ⟨rfl, hb⟩; exact ⟨rfl, hS.below hb⟩)); simp only [Act.put, zqA, zqB, zqC])
   (refine wpD_call (v := .agg (cells (setN (buildOn 0 16 (laneR 16 k a b) i) 16 i (laneR 16 k a b i)))) rfl 51 ?_ (fun u => ?_) (fun u hS => ?_) ?_; rotate_left 1; (focus (go_simp; (try with_reducible rfl); done)); (focus (refine (set16z _ _ _ i (laneR 16 k a b i) _ rfl rfl (by omega)).mono ?_; rintro e u2 ⟨rfl, hb⟩; exact ⟨rfl, hS.below hb⟩)); simp only [Act.put, zqA, zqB, zqC])
   repeat (refine wpD_pure (v := ?_) rfl (fun u => ?_) ?_; rotate_left; (focus (go_simp; (try with_reducible rfl); done)); simp only [Act.put, zqA, zqB, zqC])
   refine wpD_nil (fun wr2 hr => ?_)
   go_wp2_with ((with_reducible refine store_vec rfl _ _ rfl (w.heap.size + 3) _ rfl rfl _ hr.this ?_; intro wy hy))
   go_roundw
   case rel => exact ⟨i + 1, by omega, by go_num, hr.sets hy⟩
   case measure => (simp [intOf] <;> omega)
  ·obtain rfl : i = 8 := by omega
   have hR' := hs.kb.get hR (by omega)
   go_wp2_with (first | (with_reducible refine load_vec rfl _ rfl _ rfl _ hs.this ?_) | (with_reducible refine store_vec rfl _ _ rfl (w.heap.size + 2) _ rfl rfl _ hR' ?_; intro wq hq))
   exact bodyPost_ret (results_vec_tmp rfl _ _ (w.heap.size + 2) _ _ rfl rfl hq.this) rfl ⟨rfl, (hs.kb.to_below hZ (by omega)).trans (hq.below.mono (by omega))⟩
theorem sgb32 (v : Vec) (i : Nat) : -2147483648 ≤ sgn 32 (getN v 32 i) ∧ sgn 32 (getN v 32 i) < 2147483648 := by
 have h : getN v 32 i < 4294967296 := getN_lt v 32 i
 have hs : sgn 32 (getN v 32 i) = if getN v 32 i < 2147483648 then (getN v 32 i : Int) else (getN v 32 i : Int) - 4294967296 := rfl
 rw [hs]; split <;> omega
set_option maxRecDepth 100000 in
set_option maxHeartbeats 2000000 in
theorem bin_w32 (op : Int) (k : Nat) (a b : Vec) (w : World) (hk : 14 ≤ k ∧ k ≤ 27)
  (ho : ∀ w, Calls Tryz.prog 151 #[.int .i64 op] w fun e w' => e = .returned (.tuple #[.int .i64 32, .int .i64 (k : Int)]) ∧ w' = w)
  (hl : ∀ (x y : Nat) (s t : Int) (w : World), x < 4294967296 → y < 4294967296 → (-2147483648 ≤ s ∧ s < 2147483648) → (-2147483648 ≤ t ∧ t < 2147483648) →
   Calls Tryz.prog 155 #[.int .i64 32, .int .i64 (k : Int), .int .u64 (x : Int), .int .u64 (y : Int), .int .i64 s, .int .i64 t] w fun e w' => e = .returned (.int .u64 ((Pl.u64 (laneZ 32 k x y s t) : Nat) : Int)) ∧ Below w.heap.size w w') :
  Calls Tryz.prog 89 #[.int .i64 op, .agg (cells a), .agg (cells b)] w fun e w' => e = .returned (.tuple #[.agg (cells (buildOn 0 32 (laneR 32 k a b) 4)), .int .i64 0]) ∧ Below w.heap.size w w' := by
 obtain ⟨hk0, hk9⟩ := hk
 have HO := Lib.hid ho
 have HL := Lib.hid hl
 clear ho hl
 go_enter Tryz.func89, Tryz.ntmps89
 skip
 go_wp2_with (first | (go_at_call 151; refine (HO.out _).mono ?_; rintro e w' ⟨rfl, rfl⟩) | (go_at_call 50; ((with_reducible refine (lanes32 _).mono ?_); rintro e w' ⟨rfl, rfl⟩)))
 rw [← cells_zero]
 obtain ⟨W, hW⟩ : ∃ W, W = (((((w.alloc (.cells (cells a) 23)).alloc (.cells (cells b) 23)).alloc (.cells (cells 0) 23)).alloc (.cells (cells 0) 23))) := ⟨_, rfl⟩
 have hA : W.heap[w.heap.size]? = some (.cells (cells a) 23 (0, 0)) := by rw [hW]; exact heap_alloc4_0 _ _ _ _ _
 have hB : W.heap[w.heap.size + 1]? = some (.cells (cells b) 23 (0, 0)) := by rw [hW]; exact heap_alloc4_1 _ _ _ _ _
 have hR : W.heap[w.heap.size + 2]? = some (.cells (cells 0) 23 (0, 0)) := by rw [hW]; exact heap_alloc4_2 _ _ _ _ _
 have hO : W.heap[w.heap.size + 3]? = some (.cells (cells 0) 23 (0, 0)) := by rw [hW]; exact heap_alloc4_3 _ _ _ _ _
 have hZ : Below w.heap.size w W := by rw [hW]; exact below_alloc4 _ _ _ _ _
 rw [← hW]
 clear hW
 go_loopw [30] (fun j wr => ∃ i : Nat, i ≤ 4 ∧ j = .int .i64 i ∧ St W (w.heap.size + 3) (buildOn 0 32 (laneR 32 k a b) i) wr) (fun j _ => 4 - (intOf j).toNat)
 case atStart => exact ⟨0, Nat.zero_le _, rfl, St.start hO⟩
 case round =>
  obtain ⟨i, hi, rfl, hs⟩ := hrel
  by_cases hlt : i < 4
  ·go_wp2_with fail
   refine region_do (St W (w.heap.size + 3) (buildOn 0 32 (laneR 32 k a b) i)) 8 (by kernel_rfl) (by kernel_rfl) hs.drew ?_
   simp only [List.take_succ_cons, List.take_zero, List.drop_succ_cons, List.drop_zero]
   repeat (first | (refine do_load rfl _ rfl _ rfl _ (fun u hS => hS.kb.get hA (by omega)) ?_; simp only [Act.put, zqA, zqB, zqC]) | (refine wpD_pure (v := ?_) rfl (fun u => ?_) ?_; rotate_left; (focus (go_simp; (try with_reducible rfl); done)); simp only [Act.put, zqA, zqB, zqC]))
   (refine wpD_call (v := .int .u64 (getN a 32 i : Nat)) rfl 82 ?_ (fun u => ?_) (fun u hS => ?_) ?_; rotate_left 1; (focus (go_simp; (try with_reducible rfl); done)); (focus (refine (get32z a _ i _ rfl (by omega)).mono ?_; rintro e u2 ⟨rfl, hb⟩; exact ⟨rfl, hS.below hb⟩)); simp only [Act.put, zqA, zqB, zqC])
   repeat (first | (refine do_load rfl _ rfl _ rfl _ (fun u hS => hS.kb.get hB (by omega)) ?_; simp only [Act.put, zqA, zqB, zqC]) | (refine wpD_pure (v := ?_) rfl (fun u => ?_) ?_; rotate_left; (focus (go_simp; (try with_reducible rfl); done)); simp only [Act.put, zqA, zqB, zqC]))
   (refine wpD_call (v := .int .u64 (getN b 32 i : Nat)) rfl 82 ?_ (fun u => ?_) (fun u hS => ?_) ?_; rotate_left 1; (focus (go_simp; (try with_reducible rfl); done)); (focus (refine (get32z b _ i _ rfl (by omega)).mono ?_; rintro e u2 ⟨rfl, hb⟩; exact ⟨rfl, hS.below hb⟩)); simp only [Act.put, zqA, zqB, zqC])
   repeat (refine wpD_pure (v := ?_) rfl (fun u => ?_) ?_; rotate_left; (focus (go_simp; (try with_reducible rfl); done)); simp only [Act.put, zqA, zqB, zqC])
   refine wpD_nil (fun wq hq => ?_)
   go_wp2_with fail
   refine region_do (St W (w.heap.size + 3) (buildOn 0 32 (laneR 32 k a b) i)) 8 (by kernel_rfl) (by kernel_rfl) hq.drew ?_
   simp only [List.take_succ_cons, List.take_zero, List.drop_succ_cons, List.drop_zero]
   repeat (first | (refine do_load rfl _ rfl _ rfl _ (fun u hS => hS.kb.get hA (by omega)) ?_; simp only [Act.put, zqA, zqB, zqC]) | (refine wpD_pure (v := ?_) rfl (fun u => ?_) ?_; rotate_left; (focus (go_simp; (try with_reducible rfl); done)); simp only [Act.put, zqA, zqB, zqC]))
   (refine wpD_call (v := .int .i64 (sgn 32 (getN a 32 i))) rfl 122 ?_ (fun u => ?_) (fun u hS => ?_) ?_; rotate_left 1; (focus (go_simp; (try with_reducible rfl); done)); (focus (refine (signed32z a _ i _ rfl (by omega)).mono ?_; rintro e u2 ⟨rfl, hb⟩; exact ⟨rfl, hS.below hb⟩)); simp only [Act.put, zqA, zqB, zqC])
   repeat (first | (refine do_load rfl _ rfl _ rfl _ (fun u hS => hS.kb.get hB (by omega)) ?_; simp only [Act.put, zqA, zqB, zqC]) | (refine wpD_pure (v := ?_) rfl (fun u => ?_) ?_; rotate_left; (focus (go_simp; (try with_reducible rfl); done)); simp only [Act.put, zqA, zqB, zqC]))
   (refine wpD_call (v := .int .i64 (sgn 32 (getN b 32 i))) rfl 122 ?_ (fun u => ?_) (fun u hS => ?_) ?_; rotate_left 1; (focus (go_simp; (try with_reducible rfl); done)); (focus (refine (signed32z b _ i _ rfl (by omega)).mono ?_; rintro e u2 ⟨rfl, hb⟩; exact ⟨rfl, hS.below hb⟩)); simp only [Act.put, zqA, zqB, zqC])
   repeat (refine wpD_pure (v := ?_) rfl (fun u => ?_) ?_; rotate_left; (focus (go_simp; (try with_reducible rfl); done)); simp only [Act.put, zqA, zqB, zqC])
   refine wpD_nil (fun wp hp => ?_)
   go_wp2_with fail
   refine region_do (St W (w.heap.size + 3) (buildOn 0 32 (laneR 32 k a b) i)) 11 (by kernel_rfl) (by kernel_rfl) hp.drew ?_
   simp only [List.take_succ_cons, List.take_zero, List.drop_succ_cons, List.drop_zero]
   repeat (first | (refine do_load rfl _ rfl _ rfl _ (fun u hS => hS.this) ?_; simp only [Act.put, zqA, zqB, zqC]) | (refine wpD_pure (v := ?_) rfl (fun u => ?_) ?_; rotate_left; (focus (go_simp; (try with_reducible rfl); done)); simp only [Act.put, zqA, zqB, zqC]))
   (refine wpD_call (v := .int .u64 ((laneR 32 k a b i : Nat) : Int)) rfl 155 ?_ (fun u => ?_) (fun u hS => ?_) ?_; rotate_left 1; (focus (go_simp; (try with_reducible rfl); done)); (focus (refine (HL.out _ _ _ _ _ (getN_lt a 32 i) (getN_lt b 32 i) (sgb32 a i) (sgb32 b i)).mono ?_; rintro e u2 ⟨rfl, hb⟩; exact ⟨rfl, hS.below hb⟩)); simp only [Act.put, zqA, zqB, zqC])
   (refine wpD_call (v := .agg (cells (setN (buildOn 0 32 (laneR 32 k a b) i) 32 i (laneR 32 k a b i)))) rfl 51 ?_ (fun u => ?_) (fun u hS => ?_) ?_; rotate_left 1; (focus (go_simp; (try with_reducible rfl); done)); (focus (refine (set32z _ _ _ i (laneR 32 k a b i) _ rfl rfl (by omega)).mono ?_; rintro e u2 ⟨rfl, hb⟩; exact ⟨rfl, hS.below hb⟩)); simp only [Act.put, zqA, zqB, zqC])
   repeat (refine wpD_pure (v := ?_) rfl (fun u => ?_) ?_; rotate_left; (focus (go_simp; (try with_reducible rfl); done)); simp only [Act.put, zqA, zqB, zqC])
   refine wpD_nil (fun wr2 hr => ?_)
   go_wp2_with ((with_reducible refine store_vec rfl _ _ rfl (w.heap.size + 3) _ rfl rfl _ hr.this ?_; intro wy hy))
   go_roundw
   case rel => exact ⟨i + 1, by omega, by go_num, hr.sets hy⟩
   case measure => (simp [intOf] <;> omega)
  ·obtain rfl : i = 4 := by omega
   have hR' := hs.kb.get hR (by omega)
   go_wp2_with (first | (with_reducible refine load_vec rfl _ rfl _ rfl _ hs.this ?_) | (with_reducible refine store_vec rfl _ _ rfl (w.heap.size + 2) _ rfl rfl _ hR' ?_; intro wq hq))
   exact bodyPost_ret (results_vec_tmp rfl _ _ (w.heap.size + 2) _ _ rfl rfl hq.this) rfl ⟨rfl, (hs.kb.to_below hZ (by omega)).trans (hq.below.mono (by omega))⟩
theorem sgb64 (v : Vec) (i : Nat) : -9223372036854775808 ≤ sgn 64 (getN v 64 i) ∧ sgn 64 (getN v 64 i) < 9223372036854775808 := by
 have h : getN v 64 i < 18446744073709551616 := getN_lt v 64 i
 have hs : sgn 64 (getN v 64 i) = if getN v 64 i < 9223372036854775808 then (getN v 64 i : Int) else (getN v 64 i : Int) - 18446744073709551616 := rfl
 rw [hs]; split <;> omega
set_option maxRecDepth 100000 in
set_option maxHeartbeats 2000000 in
theorem bin_w64 (op : Int) (k : Nat) (a b : Vec) (w : World) (hk : 14 ≤ k ∧ k ≤ 27)
  (ho : ∀ w, Calls Tryz.prog 151 #[.int .i64 op] w fun e w' => e = .returned (.tuple #[.int .i64 64, .int .i64 (k : Int)]) ∧ w' = w)
  (hl : ∀ (x y : Nat) (s t : Int) (w : World), x < 18446744073709551616 → y < 18446744073709551616 → (-9223372036854775808 ≤ s ∧ s < 9223372036854775808) → (-9223372036854775808 ≤ t ∧ t < 9223372036854775808) →
   Calls Tryz.prog 155 #[.int .i64 64, .int .i64 (k : Int), .int .u64 (x : Int), .int .u64 (y : Int), .int .i64 s, .int .i64 t] w fun e w' => e = .returned (.int .u64 ((Pl.u64 (laneZ 64 k x y s t) : Nat) : Int)) ∧ Below w.heap.size w w') :
  Calls Tryz.prog 89 #[.int .i64 op, .agg (cells a), .agg (cells b)] w fun e w' => e = .returned (.tuple #[.agg (cells (buildOn 0 64 (laneR 64 k a b) 2)), .int .i64 0]) ∧ Below w.heap.size w w' := by
 obtain ⟨hk0, hk9⟩ := hk
 have HO := Lib.hid ho
 have HL := Lib.hid hl
 clear ho hl
 go_enter Tryz.func89, Tryz.ntmps89
 skip
 go_wp2_with (first | (go_at_call 151; refine (HO.out _).mono ?_; rintro e w' ⟨rfl, rfl⟩) | (go_at_call 50; ((with_reducible refine (lanes64 _).mono ?_); rintro e w' ⟨rfl, rfl⟩)))
 rw [← cells_zero]
 obtain ⟨W, hW⟩ : ∃ W, W = (((((w.alloc (.cells (cells a) 23)).alloc (.cells (cells b) 23)).alloc (.cells (cells 0) 23)).alloc (.cells (cells 0) 23))) := ⟨_, rfl⟩
 have hA : W.heap[w.heap.size]? = some (.cells (cells a) 23 (0, 0)) := by rw [hW]; exact heap_alloc4_0 _ _ _ _ _
 have hB : W.heap[w.heap.size + 1]? = some (.cells (cells b) 23 (0, 0)) := by rw [hW]; exact heap_alloc4_1 _ _ _ _ _
 have hR : W.heap[w.heap.size + 2]? = some (.cells (cells 0) 23 (0, 0)) := by rw [hW]; exact heap_alloc4_2 _ _ _ _ _
 have hO : W.heap[w.heap.size + 3]? = some (.cells (cells 0) 23 (0, 0)) := by rw [hW]; exact heap_alloc4_3 _ _ _ _ _
 have hZ : Below w.heap.size w W := by rw [hW]; exact below_alloc4 _ _ _ _ _
 rw [← hW]
 clear hW
 go_loopw [30] (fun j wr => ∃ i : Nat, i ≤ 2 ∧ j = .int .i64 i ∧ St W (w.heap.size + 3) (buildOn 0 64 (laneR 64 k a b) i) wr) (fun j _ => 2 - (intOf j).toNat)
 case atStart => exact ⟨0, Nat.zero_le _, rfl, St.start hO⟩
 case round =>
  obtain ⟨i, hi, rfl, hs⟩ := hrel
  by_cases hlt : i < 2
  ·go_wp2_with fail
   refine region_do (St W (w.heap.size + 3) (buildOn 0 64 (laneR 64 k a b) i)) 8 (by kernel_rfl) (by kernel_rfl) hs.drew ?_
   simp only [List.take_succ_cons, List.take_zero, List.drop_succ_cons, List.drop_zero]
   repeat (first | (refine do_load rfl _ rfl _ rfl _ (fun u hS => hS.kb.get hA (by omega)) ?_; simp only [Act.put, zqA, zqB, zqC]) | (refine wpD_pure (v := ?_) rfl (fun u => ?_) ?_; rotate_left; (focus (go_simp; (try with_reducible rfl); done)); simp only [Act.put, zqA, zqB, zqC]))
   (refine wpD_call (v := .int .u64 (getN a 64 i : Nat)) rfl 82 ?_ (fun u => ?_) (fun u hS => ?_) ?_; rotate_left 1; (focus (go_simp; (try with_reducible rfl); done)); (focus (refine (get64z a _ i _ rfl (by omega)).mono ?_; rintro e u2 ⟨rfl, hb⟩; exact ⟨rfl, hS.below hb⟩)); simp only [Act.put, zqA, zqB, zqC])
   repeat (first | (refine do_load rfl _ rfl _ rfl _ (fun u hS => hS.kb.get hB (by omega)) ?_; simp only [Act.put, zqA, zqB, zqC]) | (refine wpD_pure (v := ?_) rfl (fun u => ?_) ?_; rotate_left; (focus (go_simp; (try with_reducible rfl); done)); simp only [Act.put, zqA, zqB, zqC]))
   (refine wpD_call (v := .int .u64 (getN b 64 i : Nat)) rfl 82 ?_ (fun u => ?_) (fun u hS => ?_) ?_; rotate_left 1; (focus (go_simp; (try with_reducible rfl); done)); (focus (refine (get64z b _ i _ rfl (by omega)).mono ?_; rintro e u2 ⟨rfl, hb⟩; exact ⟨rfl, hS.below hb⟩)); simp only [Act.put, zqA, zqB, zqC])
   repeat (refine wpD_pure (v := ?_) rfl (fun u => ?_) ?_; rotate_left; (focus (go_simp; (try with_reducible rfl); done)); simp only [Act.put, zqA, zqB, zqC])
   refine wpD_nil (fun wq hq => ?_)
   go_wp2_with fail
   refine region_do (St W (w.heap.size + 3) (buildOn 0 64 (laneR 64 k a b) i)) 8 (by kernel_rfl) (by kernel_rfl) hq.drew ?_
   simp only [List.take_succ_cons, List.take_zero, List.drop_succ_cons, List.drop_zero]
   repeat (first | (refine do_load rfl _ rfl _ rfl _ (fun u hS => hS.kb.get hA (by omega)) ?_; simp only [Act.put, zqA, zqB, zqC]) | (refine wpD_pure (v := ?_) rfl (fun u => ?_) ?_; rotate_left; (focus (go_simp; (try with_reducible rfl); done)); simp only [Act.put, zqA, zqB, zqC]))
   (refine wpD_call (v := .int .i64 (sgn 64 (getN a 64 i))) rfl 122 ?_ (fun u => ?_) (fun u hS => ?_) ?_; rotate_left 1; (focus (go_simp; (try with_reducible rfl); done)); (focus (refine (signed64z a _ i _ rfl (by omega)).mono ?_; rintro e u2 ⟨rfl, hb⟩; exact ⟨rfl, hS.below hb⟩)); simp only [Act.put, zqA, zqB, zqC])
   repeat (first | (refine do_load rfl _ rfl _ rfl _ (fun u hS => hS.kb.get hB (by omega)) ?_; simp only [Act.put, zqA, zqB, zqC]) | (refine wpD_pure (v := ?_) rfl (fun u => ?_) ?_; rotate_left; (focus (go_simp; (try with_reducible rfl); done)); simp only [Act.put, zqA, zqB, zqC]))
   (refine wpD_call (v := .int .i64 (sgn 64 (getN b 64 i))) rfl 122 ?_ (fun u => ?_) (fun u hS => ?_) ?_; rotate_left 1; (focus (go_simp; (try with_reducible rfl); done)); (focus (refine (signed64z b _ i _ rfl (by omega)).mono ?_; rintro e u2 ⟨rfl, hb⟩; exact ⟨rfl, hS.below hb⟩)); simp only [Act.put, zqA, zqB, zqC])
   repeat (refine wpD_pure (v := ?_) rfl (fun u => ?_) ?_; rotate_left; (focus (go_simp; (try with_reducible rfl); done)); simp only [Act.put, zqA, zqB, zqC])
   refine wpD_nil (fun wp hp => ?_)
   go_wp2_with fail
   refine region_do (St W (w.heap.size + 3) (buildOn 0 64 (laneR 64 k a b) i)) 11 (by kernel_rfl) (by kernel_rfl) hp.drew ?_
   simp only [List.take_succ_cons, List.take_zero, List.drop_succ_cons, List.drop_zero]
   repeat (first | (refine do_load rfl _ rfl _ rfl _ (fun u hS => hS.this) ?_; simp only [Act.put, zqA, zqB, zqC]) | (refine wpD_pure (v := ?_) rfl (fun u => ?_) ?_; rotate_left; (focus (go_simp; (try with_reducible rfl); done)); simp only [Act.put, zqA, zqB, zqC]))
   (refine wpD_call (v := .int .u64 ((laneR 64 k a b i : Nat) : Int)) rfl 155 ?_ (fun u => ?_) (fun u hS => ?_) ?_; rotate_left 1; (focus (go_simp; (try with_reducible rfl); done)); (focus (refine (HL.out _ _ _ _ _ (getN_lt a 64 i) (getN_lt b 64 i) (sgb64 a i) (sgb64 b i)).mono ?_; rintro e u2 ⟨rfl, hb⟩; exact ⟨rfl, hS.below hb⟩)); simp only [Act.put, zqA, zqB, zqC])
   (refine wpD_call (v := .agg (cells (setN (buildOn 0 64 (laneR 64 k a b) i) 64 i (laneR 64 k a b i)))) rfl 51 ?_ (fun u => ?_) (fun u hS => ?_) ?_; rotate_left 1; (focus (go_simp; (try with_reducible rfl); done)); (focus (refine (set64z _ _ _ i (laneR 64 k a b i) _ rfl rfl (by omega)).mono ?_; rintro e u2 ⟨rfl, hb⟩; exact ⟨rfl, hS.below hb⟩)); simp only [Act.put, zqA, zqB, zqC])
   repeat (refine wpD_pure (v := ?_) rfl (fun u => ?_) ?_; rotate_left; (focus (go_simp; (try with_reducible rfl); done)); simp only [Act.put, zqA, zqB, zqC])
   refine wpD_nil (fun wr2 hr => ?_)
   go_wp2_with ((with_reducible refine store_vec rfl _ _ rfl (w.heap.size + 3) _ rfl rfl _ hr.this ?_; intro wy hy))
   go_roundw
   case rel => exact ⟨i + 1, by omega, by go_num, hr.sets hy⟩
   case measure => (simp [intOf] <;> omega)
  ·obtain rfl : i = 2 := by omega
   have hR' := hs.kb.get hR (by omega)
   go_wp2_with (first | (with_reducible refine load_vec rfl _ rfl _ rfl _ hs.this ?_) | (with_reducible refine store_vec rfl _ _ rfl (w.heap.size + 2) _ rfl rfl _ hR' ?_; intro wq hq))
   exact bodyPost_ret (results_vec_tmp rfl _ _ (w.heap.size + 2) _ _ rfl rfl hq.this) rfl ⟨rfl, (hs.kb.to_below hZ (by omega)).trans (hq.below.mono (by omega))⟩
end Go.Proofs.YtebpijlmeemfaaaGreatDoor
end
section
namespace Pc
open Go
def reps (c : Nat) : Nat → Nat
 | 0 => 0
 | k + 1 => c + 256 * reps c k
def f1 (k x : Nat) : Nat := (x / 2 &&& reps 85 k) + (x &&& reps 85 k)
def f2 (k x : Nat) : Nat := (x / 4 &&& reps 51 k) + (x &&& reps 51 k)
def f3 (k x : Nat) : Nat := (x / 16 + x) &&& reps 15 k
def t1 (b : Nat) : Nat := (b / 2 &&& 85) + (b &&& 85)
def t2 (b : Nat) : Nat := (b / 4 &&& 51) + (b &&& 51)
def t3 (b : Nat) : Nat := (b / 16 + b) &&& 15
end Pc
end
section
namespace Pl
def unR3 (w k : Nat) (v : Vec) (i : Nat) : Nat := if k = 2 then Go.Lib.onesCount (getN v w i) else unR w k v i
def vu3 (w k : Nat) (v : Vec) : Vec := buildOn v w (unR3 w k v) (128 / w)
end Pl
end
section
namespace Pl
def shR (w k p : Nat) (v : Vec) (i : Nat) : Nat := if k = 11 then u64 ((getN v w i : Int) * 2 ^ p) else if k = 12 then u64 (sgn w (getN v w i) / 2 ^ p) else u64 ((getN v w i : Int) / 2 ^ p)
def vs (w k p : Nat) (v : Vec) : Vec := buildOn v w (shR w k p v) (128 / w)
end Pl
end
section
namespace Go.Proofs.YtebpijlmeemfaaaGreatDoor
open Go.RowKit Pl
theorem bin_8_14 (a b : Vec) (w : World) : Calls Tryz.prog 89 #[.int .i64 64878, .agg (cells a), .agg (cells b)] w fun e w' => e = .returned (.tuple #[.agg (cells (vb 8 14 a b)), .int .i64 0]) ∧ Below w.heap.size w w' :=
 bin_w8 64878 14 a b w (by decide) kind_64878 (fun x y s t w hx hy hs ht => lane_8_14 x y s t w hx hy hs ht)
theorem bin_8_15 (a b : Vec) (w : World) : Calls Tryz.prog 89 #[.int .i64 64879, .agg (cells a), .agg (cells b)] w fun e w' => e = .returned (.tuple #[.agg (cells (vb 8 15 a b)), .int .i64 0]) ∧ Below w.heap.size w w' :=
 bin_w8 64879 15 a b w (by decide) kind_64879 (fun x y s t w hx hy hs ht => lane_8_15 x y s t w hx hy hs ht)
theorem bin_8_16 (a b : Vec) (w : World) : Calls Tryz.prog 89 #[.int .i64 64880, .agg (cells a), .agg (cells b)] w fun e w' => e = .returned (.tuple #[.agg (cells (vb 8 16 a b)), .int .i64 0]) ∧ Below w.heap.size w w' :=
 bin_w8 64880 16 a b w (by decide) kind_64880 (fun x y s t w hx hy hs ht => lane_8_16 x y s t w hx hy hs ht)
theorem bin_8_17 (a b : Vec) (w : World) : Calls Tryz.prog 89 #[.int .i64 64881, .agg (cells a), .agg (cells b)] w fun e w' => e = .returned (.tuple #[.agg (cells (vb 8 17 a b)), .int .i64 0]) ∧ Below w.heap.size w w' :=
 bin_w8 64881 17 a b w (by decide) kind_64881 (fun x y s t w hx hy hs ht => lane_8_17 x y s t w hx hy hs ht)
theorem bin_8_18 (a b : Vec) (w : World) : Calls Tryz.prog 89 #[.int .i64 64882, .agg (cells a), .agg (cells b)] w fun e w' => e = .returned (.tuple #[.agg (cells (vb 8 18 a b)), .int .i64 0]) ∧ Below w.heap.size w w' :=
 bin_w8 64882 18 a b w (by decide) kind_64882 (fun x y s t w hx hy hs ht => lane_8_18 x y s t w hx hy hs ht)
theorem bin_8_19 (a b : Vec) (w : World) : Calls Tryz.prog 89 #[.int .i64 64883, .agg (cells a), .agg (cells b)] w fun e w' => e = .returned (.tuple #[.agg (cells (vb 8 19 a b)), .int .i64 0]) ∧ Below w.heap.size w w' :=
 bin_w8 64883 19 a b w (by decide) kind_64883 (fun x y s t w hx hy hs ht => lane_8_19 x y s t w hx hy hs ht)
theorem bin_8_22 (a b : Vec) (w : World) : Calls Tryz.prog 89 #[.int .i64 64886, .agg (cells a), .agg (cells b)] w fun e w' => e = .returned (.tuple #[.agg (cells (vb 8 22 a b)), .int .i64 0]) ∧ Below w.heap.size w w' :=
 bin_w8 64886 22 a b w (by decide) kind_64886 (fun x y s t w hx hy hs ht => lane_8_22 x y s t w hx hy hs ht)
theorem bin_8_23 (a b : Vec) (w : World) : Calls Tryz.prog 89 #[.int .i64 64887, .agg (cells a), .agg (cells b)] w fun e w' => e = .returned (.tuple #[.agg (cells (vb 8 23 a b)), .int .i64 0]) ∧ Below w.heap.size w w' :=
 bin_w8 64887 23 a b w (by decide) kind_64887 (fun x y s t w hx hy hs ht => lane_8_23 x y s t w hx hy hs ht)
theorem bin_8_24 (a b : Vec) (w : World) : Calls Tryz.prog 89 #[.int .i64 64888, .agg (cells a), .agg (cells b)] w fun e w' => e = .returned (.tuple #[.agg (cells (vb 8 24 a b)), .int .i64 0]) ∧ Below w.heap.size w w' :=
 bin_w8 64888 24 a b w (by decide) kind_64888 (fun x y s t w hx hy hs ht => lane_8_24 x y s t w hx hy hs ht)
theorem bin_8_25 (a b : Vec) (w : World) : Calls Tryz.prog 89 #[.int .i64 64889, .agg (cells a), .agg (cells b)] w fun e w' => e = .returned (.tuple #[.agg (cells (vb 8 25 a b)), .int .i64 0]) ∧ Below w.heap.size w w' :=
 bin_w8 64889 25 a b w (by decide) kind_64889 (fun x y s t w hx hy hs ht => lane_8_25 x y s t w hx hy hs ht)
theorem bin_8_27 (a b : Vec) (w : World) : Calls Tryz.prog 89 #[.int .i64 64891, .agg (cells a), .agg (cells b)] w fun e w' => e = .returned (.tuple #[.agg (cells (vb 8 27 a b)), .int .i64 0]) ∧ Below w.heap.size w w' :=
 bin_w8 64891 27 a b w (by decide) kind_64891 (fun x y s t w hx hy hs ht => lane_8_27 x y s t w hx hy hs ht)
theorem bin_16_14 (a b : Vec) (w : World) : Calls Tryz.prog 89 #[.int .i64 64910, .agg (cells a), .agg (cells b)] w fun e w' => e = .returned (.tuple #[.agg (cells (vb 16 14 a b)), .int .i64 0]) ∧ Below w.heap.size w w' :=
 bin_w16 64910 14 a b w (by decide) kind_64910 (fun x y s t w hx hy hs ht => lane_16_14 x y s t w hx hy hs ht)
theorem bin_16_15 (a b : Vec) (w : World) : Calls Tryz.prog 89 #[.int .i64 64911, .agg (cells a), .agg (cells b)] w fun e w' => e = .returned (.tuple #[.agg (cells (vb 16 15 a b)), .int .i64 0]) ∧ Below w.heap.size w w' :=
 bin_w16 64911 15 a b w (by decide) kind_64911 (fun x y s t w hx hy hs ht => lane_16_15 x y s t w hx hy hs ht)
theorem bin_16_16 (a b : Vec) (w : World) : Calls Tryz.prog 89 #[.int .i64 64912, .agg (cells a), .agg (cells b)] w fun e w' => e = .returned (.tuple #[.agg (cells (vb 16 16 a b)), .int .i64 0]) ∧ Below w.heap.size w w' :=
 bin_w16 64912 16 a b w (by decide) kind_64912 (fun x y s t w hx hy hs ht => lane_16_16 x y s t w hx hy hs ht)
theorem bin_16_17 (a b : Vec) (w : World) : Calls Tryz.prog 89 #[.int .i64 64913, .agg (cells a), .agg (cells b)] w fun e w' => e = .returned (.tuple #[.agg (cells (vb 16 17 a b)), .int .i64 0]) ∧ Below w.heap.size w w' :=
 bin_w16 64913 17 a b w (by decide) kind_64913 (fun x y s t w hx hy hs ht => lane_16_17 x y s t w hx hy hs ht)
theorem bin_16_18 (a b : Vec) (w : World) : Calls Tryz.prog 89 #[.int .i64 64914, .agg (cells a), .agg (cells b)] w fun e w' => e = .returned (.tuple #[.agg (cells (vb 16 18 a b)), .int .i64 0]) ∧ Below w.heap.size w w' :=
 bin_w16 64914 18 a b w (by decide) kind_64914 (fun x y s t w hx hy hs ht => lane_16_18 x y s t w hx hy hs ht)
theorem bin_16_19 (a b : Vec) (w : World) : Calls Tryz.prog 89 #[.int .i64 64915, .agg (cells a), .agg (cells b)] w fun e w' => e = .returned (.tuple #[.agg (cells (vb 16 19 a b)), .int .i64 0]) ∧ Below w.heap.size w w' :=
 bin_w16 64915 19 a b w (by decide) kind_64915 (fun x y s t w hx hy hs ht => lane_16_19 x y s t w hx hy hs ht)
theorem bin_16_21 (a b : Vec) (w : World) : Calls Tryz.prog 89 #[.int .i64 64917, .agg (cells a), .agg (cells b)] w fun e w' => e = .returned (.tuple #[.agg (cells (vb 16 21 a b)), .int .i64 0]) ∧ Below w.heap.size w w' :=
 bin_w16 64917 21 a b w (by decide) kind_64917 (fun x y s t w hx hy hs ht => lane_16_21 x y s t w hx hy hs ht)
theorem bin_16_22 (a b : Vec) (w : World) : Calls Tryz.prog 89 #[.int .i64 64918, .agg (cells a), .agg (cells b)] w fun e w' => e = .returned (.tuple #[.agg (cells (vb 16 22 a b)), .int .i64 0]) ∧ Below w.heap.size w w' :=
 bin_w16 64918 22 a b w (by decide) kind_64918 (fun x y s t w hx hy hs ht => lane_16_22 x y s t w hx hy hs ht)
theorem bin_16_23 (a b : Vec) (w : World) : Calls Tryz.prog 89 #[.int .i64 64919, .agg (cells a), .agg (cells b)] w fun e w' => e = .returned (.tuple #[.agg (cells (vb 16 23 a b)), .int .i64 0]) ∧ Below w.heap.size w w' :=
 bin_w16 64919 23 a b w (by decide) kind_64919 (fun x y s t w hx hy hs ht => lane_16_23 x y s t w hx hy hs ht)
theorem bin_16_24 (a b : Vec) (w : World) : Calls Tryz.prog 89 #[.int .i64 64920, .agg (cells a), .agg (cells b)] w fun e w' => e = .returned (.tuple #[.agg (cells (vb 16 24 a b)), .int .i64 0]) ∧ Below w.heap.size w w' :=
 bin_w16 64920 24 a b w (by decide) kind_64920 (fun x y s t w hx hy hs ht => lane_16_24 x y s t w hx hy hs ht)
theorem bin_16_25 (a b : Vec) (w : World) : Calls Tryz.prog 89 #[.int .i64 64921, .agg (cells a), .agg (cells b)] w fun e w' => e = .returned (.tuple #[.agg (cells (vb 16 25 a b)), .int .i64 0]) ∧ Below w.heap.size w w' :=
 bin_w16 64921 25 a b w (by decide) kind_64921 (fun x y s t w hx hy hs ht => lane_16_25 x y s t w hx hy hs ht)
theorem bin_16_27 (a b : Vec) (w : World) : Calls Tryz.prog 89 #[.int .i64 64923, .agg (cells a), .agg (cells b)] w fun e w' => e = .returned (.tuple #[.agg (cells (vb 16 27 a b)), .int .i64 0]) ∧ Below w.heap.size w w' :=
 bin_w16 64923 27 a b w (by decide) kind_64923 (fun x y s t w hx hy hs ht => lane_16_27 x y s t w hx hy hs ht)
theorem bin_32_14 (a b : Vec) (w : World) : Calls Tryz.prog 89 #[.int .i64 64942, .agg (cells a), .agg (cells b)] w fun e w' => e = .returned (.tuple #[.agg (cells (vb 32 14 a b)), .int .i64 0]) ∧ Below w.heap.size w w' :=
 bin_w32 64942 14 a b w (by decide) kind_64942 (fun x y s t w hx hy hs ht => lane_32_14 x y s t w hx hy hs ht)
theorem bin_32_17 (a b : Vec) (w : World) : Calls Tryz.prog 89 #[.int .i64 64945, .agg (cells a), .agg (cells b)] w fun e w' => e = .returned (.tuple #[.agg (cells (vb 32 17 a b)), .int .i64 0]) ∧ Below w.heap.size w w' :=
 bin_w32 64945 17 a b w (by decide) kind_64945 (fun x y s t w hx hy hs ht => lane_32_17 x y s t w hx hy hs ht)
theorem bin_32_21 (a b : Vec) (w : World) : Calls Tryz.prog 89 #[.int .i64 64949, .agg (cells a), .agg (cells b)] w fun e w' => e = .returned (.tuple #[.agg (cells (vb 32 21 a b)), .int .i64 0]) ∧ Below w.heap.size w w' :=
 bin_w32 64949 21 a b w (by decide) kind_64949 (fun x y s t w hx hy hs ht => lane_32_21 x y s t w hx hy hs ht)
theorem bin_32_22 (a b : Vec) (w : World) : Calls Tryz.prog 89 #[.int .i64 64950, .agg (cells a), .agg (cells b)] w fun e w' => e = .returned (.tuple #[.agg (cells (vb 32 22 a b)), .int .i64 0]) ∧ Below w.heap.size w w' :=
 bin_w32 64950 22 a b w (by decide) kind_64950 (fun x y s t w hx hy hs ht => lane_32_22 x y s t w hx hy hs ht)
theorem bin_32_23 (a b : Vec) (w : World) : Calls Tryz.prog 89 #[.int .i64 64951, .agg (cells a), .agg (cells b)] w fun e w' => e = .returned (.tuple #[.agg (cells (vb 32 23 a b)), .int .i64 0]) ∧ Below w.heap.size w w' :=
 bin_w32 64951 23 a b w (by decide) kind_64951 (fun x y s t w hx hy hs ht => lane_32_23 x y s t w hx hy hs ht)
theorem bin_32_24 (a b : Vec) (w : World) : Calls Tryz.prog 89 #[.int .i64 64952, .agg (cells a), .agg (cells b)] w fun e w' => e = .returned (.tuple #[.agg (cells (vb 32 24 a b)), .int .i64 0]) ∧ Below w.heap.size w w' :=
 bin_w32 64952 24 a b w (by decide) kind_64952 (fun x y s t w hx hy hs ht => lane_32_24 x y s t w hx hy hs ht)
theorem bin_32_25 (a b : Vec) (w : World) : Calls Tryz.prog 89 #[.int .i64 64953, .agg (cells a), .agg (cells b)] w fun e w' => e = .returned (.tuple #[.agg (cells (vb 32 25 a b)), .int .i64 0]) ∧ Below w.heap.size w w' :=
 bin_w32 64953 25 a b w (by decide) kind_64953 (fun x y s t w hx hy hs ht => lane_32_25 x y s t w hx hy hs ht)
theorem bin_64_14 (a b : Vec) (w : World) : Calls Tryz.prog 89 #[.int .i64 64974, .agg (cells a), .agg (cells b)] w fun e w' => e = .returned (.tuple #[.agg (cells (vb 64 14 a b)), .int .i64 0]) ∧ Below w.heap.size w w' :=
 bin_w64 64974 14 a b w (by decide) kind_64974 (fun x y s t w hx hy hs ht => lane_64_14 x y s t w hx hy hs ht)
theorem bin_64_17 (a b : Vec) (w : World) : Calls Tryz.prog 89 #[.int .i64 64977, .agg (cells a), .agg (cells b)] w fun e w' => e = .returned (.tuple #[.agg (cells (vb 64 17 a b)), .int .i64 0]) ∧ Below w.heap.size w w' :=
 bin_w64 64977 17 a b w (by decide) kind_64977 (fun x y s t w hx hy hs ht => lane_64_17 x y s t w hx hy hs ht)
theorem bin_64_21 (a b : Vec) (w : World) : Calls Tryz.prog 89 #[.int .i64 64981, .agg (cells a), .agg (cells b)] w fun e w' => e = .returned (.tuple #[.agg (cells (vb 64 21 a b)), .int .i64 0]) ∧ Below w.heap.size w w' :=
 bin_w64 64981 21 a b w (by decide) kind_64981 (fun x y s t w hx hy hs ht => lane_64_21 x y s t w hx hy hs ht)
theorem heap_z3 (w : World) (A B : Obj) (t : TypeId) : (((w.alloc A).alloc B).alloc (.cells #[.int .u8 0, .int .u8 0, .int .u8 0, .int .u8 0, .int .u8 0, .int .u8 0, .int .u8 0, .int .u8 0, .int .u8 0, .int .u8 0, .int .u8 0, .int .u8 0, .int .u8 0, .int .u8 0, .int .u8 0, .int .u8 0] t)).heap[w.heap.size + 2]? = some (.cells (cells 0) t (0, 0)) := by
 rw [cells_zero]; exact heap_alloc3_2 _ _ _ _
theorem bin_no (op z k : Int) (a b : Vec) (w : World) (ho : ∀ w, Calls Tryz.prog 151 #[.int .i64 op] w fun e w' => e = .returned (.tuple #[.int .i64 z, .int .i64 k]) ∧ w' = w) (h : z = 0 ∨ k < 14) :
  Calls Tryz.prog 89 #[.int .i64 op, .agg (cells a), .agg (cells b)] w fun e w' => e = .returned (.tuple #[.agg (cells 0), .int .i64 1]) ∧ Below w.heap.size w w' := by
 have H := Lib.hid ho
 clear ho
 by_cases hz : z = 0
 ·subst hz
  clear h
  go_enter Tryz.func89, Tryz.ntmps89
  go_wp2_with (first | (go_at_call 151; refine (H.out _).mono ?_; rintro e w' ⟨rfl, rfl⟩))
  exact bodyPost_ret (results_vec_tmp rfl _ _ (w.heap.size + 2) _ _ rfl rfl (heap_z3 w _ _ _)) rfl ⟨rfl, below_alloc3 _ _ _ _⟩
 ·have hk : k < 14 := by rcases h with h | h; exact absurd h hz; exact h
  have t1 : (z == 0) = false := beq_eq_false_iff_ne.2 hz
  clear h hz
  go_enter Tryz.func89, Tryz.ntmps89
  go_wp2_with (first | (go_at_call 151; refine (H.out _).mono ?_; rintro e w' ⟨rfl, rfl⟩))
  exact bodyPost_ret (results_vec_tmp rfl _ _ (w.heap.size + 2) _ _ rfl rfl (heap_z3 w _ _ _)) rfl ⟨rfl, below_alloc3 _ _ _ _⟩
end Go.Proofs.YtebpijlmeemfaaaGreatDoor
end
section
namespace Pl
def row0 : List Int := [0, 1, 11, 12, 13, 14, 17, 22, 23, 24, 25, 15, 16, 18, 19, 27, 2]
def row1 : List Int := [0, 1, 11, 12, 13, 14, 17, 22, 23, 24, 25, 15, 16, 18, 19, 27, 21]
def row2 : List Int := [0, 1, 11, 12, 13, 14, 17, 22, 23, 24, 25, 21]
def row3 : List Int := [0, 1, 11, 12, 13, 14, 17, 21]
def wF (op : Int) : Int :=
 if row0.contains (op - 64864) = true then 8 else if row1.contains (op - 64896) = true then 16 else if row2.contains (op - 64928) = true then 32 else if row3.contains (op - 64960) = true then 64 else 0
end Pl
end
