/-
  plaitlaw05.all, held, awake.
-/
import Derived.Test.YtgemlndpmbeaeaaAriC
import Derived.Test.YtgemlndpmbeaeaaEq
set_option linter.unusedSimpArgs false
set_option linter.unusedVariables false
namespace Go.Proofs.Ytgemlndpmbeaeaa
open Go.RowKit Pl
set_option linter.unusedVariables false
set_option linter.unusedSimpArgs false

end Go.Proofs.Ytgemlndpmbeaeaa
namespace Pl
/-- The vector whose sixteen lanes are x. -/
def allV (x : Nat) : Vec := buildOn 0 8 (fun _ => x) 16
theorem put8 (v : Vec) (i x : Nat) : putAt v (8 * i) 8 x = setN v 8 i x := rfl
end Pl
namespace Go.Proofs.Ytgemlndpmbeaeaa
open Go.RowKit Pl
set_option maxHeartbeats 1000000 in
theorem all_any (x : Nat) (w : World) (hx : x < 256) : Calls Try.prog 27 #[.int .u8 (x : Int)] w fun e w' => e = .returned (.agg (cells (allV x))) ∧ Below w.heap.size w w' := by
  go_enter Try.func27, Try.ntmps27
  go_wp2_with fail
  rw [← cells_zero]
  obtain ⟨W, hW⟩ : ∃ W, W = (w.alloc (.cells (cells 0) 23)).alloc (.cells (cells 0) 23) := ⟨_, rfl⟩
  have hR : W.heap[w.heap.size]? = some (.cells (cells 0) 23 (0, 0)) := hW ▸ heap_alloc2_old _ _ _
  have hO : W.heap[w.heap.size + 1]? = some (.cells (cells 0) 23 (0, 0)) := hW ▸ heap_alloc2_new _ _ _
  have hZ : Below w.heap.size w W := hW ▸ ((Below.refl _ _).alloc (Nat.le_refl _) _).alloc (by simp) _
  rw [← hW]
  clear hW
  have hz : (x : Int) = ((x % 256 : Nat) : Int) := by omega
  have HZ := Lib.hid hz
  clear hz
  go_loopw [4] (fun j wr => ∃ i : Nat, i ≤ 16 ∧ j = .int .i64 i ∧ St W (w.heap.size + 1) (buildOn 0 8 (fun _ => x) i) wr) (fun j _ => 16 - (intOf j).toNat)
  case atStart => exact ⟨0, Nat.zero_le _, rfl, St.start hO⟩
  case round =>
    obtain ⟨i, hi, rfl, hs⟩ := hrel
    by_cases hlt : i < 16
    · go_wp2_with (refine store_byte rfl _ _ rfl (w.heap.size + 1) i _ x rfl rfl _ hs.this hlt HZ.out ?_; intro wy hy)
      go_roundw
      case rel => first | exact ⟨i + 1, by omega, by go_num, hs.sets hy⟩ | ((repeat apply Exists.intro); exact ⟨⟨i + 1, by omega, by go_num, hs.sets hy⟩, rfl⟩)
      case measure => (simp [intOf] <;> omega)
    · obtain rfl : i = 16 := by omega
      have hR' := hs.kb.get hR (by omega)
      go_wp2_with (first | (with_reducible refine load_vec rfl _ rfl _ rfl _ hs.this ?_) | (with_reducible refine store_vec rfl _ _ rfl w.heap.size _ rfl rfl _ hR' ?_; intro wq hq))
      exact bodyPost_ret (results_cell_row rfl _ _ w.heap.size _ _ _ _ rfl hq.this vunder rfl (vsize _)) rfl ⟨rfl, (hs.kb.to_below hZ (by omega)).trans (hq.below.mono (by omega))⟩
theorem same_below2 {f : FuncId} {args : Array Value} {w : World} {v : Ending} (h : Calls Try.prog f args w fun e w' => e = v ∧ w = w') : Calls Try.prog f args w fun e w' => e = v ∧ Below w.heap.size w w' :=
  h.mono fun e w' ⟨h1, h2⟩ => ⟨h1, by subst h2; exact Below.refl _ _⟩
theorem held_any (got n low high : Int) (w : World) (h : got = min (max n low) high) (hl : low ≤ high) : Calls Try.prog 18 #[.int .i64 got, .int .i64 n, .int .i64 low, .int .i64 high] w fun e w' => e = .returned (.bool true) ∧ w' = w := by
  by_cases h1 : n < low
  · have t : (got == low) = true := by rw [beq_iff_eq]; omega
    clear h
    go_enter Try.func18, Try.ntmps18
    go_wp2
    go_ret
    exact ⟨rfl, rfl⟩
  · by_cases h2 : high < n
    · have t : (got == high) = true := by rw [beq_iff_eq]; omega
      clear h
      go_enter Try.func18, Try.ntmps18
      go_wp2
      go_ret
      exact ⟨rfl, rfl⟩
    · have t : (got == n) = true := by rw [beq_iff_eq]; omega
      clear h
      go_enter Try.func18, Try.ntmps18
      go_wp2
      go_ret
      exact ⟨rfl, rfl⟩
def va1 : Vec := allV 100
def va2 : Vec := allV 1
def va3 : Vec := allV 255
def va4 : Vec := allV 127
def va5 : Vec := allV 254
theorem fa1 : vb 8 15 va1 va1 = va4 := by decide +kernel
theorem fa2 : vu3 8 1 va2 = va3 := by decide +kernel
theorem fa3 : vs 8 11 1 va3 = va5 := by decide +kernel
/-- World u is w0 but for new blocks; those that l names hold its vectors. -/
abbrev HL (w0 : World) (l : List (Nat × Vec)) (u : World) : Prop := N1 w0 l 0 none u
theorem HL.start (w : World) : HL w [] w := N1.start 0 (Below.refl _ _) (fun q hq => by cases hq)
theorem HL.push {w0 u u1 : World} {l : List (Nat × Vec)} {v : Vec} {x : Obj} (h : HL w0 l u) (hs : Sets (u.alloc x) u.heap.size v u1) : HL w0 ((u.heap.size, v) :: l) u1 :=
  N1.start 0 (below_store h.bel (Nat.le_refl _) hs) (fun q hq => by
    rcases List.mem_cons.1 hq with rfl | hq
    · exact hs.this
    · exact blk_sets (blk_alloc (h.hold q hq) x) hs (Nat.ne_of_lt (block_lt (h.hold q hq))))
theorem all_100 (w : World) : Calls Try.prog 27 #[.int .u8 100] w fun e w' => e = .returned (.agg (cells va1)) ∧ Below w.heap.size w w' := all_any 100 w (by decide)
theorem all_1 (w : World) : Calls Try.prog 27 #[.int .u8 1] w fun e w' => e = .returned (.agg (cells va2)) ∧ Below w.heap.size w w' := all_any 1 w (by decide)
theorem all_255 (w : World) : Calls Try.prog 27 #[.int .u8 255] w fun e w' => e = .returned (.agg (cells va3)) ∧ Below w.heap.size w w' := all_any 255 w (by decide)
theorem all_127 (w : World) : Calls Try.prog 27 #[.int .u8 127] w fun e w' => e = .returned (.agg (cells va4)) ∧ Below w.heap.size w w' := all_any 127 w (by decide)
theorem all_254 (w : World) : Calls Try.prog 27 #[.int .u8 254] w fun e w' => e = .returned (.agg (cells va5)) ∧ Below w.heap.size w w' := all_any 254 w (by decide)
theorem bin_1 (w : World) : Calls Try.prog 22 #[.int .i64 64879, .agg (cells va1), .agg (cells va1)] w fun e w' => e = .returned (.tuple #[.agg (cells va4), .int .i64 0]) ∧ Below w.heap.size w w' := by
  have h := bin_8_15 va1 va1 w
  rw [fa1] at h
  exact h
theorem un_1 (w : World) : Calls Try.prog 23 #[.int .i64 64865, .agg (cells va2)] w fun e w' => e = .returned (.tuple #[.agg (cells va3), .int .i64 0]) ∧ Below w.heap.size w w' := by
  have h := un_8_1 va2 w
  rw [fa2] at h
  exact h
theorem sh_1 (w : World) : Calls Try.prog 14 #[.int .i64 64875, .agg (cells va3), .int .u32 9] w fun e w' => e = .returned (.tuple #[.agg (cells va5), .int .i64 0]) ∧ Below w.heap.size w w' := by
  have h := sh_8_11 va3 9 1 w (by decide) (by decide)
  rw [fa3] at h
  exact h
theorem un_2 (w : World) : Calls Try.prog 23 #[.int .i64 64878, .agg (cells va2)] w fun e w' => e = .returned (.tuple #[.agg (cells 0), .int .i64 1]) ∧ Below w.heap.size w w' :=
  un_no 64878 8 14 va2 w kind_64878 (by decide)
set_option maxRecDepth 100000 in
set_option maxHeartbeats 2000000 in
theorem awake_any (w : World) : Calls Try.prog 11 #[] w fun e w' => e = .returned (.bool true) ∧ Below w.heap.size w w' := by
  have hs : HL w [] w := HL.start w
  go_enter Try.func11, Try.ntmps11
  go_wp2_with (first | (go_at_call 27; (with_reducible refine (all_100 _).mono ?_); rintro e u ⟨rfl, hb⟩; replace hs := hs.below hb; clear hb) | (go_at_call 22; (with_reducible refine (bin_1 _).mono ?_); rintro e u ⟨rfl, hb⟩; replace hs := hs.below hb; clear hb) | (go_at_call 27; (with_reducible refine (all_1 _).mono ?_); rintro e u ⟨rfl, hb⟩; replace hs := hs.below hb; clear hb) | (go_at_call 23; (with_reducible refine (un_1 _).mono ?_); rintro e u ⟨rfl, hb⟩; replace hs := hs.below hb; clear hb) | (go_at_call 27; (with_reducible refine (all_255 _).mono ?_); rintro e u ⟨rfl, hb⟩; replace hs := hs.below hb; clear hb) | (go_at_call 14; (with_reducible refine (sh_1 _).mono ?_); rintro e u ⟨rfl, hb⟩; replace hs := hs.below hb; clear hb) | (go_at_call 23; (with_reducible refine (un_2 _).mono ?_); rintro e u ⟨rfl, hb⟩; replace hs := hs.below hb; clear hb) | (with_reducible refine store_vec rfl _ _ rfl _ _ rfl rfl 0 (heap_new_zero _) ?_; intro wA hA; replace hs := HL.push hs hA; clear hA))
  have hE1 := equal_vec va4 va4
  have hE2 := equal_vec va3 va3
  have hE3 := equal_vec va5 va5
  simp only [decide_true] at hE1 hE2 hE3
  refine region_do (HL w _) 37 (by kernel_rfl) (by kernel_rfl) hs.drew ?_
  simp only [List.take_succ_cons, List.take_zero, List.drop_succ_cons, List.drop_zero]
  have hG := @guard_vec
  (refine do_load rfl _ rfl _ rfl va4 (fun u hS => hS.hold (_, va4) (by simp)) ?_; simp only [Act.put, List.setIfInBounds_toArray, List.set_cons_zero, List.set_cons_succ])
  (refine wpD_call (v := .agg (cells va4)) rfl 27 ?_ (fun u => ?_) (fun u hS => ?_) ?_; rotate_left 1; (focus (go_simp; (try with_reducible rfl); done)); (focus (refine (all_127 _).mono ?_; rintro e u2 ⟨rfl, hb⟩; exact ⟨rfl, hS.below hb⟩)); simp only [Act.put, List.setIfInBounds_toArray, List.set_cons_zero, List.set_cons_succ])
  repeat (first | (refine wpD_pure (v := ?_) rfl (fun u => ?_) ?_; rotate_left; (focus (go_simp; (try with_reducible rfl); done)); simp only [Act.put, List.setIfInBounds_toArray, List.set_cons_zero, List.set_cons_succ]) | (refine wpD_pureg (v := ?_) rfl (fun u => ?_) ?_; rotate_left; (focus (go_simp; (try with_reducible rfl); done)); simp only [Act.put, List.setIfInBounds_toArray, List.set_cons_zero, List.set_cons_succ]))
  (refine do_loadg rfl _ rfl _ rfl va3 (fun u hS => hS.hold (_, va3) (by simp)) ?_; simp only [Act.put, List.setIfInBounds_toArray, List.set_cons_zero, List.set_cons_succ])
  (refine wpD_callg (v := .agg (cells va3)) rfl 27 ?_ (fun u => ?_) (fun u hS => ?_) ?_; rotate_left 1; (focus (go_simp; (try with_reducible rfl); done)); (focus (refine (all_255 _).mono ?_; rintro e u2 ⟨rfl, hb⟩; exact ⟨rfl, hS.below hb⟩)); simp only [Act.put, List.setIfInBounds_toArray, List.set_cons_zero, List.set_cons_succ])
  repeat (first | (refine wpD_pure (v := ?_) rfl (fun u => ?_) ?_; rotate_left; (focus (go_simp; (try with_reducible rfl); done)); simp only [Act.put, List.setIfInBounds_toArray, List.set_cons_zero, List.set_cons_succ]) | (refine wpD_pureg (v := ?_) rfl (fun u => ?_) ?_; rotate_left; (focus (go_simp; (try with_reducible rfl); done)); simp only [Act.put, List.setIfInBounds_toArray, List.set_cons_zero, List.set_cons_succ]))
  (refine do_loadg rfl _ rfl _ rfl va5 (fun u hS => hS.hold (_, va5) (by simp)) ?_; simp only [Act.put, List.setIfInBounds_toArray, List.set_cons_zero, List.set_cons_succ])
  (refine wpD_callg (v := .agg (cells va5)) rfl 27 ?_ (fun u => ?_) (fun u hS => ?_) ?_; rotate_left 1; (focus (go_simp; (try with_reducible rfl); done)); (focus (refine (all_254 _).mono ?_; rintro e u2 ⟨rfl, hb⟩; exact ⟨rfl, hS.below hb⟩)); simp only [Act.put, List.setIfInBounds_toArray, List.set_cons_zero, List.set_cons_succ])
  repeat (first | (refine wpD_pure (v := ?_) rfl (fun u => ?_) ?_; rotate_left; (focus (go_simp; (try with_reducible rfl); done)); simp only [Act.put, List.setIfInBounds_toArray, List.set_cons_zero, List.set_cons_succ]) | (refine wpD_pureg (v := ?_) rfl (fun u => ?_) ?_; rotate_left; (focus (go_simp; (try with_reducible rfl); done)); simp only [Act.put, List.setIfInBounds_toArray, List.set_cons_zero, List.set_cons_succ]))
  (refine wpD_callg (v := .int .i64 64) rfl 21 ?_ (fun u => ?_) (fun u hS => ?_) ?_; rotate_left 1; (focus (go_simp; (try with_reducible rfl); done)); (focus (refine (same_below (width_any 64974 64 14 _ kind_64974)).mono ?_; rintro e u2 ⟨rfl, hb⟩; exact ⟨rfl, hS.below hb⟩)); simp only [Act.put, List.setIfInBounds_toArray, List.set_cons_zero, List.set_cons_succ])
  repeat (first | (refine wpD_pure (v := ?_) rfl (fun u => ?_) ?_; rotate_left; (focus (go_simp; (try with_reducible rfl); done)); simp only [Act.put, List.setIfInBounds_toArray, List.set_cons_zero, List.set_cons_succ]) | (refine wpD_pureg (v := ?_) rfl (fun u => ?_) ?_; rotate_left; (focus (go_simp; (try with_reducible rfl); done)); simp only [Act.put, List.setIfInBounds_toArray, List.set_cons_zero, List.set_cons_succ]))
  (refine wpD_callg (v := .int .i64 16) rfl 28 ?_ (fun u => ?_) (fun u hS => ?_) ?_; rotate_left 1; (focus (go_simp; (try with_reducible rfl); done)); (focus (refine (same_below2 (lanes8 _)).mono ?_; rintro e u2 ⟨rfl, hb⟩; exact ⟨rfl, hS.below hb⟩)); simp only [Act.put, List.setIfInBounds_toArray, List.set_cons_zero, List.set_cons_succ])
  repeat (first | (refine wpD_pure (v := ?_) rfl (fun u => ?_) ?_; rotate_left; (focus (go_simp; (try with_reducible rfl); done)); simp only [Act.put, List.setIfInBounds_toArray, List.set_cons_zero, List.set_cons_succ]) | (refine wpD_pureg (v := ?_) rfl (fun u => ?_) ?_; rotate_left; (focus (go_simp; (try with_reducible rfl); done)); simp only [Act.put, List.setIfInBounds_toArray, List.set_cons_zero, List.set_cons_succ]))
  refine wpD_nil (fun wr hr => ?_)
  go_wp2_with fail
  go_ret
  exact ⟨rfl, hr.bel⟩

end Go.Proofs.Ytgemlndpmbeaeaa
