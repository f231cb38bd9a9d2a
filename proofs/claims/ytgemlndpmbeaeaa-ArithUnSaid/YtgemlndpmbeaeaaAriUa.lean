/-
  The walk of plaitlaw05.ArithUn.
-/
import Derived.Test.YtgemlndpmbeaeaaAriAk
import Derived.Test.YtgemlndpmbeaeaaAriRU2
import Derived.Test.YtgemlndpmbeaeaaAriL
set_option linter.unusedSimpArgs false
set_option linter.unusedVariables false
namespace Go.Proofs.Ytgemlndpmbeaeaa
open Go.RowKit Pl

theorem un_both_ops : ∀ j : Fin 128, wF (64864 + (j.val : Int)) ≠ 0 → ((64864 + (j.val : Int) - 64768) % 32) ≤ 2 → (64864 + (j.val : Int)) ∈ ([64864, 64865, 64866, 64896, 64897, 64928, 64929, 64960, 64961] : List Int) := by decide +kernel
theorem un_both (op : Int) (v : Vec) (ho : -9223372036854775808 ≤ op ∧ op ≤ 9223372036854775807) :
    ∃ (X : Vec) (E z : Int), (∀ W, (Calls Try.prog 23 #[.int .i64 op, .agg (cells v)] W fun e w' => e = .returned (.tuple #[.agg (cells X), .int .i64 E]) ∧ Below W.heap.size W w') ∧ (Calls Try.prog 29 #[.int .i64 op, .agg (cells v)] W fun e w' => e = .returned (.tuple #[.agg (cells X), .int .i64 E]) ∧ Below W.heap.size W w')) ∧ (∀ W, Calls Try.prog 21 #[.int .i64 op] W fun e w' => e = .returned (.int .i64 z) ∧ w' = W) ∧ (∀ W, Calls Try.prog 30 #[.int .i64 op] W fun e w' => e = .returned (.int .i64 z) ∧ Below W.heap.size W w') := by
  obtain ⟨z, k, hK, hz, hk⟩ := kind_any op ho
  have hT : ∀ W, Calls Try.prog 30 #[.int .i64 op] W fun e w' => e = .returned (.int .i64 z) ∧ Below W.heap.size W w' := fun W => by rw [hz]; exact rwidth_any op W ho
  obtain ⟨κ, hO, h0, h1⟩ := roff_any op ho z k hz hk
  have hW := fun W => width_any op z k W hK
  by_cases hg : z ≠ 0 ∧ k ≤ 2
  · obtain ⟨r1, r2, r3⟩ := hk hg.1
    have hm := un_both_ops ⟨(op - 64864).toNat, by omega⟩
    have e : (64864 : Int) + (((op - 64864).toNat : Nat) : Int) = op := by omega
    simp only [e, ← hz, ← r3] at hm
    have hl := hm hg.1 hg.2
    simp only [List.mem_cons, List.not_mem_nil, or_false] at hl
    clear hm e hO h0 h1 hK hk
    rcases hl with rfl | rfl | rfl | rfl | rfl | rfl | rfl | rfl | rfl
    · exact ⟨_, _, z, fun W => ⟨un_8_0 v W, run_8_0 v W⟩, hW, hT⟩
    · exact ⟨_, _, z, fun W => ⟨un_8_1 v W, run_8_1 v W⟩, hW, hT⟩
    · exact ⟨_, _, z, fun W => ⟨un_8_2 v W, run_8_2 v W⟩, hW, hT⟩
    · exact ⟨_, _, z, fun W => ⟨un_16_0 v W, run_16_0 v W⟩, hW, hT⟩
    · exact ⟨_, _, z, fun W => ⟨un_16_1 v W, run_16_1 v W⟩, hW, hT⟩
    · exact ⟨_, _, z, fun W => ⟨un_32_0 v W, run_32_0 v W⟩, hW, hT⟩
    · exact ⟨_, _, z, fun W => ⟨un_32_1 v W, run_32_1 v W⟩, hW, hT⟩
    · exact ⟨_, _, z, fun W => ⟨un_64_0 v W, run_64_0 v W⟩, hW, hT⟩
    · exact ⟨_, _, z, fun W => ⟨un_64_1 v W, run_64_1 v W⟩, hW, hT⟩
  · exact ⟨0, 1, z, fun W => ⟨un_no op z k v W hK (by omega), run_no op z κ v W hT hO (by omega)⟩, hW, hT⟩
set_option maxRecDepth 100000 in
set_option maxHeartbeats 4000000 in
theorem lun2_any (op : Int) (v : Vec) (w : World) (ho : -9223372036854775808 ≤ op ∧ op ≤ 9223372036854775807) :
    Calls Try.prog 12 #[.int .i64 op, .agg (cells v)] w fun e w' => e = .returned (.bool true) ∧ Below w.heap.size w w' := by
  obtain ⟨X, E, z, hT, hW, hR⟩ := un_both op v ho
  have hs : HL w [(w.heap.size, v)] (w.alloc (.cells (cells v) 23)) := N1.start 0 ((Below.refl _ _).alloc (Nat.le_refl _) _) (by
    simp only [List.mem_cons, List.not_mem_nil, or_false, forall_eq]
    exact heap_alloc_new _ _)
  have HT := Lib.hid hT
  have HW := Lib.hid hW
  have HR := Lib.hid hR
  clear hT hW hR ho
  have hE := eqv (rfl : X = X)
  have hG := @guard_vec
  go_enter Try.func12, Try.ntmps12
  go_wp2_with (first | (with_reducible refine load_vec rfl _ rfl _ rfl (v) (hs.hold (_, v) (List.mem_cons_of_mem _ List.mem_cons_self)) ?_) | (with_reducible refine load_vec rfl _ rfl _ rfl (v) (hs.hold (_, v) List.mem_cons_self) ?_) | (with_reducible refine load_vec rfl _ rfl _ rfl (X) (hs.hold (_, X) List.mem_cons_self) ?_) | (with_reducible refine load_vec rfl _ rfl _ rfl (X) (hs.hold (_, X) (List.mem_cons_of_mem _ List.mem_cons_self)) ?_) | (go_at_call 23; (with_reducible refine ((HT.out _).1).mono ?_); rintro e u ⟨rfl, hb⟩; replace hs := hs.below hb; clear hb) | (with_reducible refine store_vec rfl _ _ rfl _ _ rfl rfl 0 (heap_new_zero _) ?_; intro wA hA; replace hs := HL.push hs hA; clear hA) | (go_at_call 29; (with_reducible refine ((HT.out _).2).mono ?_); rintro e u ⟨rfl, hb⟩; replace hs := hs.below hb; clear hb) | (go_at_call 21; (with_reducible refine (HW.out _).mono ?_); rintro e w' ⟨rfl, rfl⟩) | (go_at_call 30; (with_reducible refine (HR.out _).mono ?_); rintro e u ⟨rfl, hb⟩; replace hs := hs.below hb; clear hb))
  go_ret
  exact ⟨rfl, hs.bel⟩
set_option maxRecDepth 100000 in
set_option maxHeartbeats 4000000 in
theorem un_walk (op : Int) (v : Vec) (w : World) (ho : -9223372036854775808 ≤ op ∧ op ≤ 9223372036854775807) :
    Calls Try.prog 3 #[.int .i64 op, .agg (cells v)] w fun e w' => e = .returned (.bool true) ∧ Below w.heap.size w w' := by
  have hs : HL w [(w.heap.size, v)] (w.alloc (.cells (cells v) 23)) := N1.start 0 ((Below.refl _ _).alloc (Nat.le_refl _) _) (by
    simp only [List.mem_cons, List.not_mem_nil, or_false, forall_eq]
    exact heap_alloc_new _ _)
  have H1 := Lib.hid (fun W => lun2_any op v W ho)
  clear ho
  go_enter Try.func3, Try.ntmps3
  go_wp2_with (first | (with_reducible refine load_vec rfl _ rfl _ rfl (v) (hs.hold (_, v) List.mem_cons_self) ?_) | ((with_reducible refine load_vec_g ?_ _ rfl _ rfl v (hs.hold (_, v) List.mem_cons_self) ?_); (focus rfl)) | (go_at_call 11; (with_reducible refine (awake_any _).mono ?_); rintro e u ⟨rfl, hb⟩; replace hs := hs.below hb; clear hb) | (go_at_call 12; (with_reducible refine (H1.out _).mono ?_); rintro e u ⟨rfl, hb⟩; replace hs := hs.below hb; clear hb))
  go_loopw [5] (fun kv wr => ∃ k : Nat, k ≤ 130 ∧ kv = .int .i64 (64863 + (k : Int)) ∧ HL w [(w.heap.size, v)] wr) (fun kv _ => (64993 - intOf kv).toNat)
  case atStart => exact ⟨0, Nat.zero_le _, rfl, hs⟩
  case round =>
    clear hs
    obtain ⟨k, hk, rfl, hs⟩ := hrel
    by_cases hlt : k < 130
    · have H2 := Lib.hid (fun W => lun2_any (64863 + (k : Int)) v W (by omega))
      go_wp2_with (first | (with_reducible refine load_vec rfl _ rfl _ rfl (v) (hs.hold (_, v) List.mem_cons_self) ?_) | (go_at_call 12; (with_reducible refine (H2.out _).mono ?_); rintro e u ⟨rfl, hb⟩; replace hs := hs.below hb; clear hb))
      go_roundw
      case rel => first | exact ⟨k + 1, by omega, by go_num, hs⟩ | ((repeat apply Exists.intro); exact ⟨⟨k + 1, by omega, by go_num, hs⟩, rfl⟩)
      case measure => (simp [intOf] <;> omega)
    · obtain rfl : k = 130 := by omega
      go_wp2_with fail
      go_ret
      exact ⟨rfl, hs.bel⟩
end Go.Proofs.Ytgemlndpmbeaeaa
