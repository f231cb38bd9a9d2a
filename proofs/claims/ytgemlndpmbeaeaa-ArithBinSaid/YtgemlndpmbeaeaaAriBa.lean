/-
  The walk of plaitlaw05.ArithBin.
-/
import Derived.Test.YtgemlndpmbeaeaaAriAk
import Derived.Test.YtgemlndpmbeaeaaAriRB8
import Derived.Test.YtgemlndpmbeaeaaAriRB16
import Derived.Test.YtgemlndpmbeaeaaAriRB32
import Derived.Test.YtgemlndpmbeaeaaAriRB64
import Derived.Test.YtgemlndpmbeaeaaAriL
set_option linter.unusedSimpArgs false
set_option linter.unusedVariables false
namespace Go.Proofs.Ytgemlndpmbeaeaa
open Go.RowKit Pl

theorem bin_both_ops : ∀ j : Fin 128, wF (64864 + (j.val : Int)) ≠ 0 → 14 ≤ ((64864 + (j.val : Int) - 64768) % 32) → (64864 + (j.val : Int)) ∈ ([64878, 64879, 64880, 64881, 64882, 64883, 64886, 64887, 64888, 64889, 64891, 64910, 64911, 64912, 64913, 64914, 64915, 64917, 64918, 64919, 64920, 64921, 64923, 64942, 64945, 64949, 64950, 64951, 64952, 64953, 64974, 64977, 64981] : List Int) := by decide +kernel
theorem bin_both (op : Int) (a b : Vec) (ho : -9223372036854775808 ≤ op ∧ op ≤ 9223372036854775807) :
    ∃ (X : Vec) (E z : Int), (∀ W, (Calls Try.prog 22 #[.int .i64 op, .agg (cells a), .agg (cells b)] W fun e w' => e = .returned (.tuple #[.agg (cells X), .int .i64 E]) ∧ Below W.heap.size W w') ∧ (Calls Try.prog 31 #[.int .i64 op, .agg (cells a), .agg (cells b)] W fun e w' => e = .returned (.tuple #[.agg (cells X), .int .i64 E]) ∧ Below W.heap.size W w')) ∧ (∀ W, Calls Try.prog 21 #[.int .i64 op] W fun e w' => e = .returned (.int .i64 z) ∧ w' = W) ∧ (∀ W, Calls Try.prog 30 #[.int .i64 op] W fun e w' => e = .returned (.int .i64 z) ∧ Below W.heap.size W w') := by
  obtain ⟨z, k, hK, hz, hk⟩ := kind_any op ho
  have hT : ∀ W, Calls Try.prog 30 #[.int .i64 op] W fun e w' => e = .returned (.int .i64 z) ∧ Below W.heap.size W w' := fun W => by rw [hz]; exact rwidth_any op W ho
  obtain ⟨κ, hO, h0, h1⟩ := roff_any op ho z k hz hk
  have hW := fun W => width_any op z k W hK
  by_cases hg : z ≠ 0 ∧ 14 ≤ k
  · obtain ⟨r1, r2, r3⟩ := hk hg.1
    have hm := bin_both_ops ⟨(op - 64864).toNat, by omega⟩
    have e : (64864 : Int) + (((op - 64864).toNat : Nat) : Int) = op := by omega
    simp only [e, ← hz, ← r3] at hm
    have hl := hm hg.1 hg.2
    simp only [List.mem_cons, List.not_mem_nil, or_false] at hl
    clear hm e hO h0 h1 hK hk
    rcases hl with rfl | rfl | rfl | rfl | rfl | rfl | rfl | rfl | rfl | rfl | rfl | rfl | rfl | rfl | rfl | rfl | rfl | rfl | rfl | rfl | rfl | rfl | rfl | rfl | rfl | rfl | rfl | rfl | rfl | rfl | rfl | rfl | rfl
    · exact ⟨_, _, z, fun W => ⟨bin_8_14 a b W, rbin_8_14 a b W⟩, hW, hT⟩
    · exact ⟨_, _, z, fun W => ⟨bin_8_15 a b W, rbin_8_15 a b W⟩, hW, hT⟩
    · exact ⟨_, _, z, fun W => ⟨bin_8_16 a b W, rbin_8_16 a b W⟩, hW, hT⟩
    · exact ⟨_, _, z, fun W => ⟨bin_8_17 a b W, rbin_8_17 a b W⟩, hW, hT⟩
    · exact ⟨_, _, z, fun W => ⟨bin_8_18 a b W, rbin_8_18 a b W⟩, hW, hT⟩
    · exact ⟨_, _, z, fun W => ⟨bin_8_19 a b W, rbin_8_19 a b W⟩, hW, hT⟩
    · exact ⟨_, _, z, fun W => ⟨bin_8_22 a b W, rbin_8_22 a b W⟩, hW, hT⟩
    · exact ⟨_, _, z, fun W => ⟨bin_8_23 a b W, rbin_8_23 a b W⟩, hW, hT⟩
    · exact ⟨_, _, z, fun W => ⟨bin_8_24 a b W, rbin_8_24 a b W⟩, hW, hT⟩
    · exact ⟨_, _, z, fun W => ⟨bin_8_25 a b W, rbin_8_25 a b W⟩, hW, hT⟩
    · exact ⟨_, _, z, fun W => ⟨bin_8_27 a b W, rbin_8_27 a b W⟩, hW, hT⟩
    · exact ⟨_, _, z, fun W => ⟨bin_16_14 a b W, rbin_16_14 a b W⟩, hW, hT⟩
    · exact ⟨_, _, z, fun W => ⟨bin_16_15 a b W, rbin_16_15 a b W⟩, hW, hT⟩
    · exact ⟨_, _, z, fun W => ⟨bin_16_16 a b W, rbin_16_16 a b W⟩, hW, hT⟩
    · exact ⟨_, _, z, fun W => ⟨bin_16_17 a b W, rbin_16_17 a b W⟩, hW, hT⟩
    · exact ⟨_, _, z, fun W => ⟨bin_16_18 a b W, rbin_16_18 a b W⟩, hW, hT⟩
    · exact ⟨_, _, z, fun W => ⟨bin_16_19 a b W, rbin_16_19 a b W⟩, hW, hT⟩
    · exact ⟨_, _, z, fun W => ⟨bin_16_21 a b W, rbin_16_21 a b W⟩, hW, hT⟩
    · exact ⟨_, _, z, fun W => ⟨bin_16_22 a b W, rbin_16_22 a b W⟩, hW, hT⟩
    · exact ⟨_, _, z, fun W => ⟨bin_16_23 a b W, rbin_16_23 a b W⟩, hW, hT⟩
    · exact ⟨_, _, z, fun W => ⟨bin_16_24 a b W, rbin_16_24 a b W⟩, hW, hT⟩
    · exact ⟨_, _, z, fun W => ⟨bin_16_25 a b W, rbin_16_25 a b W⟩, hW, hT⟩
    · exact ⟨_, _, z, fun W => ⟨bin_16_27 a b W, rbin_16_27 a b W⟩, hW, hT⟩
    · exact ⟨_, _, z, fun W => ⟨bin_32_14 a b W, rbin_32_14 a b W⟩, hW, hT⟩
    · exact ⟨_, _, z, fun W => ⟨bin_32_17 a b W, rbin_32_17 a b W⟩, hW, hT⟩
    · exact ⟨_, _, z, fun W => ⟨bin_32_21 a b W, rbin_32_21 a b W⟩, hW, hT⟩
    · exact ⟨_, _, z, fun W => ⟨bin_32_22 a b W, rbin_32_22 a b W⟩, hW, hT⟩
    · exact ⟨_, _, z, fun W => ⟨bin_32_23 a b W, rbin_32_23 a b W⟩, hW, hT⟩
    · exact ⟨_, _, z, fun W => ⟨bin_32_24 a b W, rbin_32_24 a b W⟩, hW, hT⟩
    · exact ⟨_, _, z, fun W => ⟨bin_32_25 a b W, rbin_32_25 a b W⟩, hW, hT⟩
    · exact ⟨_, _, z, fun W => ⟨bin_64_14 a b W, rbin_64_14 a b W⟩, hW, hT⟩
    · exact ⟨_, _, z, fun W => ⟨bin_64_17 a b W, rbin_64_17 a b W⟩, hW, hT⟩
    · exact ⟨_, _, z, fun W => ⟨bin_64_21 a b W, rbin_64_21 a b W⟩, hW, hT⟩
  · exact ⟨0, 1, z, fun W => ⟨bin_no op z k a b W hK (by omega), rbin_no op z κ a b W hT hO (by omega)⟩, hW, hT⟩
set_option maxRecDepth 100000 in
set_option maxHeartbeats 4000000 in
theorem lbin2_any (op : Int) (a b : Vec) (w : World) (ho : -9223372036854775808 ≤ op ∧ op ≤ 9223372036854775807) :
    Calls Try.prog 13 #[.int .i64 op, .agg (cells a), .agg (cells b)] w fun e w' => e = .returned (.bool true) ∧ Below w.heap.size w w' := by
  obtain ⟨X, E, z, hT, hW, hR⟩ := bin_both op a b ho
  have hs := HL.two w a b
  have HT := Lib.hid hT
  clear hT hW hR ho
  have hE := eqv (rfl : X = X)
  have hG := @guard_vec
  go_enter Try.func13, Try.ntmps13
  go_wp2_with (first | (with_reducible refine load_vec rfl _ rfl _ rfl (b) (hs.hold (_, b) List.mem_cons_self) ?_) | (with_reducible refine load_vec rfl _ rfl _ rfl (a) (hs.hold (_, a) (List.mem_cons_of_mem _ List.mem_cons_self)) ?_) | (with_reducible refine load_vec rfl _ rfl _ rfl (b) (hs.hold (_, b) (List.mem_cons_of_mem _ List.mem_cons_self)) ?_) | (with_reducible refine load_vec rfl _ rfl _ rfl (a) (hs.hold (_, a) (List.mem_cons_of_mem _ (List.mem_cons_of_mem _ List.mem_cons_self))) ?_) | (with_reducible refine load_vec rfl _ rfl _ rfl (X) (hs.hold (_, X) List.mem_cons_self) ?_) | (with_reducible refine load_vec rfl _ rfl _ rfl (X) (hs.hold (_, X) (List.mem_cons_of_mem _ List.mem_cons_self)) ?_) | (go_at_call 22; (with_reducible refine ((HT.out _).1).mono ?_); rintro e u ⟨rfl, hb⟩; replace hs := hs.below hb; clear hb) | (with_reducible refine store_vec rfl _ _ rfl _ _ rfl rfl 0 (heap_new_zero _) ?_; intro wA hA; replace hs := HL.push hs hA; clear hA) | (go_at_call 31; (with_reducible refine ((HT.out _).2).mono ?_); rintro e u ⟨rfl, hb⟩; replace hs := hs.below hb; clear hb))
  go_ret
  exact ⟨rfl, hs.bel⟩
set_option maxRecDepth 100000 in
set_option maxHeartbeats 4000000 in
theorem bin_walk (op : Int) (a b : Vec) (w : World) (ho : -9223372036854775808 ≤ op ∧ op ≤ 9223372036854775807) :
    Calls Try.prog 4 #[.int .i64 op, .agg (cells a), .agg (cells b)] w fun e w' => e = .returned (.bool true) ∧ Below w.heap.size w w' := by
  have hs := HL.two w a b
  have H1 := Lib.hid (fun W => lbin2_any op a b W ho)
  clear ho
  go_enter Try.func4, Try.ntmps4
  go_wp2_with (first | (with_reducible refine load_vec rfl _ rfl _ rfl (b) (hs.hold (_, b) List.mem_cons_self) ?_) | (with_reducible refine load_vec rfl _ rfl _ rfl (a) (hs.hold (_, a) (List.mem_cons_of_mem _ List.mem_cons_self)) ?_) | ((with_reducible refine load_vec_g ?_ _ rfl _ rfl a (hs.hold (_, a) (List.mem_cons_of_mem _ List.mem_cons_self)) ?_); (focus rfl)) | ((with_reducible refine load_vec_g ?_ _ rfl _ rfl b (hs.hold (_, b) List.mem_cons_self) ?_); (focus rfl)) | (go_at_call 11; (with_reducible refine (awake_any _).mono ?_); rintro e u ⟨rfl, hb⟩; replace hs := hs.below hb; clear hb) | (go_at_call 13; (with_reducible refine (H1.out _).mono ?_); rintro e u ⟨rfl, hb⟩; replace hs := hs.below hb; clear hb))
  go_loopw [7] (fun kv wr => ∃ k : Nat, k ≤ 130 ∧ kv = .int .i64 (64863 + (k : Int)) ∧ HL w [(w.heap.size + 1, b), (w.heap.size, a)] wr) (fun kv _ => (64993 - intOf kv).toNat)
  case atStart => exact ⟨0, Nat.zero_le _, rfl, hs⟩
  case round =>
    clear hs
    obtain ⟨k, hk, rfl, hs⟩ := hrel
    by_cases hlt : k < 130
    · have H2 := Lib.hid (fun W => lbin2_any (64863 + (k : Int)) a b W (by omega))
      go_wp2_with (first | (with_reducible refine load_vec rfl _ rfl _ rfl (b) (hs.hold (_, b) List.mem_cons_self) ?_) | (with_reducible refine load_vec rfl _ rfl _ rfl (a) (hs.hold (_, a) (List.mem_cons_of_mem _ List.mem_cons_self)) ?_) | (go_at_call 13; (with_reducible refine (H2.out _).mono ?_); rintro e u ⟨rfl, hb⟩; replace hs := hs.below hb; clear hb))
      go_roundw
      case rel => first | exact ⟨k + 1, by omega, by go_num, hs⟩ | ((repeat apply Exists.intro); exact ⟨⟨k + 1, by omega, by go_num, hs⟩, rfl⟩)
      case measure => (simp [intOf] <;> omega)
    · obtain rfl : k = 130 := by omega
      go_wp2_with fail
      go_ret
      exact ⟨rfl, hs.bel⟩
end Go.Proofs.Ytgemlndpmbeaeaa
