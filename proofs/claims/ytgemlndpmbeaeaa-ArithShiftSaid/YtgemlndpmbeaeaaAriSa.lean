/-
  The walk of plaitlaw05.ArithShift.
-/
import Derived.Test.YtgemlndpmbeaeaaAriAk
import Derived.Test.YtgemlndpmbeaeaaAriRS8
import Derived.Test.YtgemlndpmbeaeaaAriRS16
import Derived.Test.YtgemlndpmbeaeaaAriRS32
import Derived.Test.YtgemlndpmbeaeaaAriRS64
import Derived.Test.YtgemlndpmbeaeaaAriL
set_option linter.unusedSimpArgs false
set_option linter.unusedVariables false
namespace Go.Proofs.Ytgemlndpmbeaeaa
open Go.RowKit Pl

theorem sh_both_ops : ∀ j : Fin 128, wF (64864 + (j.val : Int)) ≠ 0 → (11 ≤ ((64864 + (j.val : Int) - 64768) % 32) ∧ ((64864 + (j.val : Int) - 64768) % 32) ≤ 13) → (64864 + (j.val : Int)) ∈ ([64875, 64876, 64877, 64907, 64908, 64909, 64939, 64940, 64941, 64971, 64972, 64973] : List Int) := by decide +kernel
theorem sh_both (op : Int) (v : Vec) (n : Nat) (hn : n < 4294967296) (ho : -9223372036854775808 ≤ op ∧ op ≤ 9223372036854775807) :
    ∃ (X : Vec) (E z : Int), (∀ W, (Calls Try.prog 14 #[.int .i64 op, .agg (cells v), .int .u32 (n : Int)] W fun e w' => e = .returned (.tuple #[.agg (cells X), .int .i64 E]) ∧ Below W.heap.size W w') ∧ (Calls Try.prog 15 #[.int .i64 op, .agg (cells v), .int .u32 (n : Int)] W fun e w' => e = .returned (.tuple #[.agg (cells X), .int .i64 E]) ∧ Below W.heap.size W w')) ∧ (∀ W, Calls Try.prog 21 #[.int .i64 op] W fun e w' => e = .returned (.int .i64 z) ∧ w' = W) ∧ (∀ W, Calls Try.prog 30 #[.int .i64 op] W fun e w' => e = .returned (.int .i64 z) ∧ Below W.heap.size W w') := by
  obtain ⟨z, k, hK, hz, hk⟩ := kind_any op ho
  have hT : ∀ W, Calls Try.prog 30 #[.int .i64 op] W fun e w' => e = .returned (.int .i64 z) ∧ Below W.heap.size W w' := fun W => by rw [hz]; exact rwidth_any op W ho
  obtain ⟨κ, hO, h0, h1⟩ := roff_any op ho z k hz hk
  have hW := fun W => width_any op z k W hK
  by_cases hg : z ≠ 0 ∧ (11 ≤ k ∧ k ≤ 13)
  · obtain ⟨r1, r2, r3⟩ := hk hg.1
    have hm := sh_both_ops ⟨(op - 64864).toNat, by omega⟩
    have e : (64864 : Int) + (((op - 64864).toNat : Nat) : Int) = op := by omega
    simp only [e, ← hz, ← r3] at hm
    have hl := hm hg.1 hg.2
    simp only [List.mem_cons, List.not_mem_nil, or_false] at hl
    clear hm e hO h0 h1 hK hk
    rcases hl with rfl | rfl | rfl | rfl | rfl | rfl | rfl | rfl | rfl | rfl | rfl | rfl
    · exact ⟨_, _, z, fun W => ⟨sh_8_11 v n _ W rfl hn, rsh_8_11 v n _ rfl hn W⟩, hW, hT⟩
    · exact ⟨_, _, z, fun W => ⟨sh_8_12 v n _ W rfl hn, rsh_8_12 v n _ rfl hn W⟩, hW, hT⟩
    · exact ⟨_, _, z, fun W => ⟨sh_8_13 v n _ W rfl hn, rsh_8_13 v n _ rfl hn W⟩, hW, hT⟩
    · exact ⟨_, _, z, fun W => ⟨sh_16_11 v n _ W rfl hn, rsh_16_11 v n _ rfl hn W⟩, hW, hT⟩
    · exact ⟨_, _, z, fun W => ⟨sh_16_12 v n _ W rfl hn, rsh_16_12 v n _ rfl hn W⟩, hW, hT⟩
    · exact ⟨_, _, z, fun W => ⟨sh_16_13 v n _ W rfl hn, rsh_16_13 v n _ rfl hn W⟩, hW, hT⟩
    · exact ⟨_, _, z, fun W => ⟨sh_32_11 v n _ W rfl hn, rsh_32_11 v n _ rfl hn W⟩, hW, hT⟩
    · exact ⟨_, _, z, fun W => ⟨sh_32_12 v n _ W rfl hn, rsh_32_12 v n _ rfl hn W⟩, hW, hT⟩
    · exact ⟨_, _, z, fun W => ⟨sh_32_13 v n _ W rfl hn, rsh_32_13 v n _ rfl hn W⟩, hW, hT⟩
    · exact ⟨_, _, z, fun W => ⟨sh_64_11 v n _ W rfl hn, rsh_64_11 v n _ rfl hn W⟩, hW, hT⟩
    · exact ⟨_, _, z, fun W => ⟨sh_64_12 v n _ W rfl hn, rsh_64_12 v n _ rfl hn W⟩, hW, hT⟩
    · exact ⟨_, _, z, fun W => ⟨sh_64_13 v n _ W rfl hn, rsh_64_13 v n _ rfl hn W⟩, hW, hT⟩
  · exact ⟨0, 1, z, fun W => ⟨sh_no op z k v n W hK (by omega), rsh_no op z κ v n W hT hO (by omega)⟩, hW, hT⟩
set_option maxRecDepth 100000 in
set_option maxHeartbeats 4000000 in
theorem sh_walk (op : Int) (v : Vec) (n : Nat) (w : World) (ho : -9223372036854775808 ≤ op ∧ op ≤ 9223372036854775807) (hn : n < 4294967296) :
    Calls Try.prog 5 #[.int .i64 op, .agg (cells v), .int .u32 (n : Int)] w fun e w' => e = .returned (.bool true) ∧ Below w.heap.size w w' := by
  have hs : HL w [(w.heap.size, v)] (w.alloc (.cells (cells v) 23)) := N1.start 0 ((Below.refl _ _).alloc (Nat.le_refl _) _) (by
    simp only [List.mem_cons, List.not_mem_nil, or_false, forall_eq]
    exact heap_alloc_new _ _)
  have HO := Lib.hid ho
  have HN := Lib.hid hn
  clear ho hn
  go_enter Try.func5, Try.ntmps5
  go_wp2_with (first | (go_at_call 11; (with_reducible refine (awake_any _).mono ?_); rintro e u ⟨rfl, hb⟩; replace hs := hs.below hb; clear hb))
  go_loopw [7] (fun kv wr => ∃ k : Nat, k ≤ 131 ∧ kv = .int .i64 (64863 + (k : Int)) ∧ HL w [(w.heap.size, v)] wr) (fun kv _ => (64994 - intOf kv).toNat)
  case atStart => exact ⟨0, Nat.zero_le _, rfl, hs⟩
  case round =>
    clear hs
    obtain ⟨k, hk, rfl, hs⟩ := hrel
    by_cases hlt : k < 131
    · obtain ⟨at_, hat⟩ : ∃ z : Int, z = if k = 130 then op else 64863 + (k : Int) := ⟨_, rfl⟩
      have hr : -9223372036854775808 ≤ at_ ∧ at_ ≤ 9223372036854775807 := by rw [hat]; split; exact HO.out; omega
      obtain ⟨X, E, z, hT, hW, hR⟩ := sh_both at_ v n HN.out hr
      clear hr hW hR
      by_cases h7 : k = 130
      · rw [if_pos h7] at hat
        subst hat
        subst h7
        have HT := Lib.hid hT
        clear hT
        as_aux_lemma =>
        have hE := eqv (rfl : X = X)
        go_wp2_with (first | (with_reducible refine load_vec rfl _ rfl _ rfl (v) (hs.hold (_, v) List.mem_cons_self) ?_) | (with_reducible refine load_vec rfl _ rfl _ rfl (v) (hs.hold (_, v) (List.mem_cons_of_mem _ List.mem_cons_self)) ?_) | (with_reducible refine load_vec rfl _ rfl _ rfl (X) (hs.hold (_, X) List.mem_cons_self) ?_) | (with_reducible refine load_vec rfl _ rfl _ rfl (X) (hs.hold (_, X) (List.mem_cons_of_mem _ List.mem_cons_self)) ?_) | (go_at_call 14; (with_reducible refine ((HT.out _).1).mono ?_); rintro e u ⟨rfl, hb⟩; replace hs := hs.below hb; clear hb) | (with_reducible refine store_vec rfl _ _ rfl _ _ rfl rfl 0 (heap_new_zero _) ?_; intro wA hA; replace hs := HL.push hs hA; clear hA) | (go_at_call 15; (with_reducible refine ((HT.out _).2).mono ?_); rintro e u ⟨rfl, hb⟩; replace hs := hs.below hb; clear hb))
        go_roundw
        case rel => first | exact ⟨131, by omega, by go_num, HL.pop (HL.pop hs)⟩ | ((repeat apply Exists.intro); exact ⟨⟨131, by omega, by go_num, HL.pop (HL.pop hs)⟩, rfl⟩)
        case measure => (simp [intOf] <;> omega)
      · rw [if_neg h7] at hat
        subst hat
        have HT := Lib.hid hT
        clear hT
        as_aux_lemma =>
        have hE := eqv (rfl : X = X)
        go_wp2_with (first | (with_reducible refine load_vec rfl _ rfl _ rfl (v) (hs.hold (_, v) List.mem_cons_self) ?_) | (with_reducible refine load_vec rfl _ rfl _ rfl (v) (hs.hold (_, v) (List.mem_cons_of_mem _ List.mem_cons_self)) ?_) | (with_reducible refine load_vec rfl _ rfl _ rfl (X) (hs.hold (_, X) List.mem_cons_self) ?_) | (with_reducible refine load_vec rfl _ rfl _ rfl (X) (hs.hold (_, X) (List.mem_cons_of_mem _ List.mem_cons_self)) ?_) | (go_at_call 14; (with_reducible refine ((HT.out _).1).mono ?_); rintro e u ⟨rfl, hb⟩; replace hs := hs.below hb; clear hb) | (with_reducible refine store_vec rfl _ _ rfl _ _ rfl rfl 0 (heap_new_zero _) ?_; intro wA hA; replace hs := HL.push hs hA; clear hA) | (go_at_call 15; (with_reducible refine ((HT.out _).2).mono ?_); rintro e u ⟨rfl, hb⟩; replace hs := hs.below hb; clear hb))
        go_roundw
        case rel => first | exact ⟨k + 1, by omega, by go_num, HL.pop (HL.pop hs)⟩ | ((repeat apply Exists.intro); exact ⟨⟨k + 1, by omega, by go_num, HL.pop (HL.pop hs)⟩, rfl⟩)
        case measure => (simp [intOf] <;> omega)
    · obtain rfl : k = 131 := by omega
      go_wp2_with fail
      go_ret
      exact ⟨rfl, hs.bel⟩
end Go.Proofs.Ytgemlndpmbeaeaa
