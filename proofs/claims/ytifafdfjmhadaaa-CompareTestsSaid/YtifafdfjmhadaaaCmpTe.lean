/-
  The walk of plaitlaw06.CompareTests.
-/
import Derived.Test.YtifafdfjmhadaaaCmpLc
import Derived.Test.YtifafdfjmhadaaaCmpRT
set_option linter.unusedSimpArgs false
set_option linter.unusedVariables false
namespace Go.Proofs.Ytifafdfjmhadaaa
open Go.RowKit Pl

set_option maxRecDepth 100000 in
set_option maxHeartbeats 4000000 in
theorem tests_walk (op : Int) (v : Vec) (w : World) (ho : -9223372036854775808 ≤ op ∧ op ≤ 9223372036854775807) :
    Calls Try.prog 4 #[.int .i64 op, .agg (cells v)] w fun e w' => e = .returned (.bool true) ∧ Below w.heap.size w w' := by
  have hs : HL w [(w.heap.size, v)] (w.alloc (.cells (cells v) 23)) := N1.start 0 ((Below.refl _ _).alloc (Nat.le_refl _) _) (by
    simp only [List.mem_cons, List.not_mem_nil, or_false, forall_eq]
    exact heap_alloc_new _ _)
  have HO := Lib.hid ho
  clear ho
  go_enter Try.func4, Try.ntmps4
  go_wp2_with (first | (go_at_call 10; (with_reducible refine (awake_any _).mono ?_); rintro e u ⟨rfl, hb⟩; replace hs := hs.below hb; clear hb))
  go_loopw [5] (fun kv wr => ∃ k : Nat, k ≤ 118 ∧ kv = .int .i64 (64850 + (k : Int)) ∧ HL w [(w.heap.size, v)] wr) (fun kv _ => (64968 - intOf kv).toNat)
  case atStart => exact ⟨0, Nat.zero_le _, rfl, hs⟩
  case round =>
    clear hs
    obtain ⟨k, hk, rfl, hs⟩ := hrel
    by_cases hlt : k < 118
    · obtain ⟨at_, hat⟩ : ∃ z : Int, z = if k = 117 then op else 64850 + (k : Int) := ⟨_, rfl⟩
      have hr : -9223372036854775808 ≤ at_ ∧ at_ ≤ 9223372036854775807 := by rw [hat]; split; exact HO.out; omega
      have T := fun W => test_any at_ v W hr
      have R := fun W => rtest_any at_ v W
      obtain ⟨X, hX⟩ : ∃ X, X = (testV at_ v).1 := ⟨_, rfl⟩
      obtain ⟨Y, hY⟩ : ∃ X, X = (testV at_ v).2 := ⟨_, rfl⟩
      rw [← hX, ← hY] at T R
      clear hX hY hr
      by_cases h7 : k = 117
      · rw [if_pos h7] at hat
        subst hat
        subst h7
        have HT := Lib.hid T
        have HR := Lib.hid R
        clear T R
        as_aux_lemma =>
        go_wp2_with (first | (with_reducible refine load_vec rfl _ rfl _ rfl (v) (hs.hold (_, v) List.mem_cons_self) ?_) | (go_at_call 13; (with_reducible refine (HT.out _).mono ?_); rintro e u ⟨rfl, hb⟩; replace hs := hs.below hb; clear hb) | (go_at_call 14; (with_reducible refine (HR.out _).mono ?_); rintro e u ⟨rfl, hb⟩; replace hs := hs.below hb; clear hb))
        go_roundw
        case rel => first | exact ⟨118, by omega, by go_num, hs⟩ | ((repeat apply Exists.intro); exact ⟨⟨118, by omega, by go_num, hs⟩, rfl⟩)
        case measure => (simp [intOf] <;> omega)
      · rw [if_neg h7] at hat
        subst hat
        have HT := Lib.hid T
        have HR := Lib.hid R
        clear T R
        as_aux_lemma =>
        go_wp2_with (first | (with_reducible refine load_vec rfl _ rfl _ rfl (v) (hs.hold (_, v) List.mem_cons_self) ?_) | (go_at_call 13; (with_reducible refine (HT.out _).mono ?_); rintro e u ⟨rfl, hb⟩; replace hs := hs.below hb; clear hb) | (go_at_call 14; (with_reducible refine (HR.out _).mono ?_); rintro e u ⟨rfl, hb⟩; replace hs := hs.below hb; clear hb))
        go_roundw
        case rel => first | exact ⟨k + 1, by omega, by go_num, hs⟩ | ((repeat apply Exists.intro); exact ⟨⟨k + 1, by omega, by go_num, hs⟩, rfl⟩)
        case measure => (simp [intOf] <;> omega)
    · obtain rfl : k = 118 := by omega
      go_wp2_with fail
      go_ret
      exact ⟨rfl, hs.bel⟩
end Go.Proofs.Ytifafdfjmhadaaa
