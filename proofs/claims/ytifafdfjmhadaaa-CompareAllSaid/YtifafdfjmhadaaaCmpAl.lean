/-
  The walk of plaitlaw06.CompareAll.
-/
import Derived.Test.YtifafdfjmhadaaaCmpLc
import Derived.Test.YtifafdfjmhadaaaCmpRA
set_option linter.unusedSimpArgs false
set_option linter.unusedVariables false
namespace Go.Proofs.Ytifafdfjmhadaaa
open Go.RowKit Pl

set_option maxRecDepth 100000 in
set_option maxHeartbeats 4000000 in
theorem all_walk (op : Int) (a b : Vec) (w : World) (ho : -9223372036854775808 ≤ op ∧ op ≤ 9223372036854775807) :
    Calls Try.prog 3 #[.int .i64 op, .agg (cells a), .agg (cells b)] w fun e w' => e = .returned (.bool true) ∧ Below w.heap.size w w' := by
  have hs := HL.two w a b
  have HO := Lib.hid ho
  clear ho
  go_enter Try.func3, Try.ntmps3
  go_wp2_with (first | (go_at_call 10; (with_reducible refine (awake_any _).mono ?_); rintro e u ⟨rfl, hb⟩; replace hs := hs.below hb; clear hb))
  go_loopw [7] (fun kv wr => ∃ k : Nat, k ≤ 187 ∧ kv = .int .i64 (64802 + (k : Int)) ∧ HL w [(w.heap.size + 1, b), (w.heap.size, a)] wr) (fun kv _ => (64989 - intOf kv).toNat)
  case atStart => exact ⟨0, Nat.zero_le _, rfl, hs⟩
  case round =>
    clear hs
    obtain ⟨k, hk, rfl, hs⟩ := hrel
    by_cases hlt : k < 187
    · obtain ⟨at_, hat⟩ : ∃ z : Int, z = if k = 186 then op else 64802 + (k : Int) := ⟨_, rfl⟩
      have hr : -9223372036854775808 ≤ at_ ∧ at_ ≤ 9223372036854775807 := by rw [hat]; split; exact HO.out; omega
      have T := fun W => cmp_any at_ a b W hr
      have R := fun W => rcmp_any at_ a b W hr
      obtain ⟨X, hX⟩ : ∃ X, X = (cmpV at_ a b).1 := ⟨_, rfl⟩
      obtain ⟨Y, hY⟩ : ∃ X, X = (cmpV at_ a b).2 := ⟨_, rfl⟩
      rw [← hX, ← hY] at T R
      clear hX hY hr
      by_cases h7 : k = 186
      · rw [if_pos h7] at hat
        subst hat
        subst h7
        have HT := Lib.hid T
        have HR := Lib.hid R
        clear T R
        as_aux_lemma =>
        have hE := eqv (rfl : X = X)
        go_wp2_with (first | (with_reducible refine load_vec rfl _ rfl _ rfl (b) (hs.hold (_, b) List.mem_cons_self) ?_) | (with_reducible refine load_vec rfl _ rfl _ rfl (a) (hs.hold (_, a) (List.mem_cons_of_mem _ List.mem_cons_self)) ?_) | (with_reducible refine load_vec rfl _ rfl _ rfl (X) (hs.hold (_, X) List.mem_cons_self) ?_) | (with_reducible refine load_vec rfl _ rfl _ rfl (X) (hs.hold (_, X) (List.mem_cons_of_mem _ List.mem_cons_self)) ?_) | (with_reducible refine load_vec rfl _ rfl _ rfl (b) (hs.hold (_, b) (List.mem_cons_of_mem _ List.mem_cons_self)) ?_) | (with_reducible refine load_vec rfl _ rfl _ rfl (a) (hs.hold (_, a) (List.mem_cons_of_mem _ (List.mem_cons_of_mem _ List.mem_cons_self))) ?_) | (go_at_call 11; (with_reducible refine (HT.out _).mono ?_); rintro e u ⟨rfl, hb⟩; replace hs := hs.below hb; clear hb) | (go_at_call 12; (with_reducible refine (HR.out _).mono ?_); rintro e u ⟨rfl, hb⟩; replace hs := hs.below hb; clear hb) | (with_reducible refine store_vec rfl _ _ rfl _ _ rfl rfl 0 (heap_new_zero _) ?_; intro wA hA; replace hs := HL.push hs hA; clear hA))
        go_roundw
        case rel => first | exact ⟨187, by omega, by go_num, HL.pop (HL.pop hs)⟩ | ((repeat apply Exists.intro); exact ⟨⟨187, by omega, by go_num, HL.pop (HL.pop hs)⟩, rfl⟩)
        case measure => (simp [intOf] <;> omega)
      · rw [if_neg h7] at hat
        subst hat
        have HT := Lib.hid T
        have HR := Lib.hid R
        clear T R
        as_aux_lemma =>
        have hE := eqv (rfl : X = X)
        go_wp2_with (first | (with_reducible refine load_vec rfl _ rfl _ rfl (b) (hs.hold (_, b) List.mem_cons_self) ?_) | (with_reducible refine load_vec rfl _ rfl _ rfl (a) (hs.hold (_, a) (List.mem_cons_of_mem _ List.mem_cons_self)) ?_) | (with_reducible refine load_vec rfl _ rfl _ rfl (X) (hs.hold (_, X) List.mem_cons_self) ?_) | (with_reducible refine load_vec rfl _ rfl _ rfl (X) (hs.hold (_, X) (List.mem_cons_of_mem _ List.mem_cons_self)) ?_) | (with_reducible refine load_vec rfl _ rfl _ rfl (b) (hs.hold (_, b) (List.mem_cons_of_mem _ List.mem_cons_self)) ?_) | (with_reducible refine load_vec rfl _ rfl _ rfl (a) (hs.hold (_, a) (List.mem_cons_of_mem _ (List.mem_cons_of_mem _ List.mem_cons_self))) ?_) | (go_at_call 11; (with_reducible refine (HT.out _).mono ?_); rintro e u ⟨rfl, hb⟩; replace hs := hs.below hb; clear hb) | (go_at_call 12; (with_reducible refine (HR.out _).mono ?_); rintro e u ⟨rfl, hb⟩; replace hs := hs.below hb; clear hb) | (with_reducible refine store_vec rfl _ _ rfl _ _ rfl rfl 0 (heap_new_zero _) ?_; intro wA hA; replace hs := HL.push hs hA; clear hA))
        go_roundw
        case rel => first | exact ⟨k + 1, by omega, by go_num, HL.pop (HL.pop hs)⟩ | ((repeat apply Exists.intro); exact ⟨⟨k + 1, by omega, by go_num, HL.pop (HL.pop hs)⟩, rfl⟩)
        case measure => (simp [intOf] <;> omega)
    · obtain rfl : k = 187 := by omega
      go_wp2_with fail
      go_ret
      exact ⟨rfl, hs.bel⟩
end Go.Proofs.Ytifafdfjmhadaaa
