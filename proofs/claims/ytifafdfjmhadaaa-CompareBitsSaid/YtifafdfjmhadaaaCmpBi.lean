/-
  The walk of plaitlaw06.CompareBits.
-/
import Derived.Test.YtifafdfjmhadaaaCmpLc
import Derived.Test.YtifafdfjmhadaaaCmpRB77
import Derived.Test.YtifafdfjmhadaaaCmpRB78
import Derived.Test.YtifafdfjmhadaaaCmpRB79
import Derived.Test.YtifafdfjmhadaaaCmpRB80
import Derived.Test.YtifafdfjmhadaaaCmpRB81
import Derived.Test.YtifafdfjmhadaaaCmpRB82
import Derived.Test.YtifafdfjmhadaaaCmpBo
import Derived.Test.YtifafdfjmhadaaaCmpBn
import Derived.Test.YtifafdfjmhadaaaOpenV
set_option linter.unusedSimpArgs false
set_option linter.unusedVariables false
namespace Go.Proofs.Ytifafdfjmhadaaa
open Go.RowKit Pl

theorem bits_both (op : Int) (v : Value) (m : Nat) (f : Nat → Vec) (w : World) (hv : VView w v m f) (ho : -9223372036854775808 ≤ op ∧ op ≤ 9223372036854775807) :
    ∃ (X : Vec) (E : Int), ∀ W, Below w.heap.size w W → (Calls Try.prog 15 #[.int .i64 op, v] W fun e w' => e = .returned (.tuple #[.agg (cells X), .int .i64 E]) ∧ Below W.heap.size W w') ∧ (Calls Try.prog 16 #[.int .i64 op, v] W fun e w' => e = .returned (.tuple #[.agg (cells X), .int .i64 E]) ∧ Below W.heap.size W w') := by
  obtain ⟨ad, c, rfl, hmc, hcm, hx⟩ := hv.out
  have hm : m ≤ 9223372036854775807 := by unfold maxLen at hcm; omega
  by_cases hg : op = 64845 ∧ m = 1 ∨ 64846 ≤ op ∧ op ≤ 64849 ∧ m = 2 ∨ op = 64850 ∧ m = 3
  · rcases hx with h0 | ⟨b, off, rfl, hb, hr⟩
    · omega
    · have R : ∀ W, Below w.heap.size w W → ∀ i, i < m → W.rangeAt b (off + 16 * i) (cells (f i)).toList := fun W hW i hi => rangeAt_below (hr i hi) hb hW
      have HBW : ∀ W, Below w.heap.size w W → b < W.heap.size := fun W hW => Nat.lt_of_lt_of_le hb hW.size
      rcases hg with ⟨rfl, rfl⟩ | ⟨h1, h2, rfl⟩ | ⟨rfl, rfl⟩
      · exact ⟨_, _, fun W hW => ⟨bits_77o (f 0) (f 0) (f 0) W b c off (HBW W hW) (R W hW 0 (by decide)) (R W hW 0 (by decide)) (R W hW 0 (by decide)), rbits_77 (f 0) W b c off (HBW W hW) (R W hW 0 (by decide))⟩⟩
      · rcases (show op = 64846 ∨ op = 64847 ∨ op = 64848 ∨ op = 64849 by omega) with rfl | rfl | rfl | rfl
        · exact ⟨_, _, fun W hW => ⟨bits_78o (f 0) (f 1) (f 1) W b c off (HBW W hW) (R W hW 0 (by decide)) (R W hW 1 (by decide)) (R W hW 1 (by decide)), rbits_78 (f 0) (f 1) W b c off (HBW W hW) (R W hW 0 (by decide)) (R W hW 1 (by decide))⟩⟩
        · exact ⟨_, _, fun W hW => ⟨bits_79o (f 0) (f 1) (f 1) W b c off (HBW W hW) (R W hW 0 (by decide)) (R W hW 1 (by decide)) (R W hW 1 (by decide)), rbits_79 (f 0) (f 1) W b c off (HBW W hW) (R W hW 0 (by decide)) (R W hW 1 (by decide))⟩⟩
        · exact ⟨_, _, fun W hW => ⟨bits_80o (f 0) (f 1) (f 1) W b c off (HBW W hW) (R W hW 0 (by decide)) (R W hW 1 (by decide)) (R W hW 1 (by decide)), rbits_80 (f 0) (f 1) W b c off (HBW W hW) (R W hW 0 (by decide)) (R W hW 1 (by decide))⟩⟩
        · exact ⟨_, _, fun W hW => ⟨bits_81o (f 0) (f 1) (f 1) W b c off (HBW W hW) (R W hW 0 (by decide)) (R W hW 1 (by decide)) (R W hW 1 (by decide)), rbits_81 (f 0) (f 1) W b c off (HBW W hW) (R W hW 0 (by decide)) (R W hW 1 (by decide))⟩⟩
      · exact ⟨_, _, fun W hW => ⟨bits_82o (f 0) (f 1) (f 2) W b c off (HBW W hW) (R W hW 0 (by decide)) (R W hW 1 (by decide)) (R W hW 2 (by decide)), rbits_82 (f 0) (f 1) (f 2) W b c off (HBW W hW) (R W hW 0 (by decide)) (R W hW 1 (by decide)) (R W hW 2 (by decide))⟩⟩
  · exact ⟨0, 1, fun W hW => ⟨bits_no op ad m c W ho hm hg, rbits_no op ad m c W ho hm hg⟩⟩
set_option maxRecDepth 100000 in
set_option maxHeartbeats 4000000 in
theorem cbits_walk (op : Int) (v : Value) (m : Nat) (f : Nat → Vec) (w : World) (hv : VView w v m f) (ho : -9223372036854775808 ≤ op ∧ op ≤ 9223372036854775807) :
    Calls Try.prog 5 #[.int .i64 op, v] w fun e w' => e = .returned (.bool true) ∧ Below w.heap.size w w' := by
  have hs : HL w [] w := HL.start w
  have HO := Lib.hid ho
  have HV := Lib.hid hv
  clear ho hv
  go_enter Try.func5, Try.ntmps5
  go_wp2_with (first | (go_at_call 10; (with_reducible refine (awake_any _).mono ?_); rintro e u ⟨rfl, hb⟩; replace hs := hs.below hb; clear hb))
  go_loopw [5] (fun kv wr => ∃ k : Nat, k ≤ 9 ∧ kv = .int .i64 (76 + (k : Int)) ∧ HL w [] wr) (fun kv _ => (85 - intOf kv).toNat)
  case atStart => exact ⟨0, Nat.zero_le _, rfl, hs⟩
  case round =>
    clear hs
    obtain ⟨k, hk, rfl, hs⟩ := hrel
    by_cases hlt : k < 9
    · obtain ⟨at_, hat⟩ : ∃ z : Int, z = if k = 8 then op else 64844 + (k : Int) := ⟨_, rfl⟩
      have hr : -9223372036854775808 ≤ at_ ∧ at_ ≤ 9223372036854775807 := by rw [hat]; split; exact HO.out; omega
      obtain ⟨X, E, hT⟩ := bits_both at_ v m f w HV.out hr
      clear hr
      by_cases h7 : k = 8
      · rw [if_pos h7] at hat
        subst hat
        subst h7
        have HT := Lib.hid hT
        clear hT
        as_aux_lemma =>
        have hE := eqv (rfl : X = X)
        go_wp2_with (first | (with_reducible refine load_vec rfl _ rfl _ rfl (X) (hs.hold (_, X) List.mem_cons_self) ?_) | (with_reducible refine load_vec rfl _ rfl _ rfl (X) (hs.hold (_, X) (List.mem_cons_of_mem _ List.mem_cons_self)) ?_) | (go_at_call 15; (with_reducible refine ((HT.out _ hs.bel).1).mono ?_); rintro e u ⟨rfl, hb⟩; replace hs := hs.below hb; clear hb) | (with_reducible refine store_vec rfl _ _ rfl _ _ rfl rfl 0 (heap_new_zero _) ?_; intro wA hA; replace hs := HL.push hs hA; clear hA) | (go_at_call 16; (with_reducible refine ((HT.out _ hs.bel).2).mono ?_); rintro e u ⟨rfl, hb⟩; replace hs := hs.below hb; clear hb))
        go_roundw
        case rel => first | exact ⟨9, by omega, by go_num, HL.pop (HL.pop hs)⟩ | ((repeat apply Exists.intro); exact ⟨⟨9, by omega, by go_num, HL.pop (HL.pop hs)⟩, rfl⟩)
        case measure => (simp [intOf] <;> omega)
      · rw [if_neg h7] at hat
        subst hat
        have e1 : IntKind.i64.wrap (64768 + (76 + (k : Int))) = 64844 + (k : Int) := by rw [IntWalk.i64_in _ (by omega)]; omega
        have HT := Lib.hid hT
        clear hT
        as_aux_lemma =>
        have hE := eqv (rfl : X = X)
        go_wp2_with (first | (with_reducible refine load_vec rfl _ rfl _ rfl (X) (hs.hold (_, X) List.mem_cons_self) ?_) | (with_reducible refine load_vec rfl _ rfl _ rfl (X) (hs.hold (_, X) (List.mem_cons_of_mem _ List.mem_cons_self)) ?_) | (go_at_call 15; (with_reducible refine ((HT.out _ hs.bel).1).mono ?_); rintro e u ⟨rfl, hb⟩; replace hs := hs.below hb; clear hb) | (with_reducible refine store_vec rfl _ _ rfl _ _ rfl rfl 0 (heap_new_zero _) ?_; intro wA hA; replace hs := HL.push hs hA; clear hA) | (go_at_call 16; (with_reducible refine ((HT.out _ hs.bel).2).mono ?_); rintro e u ⟨rfl, hb⟩; replace hs := hs.below hb; clear hb))
        go_roundw
        case rel => first | exact ⟨k + 1, by omega, by go_num, HL.pop (HL.pop hs)⟩ | ((repeat apply Exists.intro); exact ⟨⟨k + 1, by omega, by go_num, HL.pop (HL.pop hs)⟩, rfl⟩)
        case measure => (simp [intOf] <;> omega)
    · obtain rfl : k = 9 := by omega
      go_wp2_with fail
      go_ret
      exact ⟨rfl, hs.bel⟩
end Go.Proofs.Ytifafdfjmhadaaa
