/-
  plaitref08.Bin: no opcode; the whole contract.
-/
import Derived.Test.YtnjhojjpajnbhaaWidRBR0
import Derived.Test.YtnjhojjpajnbhaaWidRBR1
import Derived.Test.YtnjhojjpajnbhaaWidRBR2
import Derived.Test.YtnjhojjpajnbhaaWidRBR3
import Derived.Test.YtnjhojjpajnbhaaWidRBQ
import Derived.Test.YtnjhojjpajnbhaaWidRBN
import Derived.Test.YtnjhojjpajnbhaaWidRBD
import Derived.Test.YtnjhojjpajnbhaaWideEq
namespace Go.Proofs.Ytnjhojjpajnbhaa
open Go.RowKit Pl
set_option linter.unusedVariables false


set_option maxRecDepth 100000 in
set_option maxHeartbeats 4000000 in
theorem rbin_none (op κ : Int) (a b : Vec) (w : World) (hκ : wrap64 (op - 64768) = κ) (h1 : κ ≠ 101) (h2 : κ ≠ 102) (h3 : κ ≠ 133) (h4 : κ ≠ 134) (h5 : κ ≠ 130) (h6 : κ ≠ 186)
    (h7 : κ < 156 ∨ 160 ≤ κ ∧ κ < 188 ∨ 192 ≤ κ ∧ κ < 220 ∨ 224 ≤ κ) :
    Calls Try.prog 13 #[.int .i64 op, .agg (cells a), .agg (cells b)] w fun e w' => e = .returned (.tuple #[.agg (cells 0), .int .i64 1]) ∧ Below w.heap.size w w' := by
  have t1 : (κ == 101) = false := beq_eq_false_iff_ne.2 h1
  have t2 : (κ == 102) = false := beq_eq_false_iff_ne.2 h2
  have t3 : (κ == 133) = false := beq_eq_false_iff_ne.2 h3
  have t4 : (κ == 134) = false := beq_eq_false_iff_ne.2 h4
  have t5 : (κ == 130) = false := beq_eq_false_iff_ne.2 h5
  have t6 : (κ == 186) = false := beq_eq_false_iff_ne.2 h6
  clear h1 h2 h3 h4 h5 h6
  rcases h7 with h | ⟨h, h'⟩ | ⟨h, h'⟩ | h
  all_goals
    go_enter Try.func13, Try.ntmps13
    go_wp2_with fail
    rw [← cells_zero]
    obtain ⟨W, hW, hA, hB, hR, hO, hX, hY, hZ⟩ := heap_alloc6 w (.cells (cells a) 23) (.cells (cells b) 23) (.cells (cells 0) 23) (.cells (cells 0) 23) (.cells (cells 0) 23) (.cells (cells 0) 23)
    rw [← hW]
    clear hW
    refine wp_loop_rounds 4 ?_
    rw [rounds_succ]
    go_wp2_with fail
    rw [rounds_succ]
    go_wp2_with fail
    rw [rounds_succ]
    go_wp2_with fail
    rw [rounds_succ]
    go_wp2_with (first | (with_reducible refine load_vec rfl _ rfl _ rfl _ hO ?_) | (with_reducible refine store_vec rfl _ _ rfl (w.heap.size + 2) _ rfl rfl _ hR ?_; intro wq hq))
    exact bodyPost_ret (results_vec_tmp rfl _ _ (w.heap.size + 2) _ _ rfl rfl hq.this) rfl ⟨rfl, hZ.trans (hq.below.mono (by omega))⟩


theorem rbin_any (op : Int) (a b : Vec) (w : World) (ho : -9223372036854775808 ≤ op ∧ op ≤ 9223372036854775807) :
    Calls Try.prog 13 #[.int .i64 op, .agg (cells a), .agg (cells b)] w fun e w' => e = .returned (.tuple #[.agg (cells (binW op a b).1), .int .i64 (binW op a b).2]) ∧ Below w.heap.size w w' := by
  unfold binW
  split
  · rename_i h
    obtain ⟨c, hc, rfl⟩ : ∃ c : Nat, c < 4 ∧ op = 64924 + (c : Int) := ⟨(op - 64924).toNat, by omega, by omega⟩
    have e : (64924 + (c : Int) - 64924).toNat = c := by omega
    rw [e, mul_rows 8 c 8 a b (by decide) (by decide)]
    rcases (show c = 0 ∨ c = 1 ∨ c = 2 ∨ c = 3 by omega) with rfl | rfl | rfl | rfl
    · exact rbin_row8_0 a b w
    · exact rbin_row8_1 a b w
    · exact rbin_row8_2 a b w
    · exact rbin_row8_3 a b w
  split
  · rename_i h
    obtain ⟨c, hc, rfl⟩ : ∃ c : Nat, c < 4 ∧ op = 64956 + (c : Int) := ⟨(op - 64956).toNat, by omega, by omega⟩
    have e : (64956 + (c : Int) - 64956).toNat = c := by omega
    rw [e, mul_rows 16 c 4 a b (by decide) (by decide)]
    rcases (show c = 0 ∨ c = 1 ∨ c = 2 ∨ c = 3 by omega) with rfl | rfl | rfl | rfl
    · exact rbin_row16_0 a b w
    · exact rbin_row16_1 a b w
    · exact rbin_row16_2 a b w
    · exact rbin_row16_3 a b w
  split
  · rename_i h
    obtain ⟨c, hc, rfl⟩ : ∃ c : Nat, c < 4 ∧ op = 64988 + (c : Int) := ⟨(op - 64988).toNat, by omega, by omega⟩
    have e : (64988 + (c : Int) - 64988).toNat = c := by omega
    rw [e, mul_rows 32 c 2 a b (by decide) (by decide)]
    rcases (show c = 0 ∨ c = 1 ∨ c = 2 ∨ c = 3 by omega) with rfl | rfl | rfl | rfl
    · exact rbin_row32_0 a b w
    · exact rbin_row32_1 a b w
    · exact rbin_row32_2 a b w
    · exact rbin_row32_3 a b w
  split
  · rename_i h; subst h; rw [nar_eq 8 8 _ _ a b (by decide) (by decide)]; exact rbin_narrow101 a b w
  split
  · rename_i h; subst h; rw [nar_eq 8 8 _ _ a b (by decide) (by decide)]; exact rbin_narrow102 a b w
  split
  · rename_i h; subst h; rw [nar_eq 16 4 _ _ a b (by decide) (by decide)]; exact rbin_narrow133 a b w
  split
  · rename_i h; subst h; rw [nar_eq 16 4 _ _ a b (by decide) (by decide)]; exact rbin_narrow134 a b w
  split
  · rename_i h; subst h; rw [show q15N a b = rq15N a b from funext (q15_eq a b)]; exact rbin_q15 a b w
  split
  · rename_i h; subst h; rw [← dot_eq]; exact rbin_dot a b w
  · exact rbin_none op _ a b w rfl (by unfold wrap64; omega) (by unfold wrap64; omega) (by unfold wrap64; omega) (by unfold wrap64; omega) (by unfold wrap64; omega) (by unfold wrap64; omega) (by unfold wrap64; omega)

end Go.Proofs.Ytnjhojjpajnbhaa
