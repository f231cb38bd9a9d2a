/-
  compare.order, compare.holds: their contracts.
-/
import Derived.Test.YtcpfabkokgiepaaPair
set_option linter.unusedSimpArgs false
set_option linter.unusedVariables false
namespace Go.Proofs.Ytcpfabkokgiepaa
open Go.RowKit Pl
set_option linter.unusedVariables false
set_option linter.unusedSimpArgs false

end Go.Proofs.Ytcpfabkokgiepaa
namespace Pl
open Go
/-- A lane as an unsigned number of 64 bits. -/
def uns (z : Int) : Int := z % 18446744073709551616
/-- Comparison number k of two lanes with their signs. -/
def holdC (k : Int) (s t : Int) : Bool :=
  if k = 0 then decide (s = t) else if k = 1 then !decide (s = t) else if k = 2 then decide (s < t) else if k = 3 then decide (uns s < uns t) else if k = 4 then decide (t < s) else if k = 5 then decide (uns t < uns s)
  else if k = 6 then decide (s ≤ t) else if k = 7 then decide (uns s ≤ uns t) else if k = 8 then decide (t ≤ s) else decide (uns t ≤ uns s)
end Pl
namespace Go.Proofs.Ytcpfabkokgiepaa
open Go.RowKit Pl
theorem uns_u64 (z : Int) : IntKind.u64.wrap z = uns z := by rw [IntKind.wrap_u64]; rfl
theorem ret_bool {a b : Bool} (h : a = b) : Ending.returned (.bool a) = .returned (.bool b) := by rw [h]
theorem hold_0 {k : Int} (s t : Int) (h : (k == 0) = true) : (s == t) = holdC k s t := by
  obtain rfl : k = 0 := by simpa using h
  show _ = decide (s = t)
  rw [Bool.eq_iff_iff]; simp
theorem hold_1 {k : Int} (s t : Int) (h : (k == 1) = true) : (s != t) = holdC k s t := by
  obtain rfl : k = 1 := by simpa using h
  show _ = !decide (s = t)
  rw [Bool.eq_iff_iff]; simp
theorem hold_2 {k : Int} (s t : Int) (h : (k == 2) = true) : (decide (s < t)) = holdC k s t := by
  obtain rfl : k = 2 := by simpa using h
  rfl
theorem hold_3 {k : Int} (s t : Int) (h : (k == 3) = true) : (decide (uns s < uns t)) = holdC k s t := by
  obtain rfl : k = 3 := by simpa using h
  rfl
theorem hold_4 {k : Int} (s t : Int) (h : (k == 4) = true) : (decide (t < s)) = holdC k s t := by
  obtain rfl : k = 4 := by simpa using h
  rfl
theorem hold_5 {k : Int} (s t : Int) (h : (k == 5) = true) : (decide (uns t < uns s)) = holdC k s t := by
  obtain rfl : k = 5 := by simpa using h
  rfl
theorem hold_6 {k : Int} (s t : Int) (h : (k == 6) = true) : (decide (s ≤ t)) = holdC k s t := by
  obtain rfl : k = 6 := by simpa using h
  rfl
theorem hold_7 {k : Int} (s t : Int) (h : (k == 7) = true) : (decide (uns s ≤ uns t)) = holdC k s t := by
  obtain rfl : k = 7 := by simpa using h
  rfl
theorem hold_8 {k : Int} (s t : Int) (h : (k == 8) = true) : (decide (t ≤ s)) = holdC k s t := by
  obtain rfl : k = 8 := by simpa using h
  rfl
theorem hold_9 {k : Int} (s t : Int) (h0 : (k == 0) = false) (h1 : (k == 1) = false) (h2 : (k == 2) = false) (h3 : (k == 3) = false) (h4 : (k == 4) = false) (h5 : (k == 5) = false) (h6 : (k == 6) = false) (h7 : (k == 7) = false) (h8 : (k == 8) = false) : (decide (uns t ≤ uns s)) = holdC k s t := by
  simp only [beq_eq_false_iff_ne, ne_eq] at h0 h1 h2 h3 h4 h5 h6 h7 h8
  unfold holdC
  rw [if_neg h0, if_neg h1, if_neg h2, if_neg h3, if_neg h4, if_neg h5, if_neg h6, if_neg h7, if_neg h8]
theorem holds_any (k s t : Int) (w : World) : Calls Try.prog 60 #[.int .i64 k, .int .i64 s, .int .i64 t] w fun e w' => e = .returned (.bool (holdC k s t)) ∧ w' = w := by
  have e1 := uns_u64 s
  have e2 := uns_u64 t
  go_enter Try.func60, Try.ntmps60
  go_wp2
  all_goals go_ret
  · exact ⟨ret_bool (hold_0 s t (by assumption)), rfl⟩
  · exact ⟨ret_bool (hold_1 s t (by assumption)), rfl⟩
  · exact ⟨ret_bool (hold_2 s t (by assumption)), rfl⟩
  · exact ⟨ret_bool (hold_3 s t (by assumption)), rfl⟩
  · exact ⟨ret_bool (hold_4 s t (by assumption)), rfl⟩
  · exact ⟨ret_bool (hold_5 s t (by assumption)), rfl⟩
  · exact ⟨ret_bool (hold_6 s t (by assumption)), rfl⟩
  · exact ⟨ret_bool (hold_7 s t (by assumption)), rfl⟩
  · exact ⟨ret_bool (hold_8 s t (by assumption)), rfl⟩
  · exact ⟨ret_bool (hold_9 s t (by assumption) (by assumption) (by assumption) (by assumption) (by assumption) (by assumption) (by assumption) (by assumption) (by assumption)), rfl⟩

theorem ret_pair2 {a b c d : Int} (h : a = c) (k : b = d) : Ending.returned (.tuple #[.int .i64 a, .int .i64 b]) = .returned (.tuple #[.int .i64 c, .int .i64 d]) := by rw [h, k]
theorem order_row0 (c : Nat) (w : World) (hc : c < 10) : Calls Try.prog 59 #[.int .i64 (64803 + (c : Int))] w fun e w' => e = .returned (.tuple #[.int .i64 8, .int .i64 c]) ∧ w' = w := by
  have e1 : IntKind.i64.wrap (64803 + (c : Int) - 64768) = 35 + (c : Int) := by rw [IntWalk.i64_in _ (by omega)]; omega
  go_enter Try.func59, Try.ntmps59
  go_wp2
  all_goals first
    | (exfalso; omega)
    | (go_ret2
       refine ⟨ret_pair2 ?_ (by omega), rfl⟩
       rw [show (35 + c - 35) / 10 = 0 by omega]; exact IntWalk.wrap64_in _ (by decide))

theorem order_row1 (c : Nat) (w : World) (hc : c < 10) : Calls Try.prog 59 #[.int .i64 (64813 + (c : Int))] w fun e w' => e = .returned (.tuple #[.int .i64 16, .int .i64 c]) ∧ w' = w := by
  have e1 : IntKind.i64.wrap (64813 + (c : Int) - 64768) = 45 + (c : Int) := by rw [IntWalk.i64_in _ (by omega)]; omega
  go_enter Try.func59, Try.ntmps59
  go_wp2
  all_goals first
    | (exfalso; omega)
    | (go_ret2
       refine ⟨ret_pair2 ?_ (by omega), rfl⟩
       rw [show (45 + c - 35) / 10 = 1 by omega]; exact IntWalk.wrap64_in _ (by decide))

theorem order_row2 (c : Nat) (w : World) (hc : c < 10) : Calls Try.prog 59 #[.int .i64 (64823 + (c : Int))] w fun e w' => e = .returned (.tuple #[.int .i64 32, .int .i64 c]) ∧ w' = w := by
  have e1 : IntKind.i64.wrap (64823 + (c : Int) - 64768) = 55 + (c : Int) := by rw [IntWalk.i64_in _ (by omega)]; omega
  go_enter Try.func59, Try.ntmps59
  go_wp2
  all_goals first
    | (exfalso; omega)
    | (go_ret2
       refine ⟨ret_pair2 ?_ (by omega), rfl⟩
       rw [show (55 + c - 35) / 10 = 2 by omega]; exact IntWalk.wrap64_in _ (by decide))

theorem order_64_0 (w : World) : Calls Try.prog 59 #[.int .i64 64982] w fun e w' => e = .returned (.tuple #[.int .i64 64, .int .i64 0]) ∧ w' = w.drew := by
  have e0 : IntKind.i64.wrap 0 = 0 := IntWalk.i64_in _ (by decide)
  have i0 : ∀ w, (Instr.index 106 (.agg #[.int .i64 0, .int .i64 1, .int .i64 2, .int .i64 4, .int .i64 6, .int .i64 8]) (.int .i64 0)).run Try.prog w = .ok (.int .i64 0) w := fun _ => by kernel_rfl
  go_enter Try.func59, Try.ntmps59
  go_wp2
  go_region
  all_goals go_wp2
  all_goals go_ret2
  all_goals exact ⟨rfl, rfl⟩

theorem order_64_1 (w : World) : Calls Try.prog 59 #[.int .i64 64983] w fun e w' => e = .returned (.tuple #[.int .i64 64, .int .i64 1]) ∧ w' = w.drew := by
  have e0 : IntKind.i64.wrap 1 = 1 := IntWalk.i64_in _ (by decide)
  have i0 : ∀ w, (Instr.index 106 (.agg #[.int .i64 0, .int .i64 1, .int .i64 2, .int .i64 4, .int .i64 6, .int .i64 8]) (.int .i64 1)).run Try.prog w = .ok (.int .i64 1) w := fun _ => by kernel_rfl
  go_enter Try.func59, Try.ntmps59
  go_wp2
  go_region
  all_goals go_wp2
  all_goals go_ret2
  all_goals exact ⟨rfl, rfl⟩

theorem order_64_2 (w : World) : Calls Try.prog 59 #[.int .i64 64984] w fun e w' => e = .returned (.tuple #[.int .i64 64, .int .i64 2]) ∧ w' = w.drew := by
  have e0 : IntKind.i64.wrap 2 = 2 := IntWalk.i64_in _ (by decide)
  have i0 : ∀ w, (Instr.index 106 (.agg #[.int .i64 0, .int .i64 1, .int .i64 2, .int .i64 4, .int .i64 6, .int .i64 8]) (.int .i64 2)).run Try.prog w = .ok (.int .i64 2) w := fun _ => by kernel_rfl
  go_enter Try.func59, Try.ntmps59
  go_wp2
  go_region
  all_goals go_wp2
  all_goals go_ret2
  all_goals exact ⟨rfl, rfl⟩

theorem order_64_3 (w : World) : Calls Try.prog 59 #[.int .i64 64985] w fun e w' => e = .returned (.tuple #[.int .i64 64, .int .i64 4]) ∧ w' = w.drew := by
  have e0 : IntKind.i64.wrap 3 = 3 := IntWalk.i64_in _ (by decide)
  have i0 : ∀ w, (Instr.index 106 (.agg #[.int .i64 0, .int .i64 1, .int .i64 2, .int .i64 4, .int .i64 6, .int .i64 8]) (.int .i64 3)).run Try.prog w = .ok (.int .i64 4) w := fun _ => by kernel_rfl
  go_enter Try.func59, Try.ntmps59
  go_wp2
  go_region
  all_goals go_wp2
  all_goals go_ret2
  all_goals exact ⟨rfl, rfl⟩

theorem order_64_4 (w : World) : Calls Try.prog 59 #[.int .i64 64986] w fun e w' => e = .returned (.tuple #[.int .i64 64, .int .i64 6]) ∧ w' = w.drew := by
  have e0 : IntKind.i64.wrap 4 = 4 := IntWalk.i64_in _ (by decide)
  have i0 : ∀ w, (Instr.index 106 (.agg #[.int .i64 0, .int .i64 1, .int .i64 2, .int .i64 4, .int .i64 6, .int .i64 8]) (.int .i64 4)).run Try.prog w = .ok (.int .i64 6) w := fun _ => by kernel_rfl
  go_enter Try.func59, Try.ntmps59
  go_wp2
  go_region
  all_goals go_wp2
  all_goals go_ret2
  all_goals exact ⟨rfl, rfl⟩

theorem order_64_5 (w : World) : Calls Try.prog 59 #[.int .i64 64987] w fun e w' => e = .returned (.tuple #[.int .i64 64, .int .i64 8]) ∧ w' = w.drew := by
  have e0 : IntKind.i64.wrap 5 = 5 := IntWalk.i64_in _ (by decide)
  have i0 : ∀ w, (Instr.index 106 (.agg #[.int .i64 0, .int .i64 1, .int .i64 2, .int .i64 4, .int .i64 6, .int .i64 8]) (.int .i64 5)).run Try.prog w = .ok (.int .i64 8) w := fun _ => by kernel_rfl
  go_enter Try.func59, Try.ntmps59
  go_wp2
  go_region
  all_goals go_wp2
  all_goals go_ret2
  all_goals exact ⟨rfl, rfl⟩

theorem order_none (op κ : Int) (w : World) (hκ : wrap64 (op - 64768) = κ) (h : κ < 35 ∨ 65 ≤ κ ∧ κ < 214 ∨ 220 ≤ κ) : Calls Try.prog 59 #[.int .i64 op] w fun e w' => e = .returned (.tuple #[.int .i64 0, .int .i64 (-1)]) ∧ w' = w := by
  rcases h with h | ⟨h, h'⟩ | h
  all_goals
    go_enter Try.func59, Try.ntmps59
    go_wp2
    all_goals go_ret2
    all_goals exact ⟨rfl, rfl⟩

end Go.Proofs.Ytcpfabkokgiepaa
