/-
  The counts of bits at 64 bits; plaitlaw03.un on them.
-/
import Derived.Test.YtllffbdcpilioaaDoorNumCnt
import Derived.Test.YtllffbdcpilioaaDoorNumCuts
import Derived.Test.YtllffbdcpilioaaDoorOnes
set_option linter.unusedSimpArgs false
set_option linter.unusedVariables false
namespace Go.Proofs.YtllffbdcpilioaaDoor
open Go.RowKit _root_.Nm
set_option linter.unusedVariables false
set_option linter.unusedSimpArgs false

/-- What the table of TrailingZeros64 holds. -/
def Tab64 (w : World) : Prop := ∀ k, k < 64 → w.cell? ⟨1, k, none⟩ = some (.int .u8 ((Lib.deBruijn64tab.getD k 0 : Nat) : Int))
theorem tz64_facts (n : Nat) (h : n < 18446744073709551616) (h0 : 0 < n) : ∃ t J : Nat, Lib.ctz 64 n = t ∧ t < 64 ∧ J < 64 ∧ bits .and .u64 (n : Int) (-(n : Int) % 18446744073709551616) = ((2 ^ t : Nat) : Int) ∧ 2 ^ t * 285870213051353865 % 18446744073709551616 / 288230376151711744 = J ∧ Lib.deBruijn64tab.getD J 0 = t := by
  obtain ⟨m, hm, ht⟩ := _root_.Nm.ctz_spec 64 n h0 h
  refine ⟨_, _, rfl, ht, (Lib.deBruijn64_at _ ht).1, ?_, rfl, (Lib.deBruijn64_at _ ht).2⟩
  have e : -(n : Int) % 18446744073709551616 = ((18446744073709551616 - n : Nat) : Int) := by omega
  rw [e, u64_and_nat _ _ h (by omega)]
  congr 1
  have := Lib.and_neg 64 (Lib.ctz 64 n) m (by rw [← hm]; exact h)
  rw [← hm] at this
  exact this
theorem tz64_any (x : Nat) (w : World) (hx : x < 18446744073709551616) (hT : Tab64 w) : Calls Tryd.prog 29 #[.int .u64 (x : Int)] w fun e w' => e = .returned (.int .i64 (Lib.ctz 64 x : Int)) ∧ w' = w := by
  by_cases h0 : x = 0
  · have e : Lib.ctz 64 x = 64 := by rw [h0]; rfl
    have t0 : ((x : Int) == 0) = true := by rw [beq_iff_eq]; omega
    have E := Lib.hid e
    clear e h0
    go_enter Tryd.func29, Tryd.ntmps29
    go_wp2
    go_ret
    exact ⟨ret_ni64 (by rw [E.out]; rfl), rfl⟩
  · have t0 : ((x : Int) == 0) = false := by rw [beq_eq_false_iff_ne]; omega
    obtain ⟨t, J, h1, h2, h3, h4, h5, h6⟩ := tz64_facts x hx (by omega)
    have hc := hT J h3
    rw [h6] at hc
    have H1 := Lib.hid h1
    rw [← IntKind.wrap_u64] at h4
    have e5 : IntKind.u64.wrap (((2 ^ t : Nat) : Int) * 285870213051353865) / 288230376151711744 = (J : Int) := by rw [IntKind.wrap_u64, ← h5]; simp
    clear h0 h1 h5 h6
    generalize (2 ^ t : Nat) = p at *
    go_enter Tryd.func29, Tryd.ntmps29
    go_wp2
    go_ret
    exact ⟨ret_ni64 (by rw [H1.out]), rfl⟩

theorem cnt_121 (x : Nat) (w : World) (hx : x < 18446744073709551616)  : Calls Tryd.prog 18 #[.int .i64 121, .int .u64 (x : Int)] w fun e w' => e = .returned (.tuple #[.int .u64 ((64 - Lib.bitLen x : Nat) : Int), .int .i64 0]) ∧ w' = w := by
  have H := Lib.hid (show ((121 : Int)) = 69 ∨ (121 : Int) = 80 ∨ 103 ≤ (121 : Int) ∧ (121 : Int) ≤ 105 ∨ 121 ≤ (121 : Int) ∧ (121 : Int) ≤ 123 ∨ (121 : Int) = 167 ∨ (121 : Int) = 172 ∨ (121 : Int) = 173 ∨ 192 ≤ (121 : Int) ∧ (121 : Int) ≤ 196 by omega)
  skip
  have hl := bitLen_le 64 _ (by decide) hx
  go_enter Tryd.func18, Tryd.ntmps18
  go_wp2_with (first | (go_at_call 11; refine (arity_1 _ H.out).mono ?_; rintro e w' ⟨rfl, rfl⟩) | (go_at_call 28; refine (Tryd.bits_LeadingZeros64 _ _ (by omega) (by omega)).mono ?_; rintro e w' ⟨rfl, rfl⟩))
  go_ret2
  refine ⟨ret_n64 ?_ 0, rfl⟩
  generalize Lib.bitLen x = L at *
  first | rfl | omega | (simp only [IntKind.wrap_u64]; omega)

theorem cnt_122 (x : Nat) (w : World) (hx : x < 18446744073709551616) (hT : Tab64 w) : Calls Tryd.prog 18 #[.int .i64 122, .int .u64 (x : Int)] w fun e w' => e = .returned (.tuple #[.int .u64 ((Lib.ctz 64 x : Nat) : Int), .int .i64 0]) ∧ w' = w := by
  have H := Lib.hid (show ((122 : Int)) = 69 ∨ (122 : Int) = 80 ∨ 103 ≤ (122 : Int) ∧ (122 : Int) ≤ 105 ∨ 121 ≤ (122 : Int) ∧ (122 : Int) ≤ 123 ∨ (122 : Int) = 167 ∨ (122 : Int) = 172 ∨ (122 : Int) = 173 ∨ 192 ≤ (122 : Int) ∧ (122 : Int) ≤ 196 by omega)
  have HT := Lib.hid hT
  have hl := ctz_le 64 x
  go_enter Tryd.func18, Tryd.ntmps18
  go_wp2_with (first | (go_at_call 11; refine (arity_1 _ H.out).mono ?_; rintro e w' ⟨rfl, rfl⟩) | (go_at_call 29; refine (tz64_any _ _ (by omega) HT.out).mono ?_; rintro e w' ⟨rfl, rfl⟩))
  go_ret2
  refine ⟨ret_n64 ?_ 0, rfl⟩
  generalize Lib.ctz 64 x = L at *
  first | rfl | omega | (simp only [IntKind.wrap_u64]; omega)

theorem cnt_123 (x : Nat) (w : World) (hx : x < 18446744073709551616)  : Calls Tryd.prog 18 #[.int .i64 123, .int .u64 (x : Int)] w fun e w' => e = .returned (.tuple #[.int .u64 ((Lib.onesCount x : Nat) : Int), .int .i64 0]) ∧ w' = w := by
  have H := Lib.hid (show ((123 : Int)) = 69 ∨ (123 : Int) = 80 ∨ 103 ≤ (123 : Int) ∧ (123 : Int) ≤ 105 ∨ 121 ≤ (123 : Int) ∧ (123 : Int) ≤ 123 ∨ (123 : Int) = 167 ∨ (123 : Int) = 172 ∨ (123 : Int) = 173 ∨ 192 ≤ (123 : Int) ∧ (123 : Int) ≤ 196 by omega)
  skip
  have hl := pop_le x
  go_enter Tryd.func18, Tryd.ntmps18
  go_wp2_with (first | (go_at_call 11; refine (arity_1 _ H.out).mono ?_; rintro e w' ⟨rfl, rfl⟩) | (go_at_call 30; refine (ones64_any _ _ (by omega)).mono ?_; rintro e w' ⟨rfl, rfl⟩))
  go_ret2
  refine ⟨ret_n64 ?_ 0, rfl⟩
  generalize Lib.onesCount x = L at *
  first | rfl | omega | (simp only [IntKind.wrap_u64]; omega)

end Go.Proofs.YtllffbdcpilioaaDoor
