/-
  The reference's memory: New, Pages.
-/
import Derived.Test.YtlcndenbnokcjaaMemM
set_option linter.unusedSimpArgs false
set_option linter.unusedVariables false
namespace Go.Proofs.Ytlcndenbnokcjaa
open Go.RowKit Pl

set_option maxRecDepth 100000 in
theorem rnew_err (least most : Int) (w : World) (hl : -9223372036854775808 ≤ least ∧ least ≤ 9223372036854775807) (hm : -9223372036854775808 ≤ most ∧ most ≤ 9223372036854775807) (he : newE least most ≠ 0) :
    Calls Try.prog 14 #[.int .i64 least, .int .i64 most] w fun e w' => e = .returned (.tuple #[.pointer none, .int .i64 (newE least most)]) ∧ w' = w := by
  by_cases c1 : least < 0
  · have e1 : newE least most = 1 := by unfold newE; rw [if_pos (.inl c1)]
    rw [e1]
    clear e1 he
    go_enter Try.func14, Try.ntmps14
    go_wp2
    go_ret2
    exact ⟨rfl, rfl⟩
  by_cases c2 : most < -1
  · have e1 : newE least most = 1 := by unfold newE; rw [if_pos (.inr (.inl c2))]
    rw [e1]
    clear e1 he
    go_enter Try.func14, Try.ntmps14
    go_wp2
    go_ret2
    exact ⟨rfl, rfl⟩
  by_cases c3 : 0 ≤ most ∧ most < least
  · have e1 : newE least most = 1 := by unfold newE; rw [if_pos (.inr (.inr c3))]
    rw [e1]
    clear e1 he
    obtain ⟨c3, c4⟩ := c3
    go_enter Try.func14, Try.ntmps14
    go_wp2
    go_ret2
    exact ⟨rfl, rfl⟩
  by_cases c5 : 16 < least
  · have e1 : newE least most = 3 := by unfold newE; rw [if_neg (by omega), if_pos c5]
    rw [e1]
    clear e1 he
    rcases (show most = -1 ∨ 0 ≤ most ∧ ¬ most < least by omega) with rfl | ⟨c6, c7⟩
    all_goals
      clear c3
      go_enter Try.func14, Try.ntmps14
      go_wp2
      go_ret2
      exact ⟨rfl, rfl⟩
  · exact absurd (by unfold newE; rw [if_neg (by omega), if_neg c5]) he

set_option maxRecDepth 100000 in
theorem rnew_ok (k : Nat) (most : Int) (w : World) (hk : k ≤ 16) (hm : most = -1 ∨ (k : Int) ≤ most ∧ most ≤ 9223372036854775807) :
    Calls Try.prog 14 #[.int .i64 (k : Int), .int .i64 most] w fun e w' => ∃ o, e = .returned (.tuple #[.pointer (some ⟨o.p, 0, none⟩), .int .i64 0]) ∧ Fresh w w' o 88 (65536 * k) (fun _ => 0) most := by
  obtain ⟨n, hn⟩ : ∃ n, n = k * 65536 := ⟨_, rfl⟩
  have hmk := make_bytes w n (by omega)
  have hkn : (k : Int) * 65536 = (n : Int) := by omega
  have hfr := fun m h => fresh_new w 88 n k m (by omega) hk h
  have hfr' := Lib.hid hfr
  rw [show 65536 * k = n by omega]
  clear hn hfr
  rcases hm with rfl | ⟨h1, h2⟩
  · go_enter Try.func14, Try.ntmps14
    go_wp2
    go_ret2
    exact ⟨_, rfl, hfr'.out _ (by decide)⟩
  · go_enter Try.func14, Try.ntmps14
    go_wp2
    go_ret2
    exact ⟨_, rfl, hfr'.out _ (by omega)⟩
theorem rnew_k (least most : Int) (w : World) (hl : -9223372036854775808 ≤ least ∧ least ≤ 9223372036854775807) (hm : -9223372036854775808 ≤ most ∧ most ≤ 9223372036854775807) (he : newE least most = 0) :
    Calls Try.prog 14 #[.int .i64 least, .int .i64 most] w fun e w' => ∃ o, e = .returned (.tuple #[.pointer (some ⟨o.p, 0, none⟩), .int .i64 0]) ∧ Fresh w w' o 88 (65536 * least.toNat) (fun _ => 0) most := by
  have h : 0 ≤ least ∧ least ≤ 16 ∧ (most = -1 ∨ least ≤ most) := by
    unfold newE at he
    by_cases h1 : least < 0 ∨ most < -1 ∨ (0 ≤ most ∧ most < least)
    · rw [if_pos h1] at he; omega
    · rw [if_neg h1] at he
      by_cases h2 : 16 < least
      · rw [if_pos h2] at he; omega
      · omega
  obtain ⟨k, rfl⟩ := Int.eq_ofNat_of_zero_le h.1
  exact rnew_ok k most w (by omega) (by omega)

theorem rpages_k (o : MObj) (w : World) (h : MemAt w o) :
    Calls Try.prog 16 #[.pointer (some ⟨o.p, 0, none⟩)] w fun e w' => e = .returned (.int .i64 ((o.n / 65536 : Nat) : Int)) ∧ w' = w := by
  have hc0 := h.c0
  have hz := h.size
  go_enter Try.func16, Try.ntmps16
  go_wp2
  go_ret
  exact ⟨ret_int (by simp), rfl⟩
theorem rpages_nil (w : World) :
    Calls Try.prog 16 #[.pointer none] w fun e w' => e = .returned (.int .i64 0) ∧ w' = w := by
  go_enter Try.func16, Try.ntmps16
  go_wp2
  go_ret
  exact ⟨rfl, rfl⟩
end Go.Proofs.Ytlcndenbnokcjaa
