/-
  plaitref03: cut, Sign, less, yes, size, fill, divide: their contracts.
-/
import Derived.Test.YtllffbdcpilioaaDoorNum
import Derived.Test.YtllffbdcpilioaaDoorNumRL
set_option linter.unusedSimpArgs false
set_option linter.unusedVariables false
namespace Go.Proofs.YtllffbdcpilioaaDoor
open Go.RowKit Nm

theorem ret_q64 {a b : Int} (h : a = b) : Ending.returned (.int .u64 a) = .returned (.int .u64 b) := by rw [h]
theorem ret_qb {a b : Bool} (h : a = b) : Ending.returned (.bool a) = .returned (.bool b) := by rw [h]
theorem rcut_8 (x : Nat) (w : World) (hx : x < 18446744073709551616) : Calls Tryd.prog 33 #[.int .u64 (x : Int), .int .i64 8] w fun e w' => e = .returned (.int .u64 ((x % 256 : Nat) : Int)) ∧ w' = w := by
  go_enter Tryd.func33, Tryd.ntmps33
  go_wp2
  go_ret
  refine ⟨ret_q64 ?_, rfl⟩
  first | omega | (simp [IntKind.wrap_u64]; omega) | (rw [IntKind.wrap_u64]; omega)
def sg8 (x : Nat) : Nat := if x % 256 < 128 then x % 256 else x % 256 + 18446744073709551360
theorem sg8_lt (x : Nat) : sg8 x < 18446744073709551616 := by unfold sg8; split <;> omega
theorem rsign_8 (x : Nat) (w : World) (hx : x < 18446744073709551616) : Calls Tryd.prog 35 #[.int .u64 (x : Int), .int .i64 8] w fun e w' => e = .returned (.int .u64 ((sg8 x : Nat) : Int)) ∧ w' = w := by
  have HC := Lib.hid (fun W => rcut_8 x W hx)
  obtain ⟨c, hc⟩ : ∃ c, c = x % 256 := ⟨_, rfl⟩
  rw [← hc] at HC
  have hs : sg8 x = if c < 128 then c else c + 18446744073709551360 := by rw [hc]; rfl
  have hl : c < 256 := by omega
  rw [hs]
  clear hc hs
  by_cases h : c < 128
  · rw [if_pos h]
    have e1 : (c : Int) / 128 = 0 := by omega
    go_enter Tryd.func35, Tryd.ntmps35
    go_wp2_with (go_at_call 33; (with_reducible refine (HC.out _).mono ?_); rintro e u ⟨rfl, rfl⟩)
    go_ret
    exact ⟨rfl, rfl⟩
  · rw [if_neg h]
    have e1 : (c : Int) / 128 = 1 := by omega
    go_enter Tryd.func35, Tryd.ntmps35
    go_wp2_with (go_at_call 33; (with_reducible refine (HC.out _).mono ?_); rintro e u ⟨rfl, rfl⟩)
    go_ret
    exact ⟨ret_q64 (by first | omega | (rw [IntKind.wrap_u64]; omega) | (simp [IntKind.wrap_u64]; omega)), rfl⟩
theorem rcut_16 (x : Nat) (w : World) (hx : x < 18446744073709551616) : Calls Tryd.prog 33 #[.int .u64 (x : Int), .int .i64 16] w fun e w' => e = .returned (.int .u64 ((x % 65536 : Nat) : Int)) ∧ w' = w := by
  go_enter Tryd.func33, Tryd.ntmps33
  go_wp2
  go_ret
  refine ⟨ret_q64 ?_, rfl⟩
  first | omega | (simp [IntKind.wrap_u64]; omega) | (rw [IntKind.wrap_u64]; omega)
def sg16 (x : Nat) : Nat := if x % 65536 < 32768 then x % 65536 else x % 65536 + 18446744073709486080
theorem sg16_lt (x : Nat) : sg16 x < 18446744073709551616 := by unfold sg16; split <;> omega
theorem rsign_16 (x : Nat) (w : World) (hx : x < 18446744073709551616) : Calls Tryd.prog 35 #[.int .u64 (x : Int), .int .i64 16] w fun e w' => e = .returned (.int .u64 ((sg16 x : Nat) : Int)) ∧ w' = w := by
  have HC := Lib.hid (fun W => rcut_16 x W hx)
  obtain ⟨c, hc⟩ : ∃ c, c = x % 65536 := ⟨_, rfl⟩
  rw [← hc] at HC
  have hs : sg16 x = if c < 32768 then c else c + 18446744073709486080 := by rw [hc]; rfl
  have hl : c < 65536 := by omega
  rw [hs]
  clear hc hs
  by_cases h : c < 32768
  · rw [if_pos h]
    have e1 : (c : Int) / 32768 = 0 := by omega
    go_enter Tryd.func35, Tryd.ntmps35
    go_wp2_with (go_at_call 33; (with_reducible refine (HC.out _).mono ?_); rintro e u ⟨rfl, rfl⟩)
    go_ret
    exact ⟨rfl, rfl⟩
  · rw [if_neg h]
    have e1 : (c : Int) / 32768 = 1 := by omega
    go_enter Tryd.func35, Tryd.ntmps35
    go_wp2_with (go_at_call 33; (with_reducible refine (HC.out _).mono ?_); rintro e u ⟨rfl, rfl⟩)
    go_ret
    exact ⟨ret_q64 (by first | omega | (rw [IntKind.wrap_u64]; omega) | (simp [IntKind.wrap_u64]; omega)), rfl⟩
theorem rcut_32 (x : Nat) (w : World) (hx : x < 18446744073709551616) : Calls Tryd.prog 33 #[.int .u64 (x : Int), .int .i64 32] w fun e w' => e = .returned (.int .u64 ((x % 4294967296 : Nat) : Int)) ∧ w' = w := by
  go_enter Tryd.func33, Tryd.ntmps33
  go_wp2
  go_ret
  refine ⟨ret_q64 ?_, rfl⟩
  first | omega | (simp [IntKind.wrap_u64]; omega) | (rw [IntKind.wrap_u64]; omega)
def sg32 (x : Nat) : Nat := if x % 4294967296 < 2147483648 then x % 4294967296 else x % 4294967296 + 18446744069414584320
theorem sg32_lt (x : Nat) : sg32 x < 18446744073709551616 := by unfold sg32; split <;> omega
theorem rsign_32 (x : Nat) (w : World) (hx : x < 18446744073709551616) : Calls Tryd.prog 35 #[.int .u64 (x : Int), .int .i64 32] w fun e w' => e = .returned (.int .u64 ((sg32 x : Nat) : Int)) ∧ w' = w := by
  have HC := Lib.hid (fun W => rcut_32 x W hx)
  obtain ⟨c, hc⟩ : ∃ c, c = x % 4294967296 := ⟨_, rfl⟩
  rw [← hc] at HC
  have hs : sg32 x = if c < 2147483648 then c else c + 18446744069414584320 := by rw [hc]; rfl
  have hl : c < 4294967296 := by omega
  rw [hs]
  clear hc hs
  by_cases h : c < 2147483648
  · rw [if_pos h]
    have e1 : (c : Int) / 2147483648 = 0 := by omega
    go_enter Tryd.func35, Tryd.ntmps35
    go_wp2_with (go_at_call 33; (with_reducible refine (HC.out _).mono ?_); rintro e u ⟨rfl, rfl⟩)
    go_ret
    exact ⟨rfl, rfl⟩
  · rw [if_neg h]
    have e1 : (c : Int) / 2147483648 = 1 := by omega
    go_enter Tryd.func35, Tryd.ntmps35
    go_wp2_with (go_at_call 33; (with_reducible refine (HC.out _).mono ?_); rintro e u ⟨rfl, rfl⟩)
    go_ret
    exact ⟨ret_q64 (by first | omega | (rw [IntKind.wrap_u64]; omega) | (simp [IntKind.wrap_u64]; omega)), rfl⟩
theorem rcut_64 (x : Nat) (w : World) (hx : x < 18446744073709551616) : Calls Tryd.prog 33 #[.int .u64 (x : Int), .int .i64 64] w fun e w' => e = .returned (.int .u64 ((x % 18446744073709551616 : Nat) : Int)) ∧ w' = w := by
  go_enter Tryd.func33, Tryd.ntmps33
  go_wp2
  go_ret
  refine ⟨ret_q64 ?_, rfl⟩
  first | omega | (simp [IntKind.wrap_u64]; omega) | (rw [IntKind.wrap_u64]; omega)
def sg64 (x : Nat) : Nat := if x % 18446744073709551616 < 9223372036854775808 then x % 18446744073709551616 else x % 18446744073709551616 + 0
theorem sg64_lt (x : Nat) : sg64 x < 18446744073709551616 := by unfold sg64; split <;> omega
theorem rsign_64 (x : Nat) (w : World) (hx : x < 18446744073709551616) : Calls Tryd.prog 35 #[.int .u64 (x : Int), .int .i64 64] w fun e w' => e = .returned (.int .u64 ((sg64 x : Nat) : Int)) ∧ w' = w := by
  have HC := Lib.hid (fun W => rcut_64 x W hx)
  obtain ⟨c, hc⟩ : ∃ c, c = x % 18446744073709551616 := ⟨_, rfl⟩
  rw [← hc] at HC
  have hs : sg64 x = if c < 9223372036854775808 then c else c + 0 := by rw [hc]; rfl
  have hl : c < 18446744073709551616 := by omega
  rw [hs]
  clear hc hs
  by_cases h : c < 9223372036854775808
  · rw [if_pos h]
    have e1 : (c : Int) / 9223372036854775808 = 0 := by omega
    go_enter Tryd.func35, Tryd.ntmps35
    go_wp2_with (go_at_call 33; (with_reducible refine (HC.out _).mono ?_); rintro e u ⟨rfl, rfl⟩)
    go_ret
    exact ⟨rfl, rfl⟩
  · rw [if_neg h]
    have e1 : (c : Int) / 9223372036854775808 = 1 := by omega
    go_enter Tryd.func35, Tryd.ntmps35
    go_wp2_with (go_at_call 33; (with_reducible refine (HC.out _).mono ?_); rintro e u ⟨rfl, rfl⟩)
    go_ret
    exact ⟨ret_q64 (by rfl), rfl⟩
theorem xor63 (x : Nat) (hx : x < 18446744073709551616) : bits .xor .u64 (x : Int) 9223372036854775808 = (((x + 9223372036854775808) % 18446744073709551616 : Nat) : Int) := by
  have h := u64_xor_nat x 9223372036854775808 (by omega) (by decide)
  have h2 := xor_top x 63 (by rw [show (2 : Nat) ^ (63 + 1) = 18446744073709551616 from rfl]; exact hx)
  rw [show (2 : Nat) ^ 63 = 9223372036854775808 from rfl] at h2
  refine (show _ = _ from h).trans ?_
  rw [h2]
  split <;> omega
theorem rless_k (x y : Nat) (w : World) (hx : x < 18446744073709551616) (hy : y < 18446744073709551616) : Calls Tryd.prog 42 #[.int .u64 (x : Int), .int .u64 (y : Int)] w fun e w' => e = .returned (.bool (decide ((x + 9223372036854775808) % 18446744073709551616 < (y + 9223372036854775808) % 18446744073709551616))) ∧ w' = w := by
  have f1 := xor63 x hx
  have f2 := xor63 y hy
  generalize (x + 9223372036854775808) % 18446744073709551616 = a at *
  generalize (y + 9223372036854775808) % 18446744073709551616 = b at *
  go_enter Tryd.func42, Tryd.ntmps42
  go_wp2
  go_ret
  exact ⟨ret_qb (by first | rfl | simp), rfl⟩
theorem ryes_k (b : Bool) (w : World) : Calls Tryd.prog 32 #[.bool b] w fun e w' => e = .returned (.int .u64 (if b = true then 1 else 0)) ∧ w' = w := by
  cases b
  all_goals
    go_enter Tryd.func32, Tryd.ntmps32
    go_wp2
    go_ret
    exact ⟨rfl, rfl⟩
def absN (x : Nat) : Nat := if x < 9223372036854775808 then x else 18446744073709551616 - x
theorem rsize_k (x : Nat) (w : World) (hx : x < 18446744073709551616) : Calls Tryd.prog 44 #[.int .u64 (x : Int)] w fun e w' => e = .returned (.int .u64 ((absN x : Nat) : Int)) ∧ w' = w := by
  unfold absN
  by_cases h : x < 9223372036854775808
  · rw [if_pos h]
    have e1 : (x : Int) / 9223372036854775808 = 0 := by omega
    go_enter Tryd.func44, Tryd.ntmps44
    go_wp2
    go_ret
    exact ⟨rfl, rfl⟩
  · rw [if_neg h]
    have e1 : (x : Int) / 9223372036854775808 = 1 := by omega
    go_enter Tryd.func44, Tryd.ntmps44
    go_wp2
    go_ret
    exact ⟨ret_q64 (by first | omega | (rw [IntKind.wrap_u64]; omega) | (simp [IntKind.wrap_u64]; omega)), rfl⟩
def fillN (s n : Nat) : Nat := if s = 0 ∨ n = 0 then 0 else 18446744073709551616 - 2 ^ (64 - n)
theorem rfill_k (s n : Nat) (w : World) (hs : s < 2) (hn : n < 64) : Calls Tryd.prog 45 #[.int .u64 (s : Int), .int .u64 (n : Int)] w fun e w' => e = .returned (.int .u64 ((fillN s n : Nat) : Int)) ∧ w' = w := by
  unfold fillN
  by_cases h : s = 0 ∨ n = 0
  · rw [if_pos h]
    rcases h with rfl | rfl
    · go_enter Tryd.func45, Tryd.ntmps45
      go_wp2
      go_ret
      exact ⟨rfl, rfl⟩
    · rcases (show s = 0 ∨ s = 1 by omega) with rfl | rfl
      all_goals
        go_enter Tryd.func45, Tryd.ntmps45
        go_wp2
        go_ret
        exact ⟨rfl, rfl⟩
  · rw [if_neg h]
    obtain rfl : s = 1 := by omega
    have h1 : (2 : Nat) ^ (64 - n) ≤ 2 ^ 63 := Nat.pow_le_pow_right (by decide) (by omega)
    have h2 : 0 < (2 : Nat) ^ (64 - n) := Nat.two_pow_pos _
    have e0 : IntKind.u64.wrap (64 - (n : Int)) = ((64 - n : Nat) : Int) := by rw [IntWalk.u64_in _ (by omega)]; omega
    have e2 : ((n : Int) == 0) = false := beq_eq_false_iff_ne.2 (by omega)
    rw [show (2 : Nat) ^ 63 = 9223372036854775808 from rfl] at h1
    go_enter Tryd.func45, Tryd.ntmps45
    go_wp2
    go_ret
    refine ⟨ret_q64 ?_, rfl⟩
    rw [show (2 : Int) ^ (64 - n) = ((2 ^ (64 - n) : Nat) : Int) by simp]
    generalize 2 ^ (64 - n) = P at *
    simp only [IntKind.wrap_u64]
    omega
theorem u64_small (z : Nat) (hz : z < 18446744073709551616) : IntKind.u64.wrap (z : Int) = (z : Int) := IntWalk.u64_in _ (by omega)
theorem or_low (q b : Nat) (hq : q % 2 = 0) (hq2 : q < 18446744073709551616) (hb : b < 2) : bits .or .u64 (q : Int) (b : Int) = ((q + b : Nat) : Int) := by
  rw [u64_or_nat _ _ hq2 (by omega)]
  have h := Nat.two_pow_add_eq_or_of_lt (i := 1) (b := b) (by simpa using hb) (q / 2)
  rw [show 2 ^ 1 * (q / 2) = q by omega] at h
  rw [← h]
theorem or_pow (q m : Nat) (hm : m < 64) (hq : q * 2 ^ (m + 1) < 18446744073709551616) : bits .or .u64 ((q * 2 ^ (m + 1) : Nat) : Int) (IntKind.u64.wrap (2 ^ m)) = (((2 * q + 1) * 2 ^ m : Nat) : Int) := by
  have hp : 2 ^ m < 18446744073709551616 := (show (2 : Nat) ^ 64 = 18446744073709551616 from rfl) ▸ Nat.pow_lt_pow_right (by decide) hm
  have e : IntKind.u64.wrap (2 ^ m) = ((2 ^ m : Nat) : Int) := by
    rw [show (2 : Int) ^ m = ((2 ^ m : Nat) : Int) by simp]
    exact u64_small _ hp
  rw [e, u64_or_nat _ _ hq hp]
  have h := Nat.two_pow_add_eq_or_of_lt (i := m + 1) (b := 2 ^ m) (Nat.pow_lt_pow_right (by decide) (by omega)) q
  rw [Nat.mul_comm q, ← h, Nat.pow_succ, Nat.add_mul, Nat.one_mul, Nat.mul_assoc, Nat.mul_comm (2 ^ m), Nat.mul_assoc, Nat.mul_comm q]
theorem shr_mod2 (x m : Nat) : ((x : Int) / 2 ^ m).tmod 2 = ((x / 2 ^ m % 2 : Nat) : Int) := by
  rw [show (2 : Int) ^ m = ((2 ^ m : Nat) : Int) by simp, ← Int.natCast_ediv]
  generalize x / 2 ^ m = y
  rw [Int.tmod_eq_emod_of_nonneg (Int.natCast_nonneg _)]
  omega
set_option maxHeartbeats 1000000 in
theorem rdivide_k (x y : Nat) (w : World) (hx : x < 18446744073709551616) (hy0 : 0 < y) (hy : y < 18446744073709551616) : Calls Tryd.prog 43 #[.int .u64 (x : Int), .int .u64 (y : Int)] w fun e w' => e = .returned (.int .u64 ((x / y : Nat) : Int)) ∧ w' = w := by
  obtain ⟨Q, hQ⟩ : ∃ Q : Nat → Nat, ∀ n, Q n = x / 2 ^ n / y * 2 ^ n := ⟨fun n => x / 2 ^ n / y * 2 ^ n, fun _ => rfl⟩
  obtain ⟨R, hR⟩ : ∃ R : Nat → Nat, ∀ n, R n = x / 2 ^ n % y := ⟨fun n => x / 2 ^ n % y, fun _ => rfl⟩
  have q64 : Q 64 = 0 := by rw [hQ, Nat.div_eq_of_lt (show x < 2 ^ 64 from hx)]; simp
  have r64 : R 64 = 0 := by rw [hR, Nat.div_eq_of_lt (show x < 2 ^ 64 from hx)]; exact Nat.zero_mod _
  have q0 : Q 0 = x / y := by rw [hQ, Nat.pow_zero, Nat.mul_one, Nat.div_one]
  have step : ∀ m, m < 64 → ∃ b, x / 2 ^ m % 2 = b ∧ b < 2 ∧ R (m + 1) < y ∧ Q (m + 1) < 18446744073709551616 ∧
      ((2 * R (m + 1) + b < y ∧ Q m = Q (m + 1) ∧ R m = 2 * R (m + 1) + b) ∨ (y ≤ 2 * R (m + 1) + b ∧ bits .or .u64 (Q (m + 1) : Int) (IntKind.u64.wrap (2 ^ m)) = (Q m : Int) ∧ R m = 2 * R (m + 1) + b - y)) := by
    intro m hm
    obtain ⟨h1, h2, h3, h4⟩ := div_step x y m (x / 2 ^ (m + 1) / y) (x / 2 ^ (m + 1) % y) (x / 2 ^ m % 2) hy0 rfl rfl rfl
    have hqm : x / 2 ^ (m + 1) / y * 2 ^ (m + 1) < 18446744073709551616 := by
      have a1 : x / 2 ^ (m + 1) / y ≤ x / 2 ^ (m + 1) := Nat.div_le_self _ _
      have a2 := Nat.mul_le_mul_right (2 ^ (m + 1)) a1
      have a3 := Nat.div_mul_le_self x (2 ^ (m + 1))
      omega
    refine ⟨_, rfl, h2, by rw [hR]; exact h1, by rw [hQ]; exact hqm, ?_⟩
    rw [hQ (m + 1), hQ m, hR (m + 1), hR m]
    by_cases hc : 2 * (x / 2 ^ (m + 1) % y) + x / 2 ^ m % 2 < y
    · obtain ⟨e1, e2⟩ := h3 hc
      exact .inl ⟨hc, by rw [e1, Nat.pow_succ, Nat.mul_comm 2, Nat.mul_assoc, Nat.mul_comm 2], e2⟩
    · obtain ⟨e1, e2⟩ := h4 (by omega)
      exact .inr ⟨by omega, by rw [or_pow _ _ hm hqm, e1], e2⟩
  have ST := Lib.hid step
  clear step hQ hR
  go_enter Tryd.func43, Tryd.ntmps43
  go_wp2_with fail
  go_loopw [5, 6, 7] (fun qv rv iv wr => ∃ n : Nat, n ≤ 64 ∧ iv = .int .i64 ((n : Int) - 1) ∧ qv = .int .u64 (Q n : Nat) ∧ rv = .int .u64 (R n : Nat) ∧ w = wr) (fun _ _ iv _ => (intOf iv + 1).toNat)
  case atStart => exact ⟨64, by decide, rfl, by rw [q64]; rfl, by rw [r64]; rfl, rfl⟩
  case round =>
    clear q64 r64
    obtain ⟨n, hn, rfl, rfl, rfl, rfl⟩ := hrel
    by_cases h0 : n = 0
    · subst h0
      go_wp2_with fail
      go_ret
      exact ⟨ret_q64 (by rw [q0]), rfl⟩
    · obtain ⟨m, rfl⟩ : ∃ m, n = m + 1 := ⟨n - 1, by omega⟩
      obtain ⟨b, hb, hb2, hr, hq, hcase⟩ := ST.out m (by omega)
      have em : (((m + 1 : Nat) : Int) - 1) = (m : Int) := by omega
      have eb := shr_mod2 x m
      rw [hb] at eb
      clear hb h0
      rw [em]
      generalize hrr : R (m + 1) = r at *
      generalize hqq : Q (m + 1) = q at *
      clear hrr hqq
      have hlor : bits .or .u64 (IntKind.u64.wrap ((r : Int) * 2)) (b : Int) = (((2 * r) % 18446744073709551616 + b : Nat) : Int) := by
        have e : IntKind.u64.wrap ((r : Int) * 2) = (((2 * r) % 18446744073709551616 : Nat) : Int) := by rw [IntKind.wrap_u64]; omega
        rw [e]
        exact or_low _ _ (by omega) (by omega) hb2
      obtain ⟨S, hS⟩ : ∃ S, S = (2 * r) % 18446744073709551616 + b := ⟨_, rfl⟩
      rw [← hS] at hlor
      rcases hcase with ⟨c1, c2, c3⟩ | ⟨c1, c2, c3⟩
      · have t1 : (r : Int) / 9223372036854775808 = 0 := by omega
        rw [IntWalk.u64_in _ (by omega)] at hlor
        have hSS : S = 2 * r + b := by omega
        have t2 : ¬ y ≤ S := by omega
        have C2 := Lib.hid c2
        have C3 := Lib.hid (hSS.trans c3.symm)
        clear hS hSS c1 c2 c3
        go_wp2_with fail
        exact ⟨⟨m, by omega, rfl, by rw [C2.out], by rw [← C3.out], by first | trivial | rfl⟩, by simp [intOf] <;> omega⟩
      · have hR : R m = 2 * r + b - y := c3
        have C3 := Lib.hid c3
        clear c3
        by_cases hbig : 9223372036854775808 ≤ r
        · have t1 : (r : Int) / 9223372036854775808 = 1 := by omega
          have t3 : IntKind.u64.wrap ((S : Int) - (y : Int)) = ((R m : Nat) : Int) := by rw [IntKind.wrap_u64]; omega
          clear hS hR c1
          go_wp2_with fail
          exact ⟨⟨m, by omega, rfl, by first | rfl | simp, by first | rfl | simp, by first | trivial | rfl⟩, by simp [intOf] <;> omega⟩
        · have t1 : (r : Int) / 9223372036854775808 = 0 := by omega
          rw [IntWalk.u64_in _ (by omega)] at hlor
          have t2 : y ≤ S := by omega
          have t3 : IntKind.u64.wrap ((S : Int) - (y : Int)) = ((R m : Nat) : Int) := by rw [IntKind.wrap_u64]; omega
          clear hS hR c1
          go_wp2_with fail
          exact ⟨⟨m, by omega, rfl, by first | rfl | simp, by first | rfl | simp, by first | trivial | rfl⟩, by simp [intOf] <;> omega⟩
end Go.Proofs.YtllffbdcpilioaaDoor
