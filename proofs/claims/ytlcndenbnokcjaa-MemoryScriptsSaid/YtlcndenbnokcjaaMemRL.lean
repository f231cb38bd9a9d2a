/-
  The reference's memory: far, Load, Store, Poke.
-/
import Derived.Test.YtlcndenbnokcjaaMemR
set_option linter.unusedSimpArgs false
set_option linter.unusedVariables false
namespace Go.Proofs.Ytlcndenbnokcjaa
open Go.RowKit Pl

theorem not_dec {p : Prop} [Decidable p] (h : ¬ p) : (!decide p) = true := by rw [decide_eq_false h]; rfl
theorem rfar_k (o : MObj) (w : World) (h : MemAt w o) (at_ m : Nat) (ha : at_ < 18446744073709551616) (hm : m ≤ 9223372036854775807) :
    Calls Try.prog 56 #[.pointer (some ⟨o.p, 0, none⟩), .int .u64 (at_ : Nat), .int .i64 (m : Nat)] w fun e w' => e = .returned (.bool (!decide (at_ + m ≤ o.n))) ∧ w' = w := by
  have hc0 := h.c0
  have hz := h.size
  by_cases c1 : o.n < at_
  · rw [decide_eq_false (by omega)]
    go_enter Try.func56, Try.ntmps56
    go_wp2
    go_ret
    exact ⟨rfl, rfl⟩
  · by_cases c2 : o.n - at_ < m
    · rw [decide_eq_false (by omega)]
      have c3 : (o.n : Int) - at_ < m := by omega
      go_enter Try.func56, Try.ntmps56
      go_wp2
      go_ret
      exact ⟨rfl, rfl⟩
    · rw [decide_eq_true (by omega)]
      have c3 : ¬ (o.n : Int) - at_ < m := by omega
      go_enter Try.func56, Try.ntmps56
      go_wp2
      go_ret
      exact ⟨rfl, rfl⟩
theorem rfar_z (o : MObj) (w : World) (h : MemAt w o) (at_ : Nat) (m : Int) (b : Bool) (ha : at_ < 18446744073709551616) (h0 : 0 ≤ m) (hm : m ≤ 9223372036854775807) (hb : (!decide (at_ + m.toNat ≤ o.n)) = b) :
    Calls Try.prog 56 #[.pointer (some ⟨o.p, 0, none⟩), .int .u64 (at_ : Nat), .int .i64 m] w fun e w' => e = .returned (.bool b) ∧ w' = w := by
  obtain ⟨k, rfl⟩ := Int.eq_ofNat_of_zero_le h0
  rw [← hb]
  exact rfar_k o w h at_ k ha (by omega)
theorem loadN_low (β : Nat → Nat) (s : Nat) : ∀ k, loadN β s (k + 1) = loadN β (s + 1) k * 256 + β s
  | 0 => by simp [loadN]
  | k + 1 => by
    rw [loadN, loadN_low β s k, loadN, show 8 * (k + 1) = 8 * k + 8 by omega, Nat.pow_add, show s + (k + 1) = s + 1 + k by omega, Nat.add_mul, ← Nat.mul_assoc, show (2 : Nat) ^ 8 = 256 from rfl]
    omega
theorem rload_nil (w : World) (at_ m : Value) :
    Calls Try.prog 46 #[.pointer none, at_, m] w fun e w' => e = .returned (.tuple #[.int .u64 0, .int .i64 2]) ∧ w' = w := by
  go_enter Try.func46, Try.ntmps46
  go_wp2
  go_ret2
  exact ⟨rfl, rfl⟩
theorem rload_err (o : MObj) (w : World) (h : MemAt w o) (at_ : Nat) (m : Int) (ha : at_ < 18446744073709551616) (hm : -9223372036854775808 ≤ m ∧ m ≤ 9223372036854775807) (E : Int) (he : mayE o.n at_ m = E) (hE : (E != 0) = true) :
    Calls Try.prog 46 #[.pointer (some ⟨o.p, 0, none⟩), .int .u64 (at_ : Nat), .int .i64 m] w fun e w' => e = .returned (.tuple #[.int .u64 0, .int .i64 E]) ∧ w' = w := by
  unfold mayE at he
  by_cases hs : szOk m = true
  · rw [if_pos hs] at he
    by_cases hin : at_ + m.toNat ≤ o.n
    · rw [if_pos hin] at he; subst he; simp at hE
    · rw [if_neg hin] at he
      subst he
      rcases szOk_cases hs with rfl | rfl | rfl | rfl
      all_goals
        have hw := rfar_z o w h at_ _ true ha (by decide) (by decide) (not_dec hin)
        clear hin h hs hE
        go_enter Try.func46, Try.ntmps46
        go_wp2_with (go_at_call 56; (with_reducible refine hw.mono ?_); rintro e u ⟨rfl, rfl⟩)
        go_ret2
        exact ⟨rfl, rfl⟩
  · rw [if_neg hs] at he
    subst he
    obtain ⟨h1, h2, h3, h4⟩ := szOk_not hs
    clear hs h hE
    go_enter Try.func46, Try.ntmps46
    go_wp2
    go_ret2
    exact ⟨rfl, rfl⟩

set_option maxHeartbeats 1000000 in
theorem rload_1 (o : MObj) (w : World) (h : MemAt w o) (at_ : Nat) (hin : at_ + 1 ≤ o.n) :
    Calls Try.prog 46 #[.pointer (some ⟨o.p, 0, none⟩), .int .u64 (at_ : Nat), .int .i64 1] w fun e w' => e = .returned (.tuple #[.int .u64 (loadN o.β at_ 1 : Nat), .int .i64 0]) ∧ w' = w := by
  have hz := h.size
  have hw := rfar_z o w h at_ 1 false (by omega) (by decide) (by decide) (by rw [decide_eq_true (by simpa using hin)]; rfl)
  obtain ⟨b, hb, hr⟩ := h.row.pos (by omega)
  have hc0 := h.c0
  rw [hb, show headOf (some b) = some ⟨b, 0, none⟩ from rfl] at hc0
  have hcap := hr.le
  go_enter Try.func46, Try.ntmps46
  go_wp2_with (go_at_call 56; (with_reducible refine hw.mono ?_); rintro e u ⟨rfl, rfl⟩)
  go_loopw [8, 9] (fun xv iv wr => ∃ (j : Nat) (z : Int), j ≤ 1 ∧ z = (j : Int) - 1 ∧ iv = .int .i64 z ∧ xv = .int .u64 (loadN o.β (at_ + j) (1 - j) : Nat) ∧ wr = u) (fun _ iv _ => (intOf iv + 1).toNat)
  case atStart => exact ⟨1, 1 - 1, Nat.le_refl _, rfl, rfl, rfl, rfl⟩
  case round =>
    obtain ⟨j, z, hj, hz, rfl, rfl, rfl⟩ := hrel
    rcases j with _ | i
    · obtain rfl : z = -1 := by omega
      clear hz
      go_wp2
      go_ret2
      exact ⟨rfl, rfl⟩
    · obtain rfl : z = (i : Int) := by omega
      clear hz
      have hcell := hr.cell (i := at_ + i) (by omega)
      have hlt := hr.lt (at_ + i) (by omega)
      have hlow := loadN_low o.β (at_ + i) (1 - (i + 1))
      rw [show 1 - (i + 1) + 1 = 1 - i by omega, show at_ + i + 1 = at_ + (i + 1) by omega] at hlow
      have hX := loadN_lt o.β (at_ + (i + 1)) (1 - (i + 1)) (fun k hk => hr.lt _ (by omega))
      have hX2 : loadN o.β (at_ + (i + 1)) (1 - (i + 1)) < 72057594037927936 := Nat.lt_of_lt_of_le hX (by
        have := Nat.pow_le_pow_right (show 0 < 2 by decide) (show 8 * (1 - (i + 1)) ≤ 56 by omega)
        exact Nat.le_trans this (by decide))
      clear hX
      generalize loadN o.β (at_ + (i + 1)) (1 - (i + 1)) = X at *
      have HL := Lib.hid hlow
      clear hlow
      go_wp2
      exact ⟨⟨i, _, by omega, rfl, rfl, by rw [HL.out]; simp, trivial⟩, by (simp [intOf] <;> omega)⟩

set_option maxHeartbeats 1000000 in
theorem rload_2 (o : MObj) (w : World) (h : MemAt w o) (at_ : Nat) (hin : at_ + 2 ≤ o.n) :
    Calls Try.prog 46 #[.pointer (some ⟨o.p, 0, none⟩), .int .u64 (at_ : Nat), .int .i64 2] w fun e w' => e = .returned (.tuple #[.int .u64 (loadN o.β at_ 2 : Nat), .int .i64 0]) ∧ w' = w := by
  have hz := h.size
  have hw := rfar_z o w h at_ 2 false (by omega) (by decide) (by decide) (by rw [decide_eq_true (by simpa using hin)]; rfl)
  obtain ⟨b, hb, hr⟩ := h.row.pos (by omega)
  have hc0 := h.c0
  rw [hb, show headOf (some b) = some ⟨b, 0, none⟩ from rfl] at hc0
  have hcap := hr.le
  go_enter Try.func46, Try.ntmps46
  go_wp2_with (go_at_call 56; (with_reducible refine hw.mono ?_); rintro e u ⟨rfl, rfl⟩)
  go_loopw [8, 9] (fun xv iv wr => ∃ (j : Nat) (z : Int), j ≤ 2 ∧ z = (j : Int) - 1 ∧ iv = .int .i64 z ∧ xv = .int .u64 (loadN o.β (at_ + j) (2 - j) : Nat) ∧ wr = u) (fun _ iv _ => (intOf iv + 1).toNat)
  case atStart => exact ⟨2, 2 - 1, Nat.le_refl _, rfl, rfl, rfl, rfl⟩
  case round =>
    obtain ⟨j, z, hj, hz, rfl, rfl, rfl⟩ := hrel
    rcases j with _ | i
    · obtain rfl : z = -1 := by omega
      clear hz
      go_wp2
      go_ret2
      exact ⟨rfl, rfl⟩
    · obtain rfl : z = (i : Int) := by omega
      clear hz
      have hcell := hr.cell (i := at_ + i) (by omega)
      have hlt := hr.lt (at_ + i) (by omega)
      have hlow := loadN_low o.β (at_ + i) (2 - (i + 1))
      rw [show 2 - (i + 1) + 1 = 2 - i by omega, show at_ + i + 1 = at_ + (i + 1) by omega] at hlow
      have hX := loadN_lt o.β (at_ + (i + 1)) (2 - (i + 1)) (fun k hk => hr.lt _ (by omega))
      have hX2 : loadN o.β (at_ + (i + 1)) (2 - (i + 1)) < 72057594037927936 := Nat.lt_of_lt_of_le hX (by
        have := Nat.pow_le_pow_right (show 0 < 2 by decide) (show 8 * (2 - (i + 1)) ≤ 56 by omega)
        exact Nat.le_trans this (by decide))
      clear hX
      generalize loadN o.β (at_ + (i + 1)) (2 - (i + 1)) = X at *
      have HL := Lib.hid hlow
      clear hlow
      go_wp2
      exact ⟨⟨i, _, by omega, rfl, rfl, by rw [HL.out]; simp, trivial⟩, by (simp [intOf] <;> omega)⟩

set_option maxHeartbeats 1000000 in
theorem rload_4 (o : MObj) (w : World) (h : MemAt w o) (at_ : Nat) (hin : at_ + 4 ≤ o.n) :
    Calls Try.prog 46 #[.pointer (some ⟨o.p, 0, none⟩), .int .u64 (at_ : Nat), .int .i64 4] w fun e w' => e = .returned (.tuple #[.int .u64 (loadN o.β at_ 4 : Nat), .int .i64 0]) ∧ w' = w := by
  have hz := h.size
  have hw := rfar_z o w h at_ 4 false (by omega) (by decide) (by decide) (by rw [decide_eq_true (by simpa using hin)]; rfl)
  obtain ⟨b, hb, hr⟩ := h.row.pos (by omega)
  have hc0 := h.c0
  rw [hb, show headOf (some b) = some ⟨b, 0, none⟩ from rfl] at hc0
  have hcap := hr.le
  go_enter Try.func46, Try.ntmps46
  go_wp2_with (go_at_call 56; (with_reducible refine hw.mono ?_); rintro e u ⟨rfl, rfl⟩)
  go_loopw [8, 9] (fun xv iv wr => ∃ (j : Nat) (z : Int), j ≤ 4 ∧ z = (j : Int) - 1 ∧ iv = .int .i64 z ∧ xv = .int .u64 (loadN o.β (at_ + j) (4 - j) : Nat) ∧ wr = u) (fun _ iv _ => (intOf iv + 1).toNat)
  case atStart => exact ⟨4, 4 - 1, Nat.le_refl _, rfl, rfl, rfl, rfl⟩
  case round =>
    obtain ⟨j, z, hj, hz, rfl, rfl, rfl⟩ := hrel
    rcases j with _ | i
    · obtain rfl : z = -1 := by omega
      clear hz
      go_wp2
      go_ret2
      exact ⟨rfl, rfl⟩
    · obtain rfl : z = (i : Int) := by omega
      clear hz
      have hcell := hr.cell (i := at_ + i) (by omega)
      have hlt := hr.lt (at_ + i) (by omega)
      have hlow := loadN_low o.β (at_ + i) (4 - (i + 1))
      rw [show 4 - (i + 1) + 1 = 4 - i by omega, show at_ + i + 1 = at_ + (i + 1) by omega] at hlow
      have hX := loadN_lt o.β (at_ + (i + 1)) (4 - (i + 1)) (fun k hk => hr.lt _ (by omega))
      have hX2 : loadN o.β (at_ + (i + 1)) (4 - (i + 1)) < 72057594037927936 := Nat.lt_of_lt_of_le hX (by
        have := Nat.pow_le_pow_right (show 0 < 2 by decide) (show 8 * (4 - (i + 1)) ≤ 56 by omega)
        exact Nat.le_trans this (by decide))
      clear hX
      generalize loadN o.β (at_ + (i + 1)) (4 - (i + 1)) = X at *
      have HL := Lib.hid hlow
      clear hlow
      go_wp2
      exact ⟨⟨i, _, by omega, rfl, rfl, by rw [HL.out]; simp, trivial⟩, by (simp [intOf] <;> omega)⟩

set_option maxHeartbeats 1000000 in
theorem rload_8 (o : MObj) (w : World) (h : MemAt w o) (at_ : Nat) (hin : at_ + 8 ≤ o.n) :
    Calls Try.prog 46 #[.pointer (some ⟨o.p, 0, none⟩), .int .u64 (at_ : Nat), .int .i64 8] w fun e w' => e = .returned (.tuple #[.int .u64 (loadN o.β at_ 8 : Nat), .int .i64 0]) ∧ w' = w := by
  have hz := h.size
  have hw := rfar_z o w h at_ 8 false (by omega) (by decide) (by decide) (by rw [decide_eq_true (by simpa using hin)]; rfl)
  obtain ⟨b, hb, hr⟩ := h.row.pos (by omega)
  have hc0 := h.c0
  rw [hb, show headOf (some b) = some ⟨b, 0, none⟩ from rfl] at hc0
  have hcap := hr.le
  go_enter Try.func46, Try.ntmps46
  go_wp2_with (go_at_call 56; (with_reducible refine hw.mono ?_); rintro e u ⟨rfl, rfl⟩)
  go_loopw [8, 9] (fun xv iv wr => ∃ (j : Nat) (z : Int), j ≤ 8 ∧ z = (j : Int) - 1 ∧ iv = .int .i64 z ∧ xv = .int .u64 (loadN o.β (at_ + j) (8 - j) : Nat) ∧ wr = u) (fun _ iv _ => (intOf iv + 1).toNat)
  case atStart => exact ⟨8, 8 - 1, Nat.le_refl _, rfl, rfl, rfl, rfl⟩
  case round =>
    obtain ⟨j, z, hj, hz, rfl, rfl, rfl⟩ := hrel
    rcases j with _ | i
    · obtain rfl : z = -1 := by omega
      clear hz
      go_wp2
      go_ret2
      exact ⟨rfl, rfl⟩
    · obtain rfl : z = (i : Int) := by omega
      clear hz
      have hcell := hr.cell (i := at_ + i) (by omega)
      have hlt := hr.lt (at_ + i) (by omega)
      have hlow := loadN_low o.β (at_ + i) (8 - (i + 1))
      rw [show 8 - (i + 1) + 1 = 8 - i by omega, show at_ + i + 1 = at_ + (i + 1) by omega] at hlow
      have hX := loadN_lt o.β (at_ + (i + 1)) (8 - (i + 1)) (fun k hk => hr.lt _ (by omega))
      have hX2 : loadN o.β (at_ + (i + 1)) (8 - (i + 1)) < 72057594037927936 := Nat.lt_of_lt_of_le hX (by
        have := Nat.pow_le_pow_right (show 0 < 2 by decide) (show 8 * (8 - (i + 1)) ≤ 56 by omega)
        exact Nat.le_trans this (by decide))
      clear hX
      generalize loadN o.β (at_ + (i + 1)) (8 - (i + 1)) = X at *
      have HL := Lib.hid hlow
      clear hlow
      go_wp2
      exact ⟨⟨i, _, by omega, rfl, rfl, by rw [HL.out]; simp, trivial⟩, by (simp [intOf] <;> omega)⟩

theorem rload_at (o : MObj) (w : World) (h : MemAt w o) (at_ : Nat) (m : Int) (hin : at_ + m.toNat ≤ o.n) (hm : szOk m = true) :
    Calls Try.prog 46 #[.pointer (some ⟨o.p, 0, none⟩), .int .u64 (at_ : Nat), .int .i64 m] w fun e w' => e = .returned (.tuple #[.int .u64 (loadN o.β at_ m.toNat : Nat), .int .i64 0]) ∧ w' = w := by
  rcases szOk_cases hm with rfl | rfl | rfl | rfl
  · exact rload_1 o w h at_ hin
  · exact rload_2 o w h at_ hin
  · exact rload_4 o w h at_ hin
  · exact rload_8 o w h at_ hin
theorem rload_k (o : MObj) (w : World) (h : MemAt w o) (at_ : Nat) (m : Int) (ha : at_ < 18446744073709551616) (hm : -9223372036854775808 ≤ m ∧ m ≤ 9223372036854775807) :
    Calls Try.prog 46 #[.pointer (some ⟨o.p, 0, none⟩), .int .u64 (at_ : Nat), .int .i64 m] w fun e w' => e = .returned (.tuple #[.int .u64 (loadX o at_ m : Nat), .int .i64 (mayE o.n at_ m)]) ∧ w' = w := by
  by_cases he : mayE o.n at_ m = 0
  · unfold loadX
    rw [if_pos he]
    unfold mayE at *
    by_cases hs : szOk m = true
    · rw [if_pos hs] at he ⊢
      by_cases hin : at_ + m.toNat ≤ o.n
      · rw [if_pos hin]
        exact rload_at o w h at_ m hin hs
      · rw [if_neg hin] at he; omega
    · rw [if_neg hs] at he; omega
  · have := rload_err o w h at_ m ha hm _ rfl (bne_iff_ne.2 he)
    unfold loadX
    rw [if_neg he]
    exact this
theorem rstore_nil (w : World) (at_ m x : Value) :
    Calls Try.prog 47 #[.pointer none, at_, m, x] w fun e w' => e = .returned (.int .i64 2) ∧ w' = w := by
  have hm := rload_nil w at_ m
  go_enter Try.func47, Try.ntmps47
  go_wp2_with (go_at_call 46; (with_reducible refine hm.mono ?_); rintro e u ⟨rfl, rfl⟩)
  go_ret
  exact ⟨rfl, rfl⟩
theorem rstore_err (o : MObj) (w : World) (h : MemAt w o) (at_ : Nat) (m : Int) (x : Value) (ha : at_ < 18446744073709551616) (hm : -9223372036854775808 ≤ m ∧ m ≤ 9223372036854775807) (E : Int) (he : mayE o.n at_ m = E) (hE : (E != 0) = true) :
    Calls Try.prog 47 #[.pointer (some ⟨o.p, 0, none⟩), .int .u64 (at_ : Nat), .int .i64 m, x] w fun e w' => e = .returned (.int .i64 E) ∧ w' = w := by
  have hmm := rload_err o w h at_ m ha hm E he hE
  clear he h
  go_enter Try.func47, Try.ntmps47
  go_wp2_with (go_at_call 46; (with_reducible refine hmm.mono ?_); rintro e u ⟨rfl, rfl⟩)
  go_ret
  exact ⟨rfl, rfl⟩
theorem div_step (x j : Nat) : x / 2 ^ (8 * j) / 256 = x / 2 ^ (8 * (j + 1)) := by
  rw [Nat.div_div_eq_div_mul, show 8 * (j + 1) = 8 * j + 8 by omega, Nat.pow_add]

set_option maxHeartbeats 2000000 in
theorem rstore_1 (o : MObj) (w : World) (h : MemAt w o) (at_ x : Nat) (hx : x < 18446744073709551616) (hin : at_ + 1 ≤ o.n) :
    Calls Try.prog 47 #[.pointer (some ⟨o.p, 0, none⟩), .int .u64 (at_ : Nat), .int .i64 1, .int .u64 (x : Nat)] w fun e w' => e = .returned (.int .i64 0) ∧ MemAt w' (withβ o (storeN o.β at_ x 1)) ∧ Keep (fun k => o.q = some k) w w' := by
  have hz := h.size
  have hmm := rload_1 o w h at_ hin
  obtain ⟨b, hb, hr⟩ := h.row.pos (by omega)
  have hcap := hr.le
  have hk := Keep.refl (fun k => o.q = some k) w
  generalize loadN o.β at_ 1 = X at hmm
  go_enter Try.func47, Try.ntmps47
  go_wp2_with (go_at_call 46; (with_reducible refine hmm.mono ?_); rintro e u ⟨rfl, hu⟩; rw [hu]; clear hu)
  clear hmm
  go_loopw [3, 11] (fun xv jv wr => ∃ j : Nat, j ≤ 1 ∧ jv = .int .i64 j ∧ xv = .int .u64 (x / 2 ^ (8 * j) : Nat) ∧ MemAt wr (withβ o (storeN o.β at_ x j)) ∧ Keep (fun k => o.q = some k) w wr) (fun _ jv _ => 1 - (intOf jv).toNat)
  case atStart => exact ⟨0, Nat.zero_le _, rfl, by simp, h, hk⟩
  case round =>
    clear h hk hr
    obtain ⟨j, hj, rfl, rfl, h, hk⟩ := hrel
    by_cases hjl : j < 1
    · have hr := h.row
      have hc0 := h.c0
      have hset : MemAt (wr.setCell ⟨b, at_ + j, none⟩ (.int .u8 (((x / 2 ^ (8 * j) : Nat) : Int) % 256))) (withβ o (storeN o.β at_ x (j + 1))) := by
        have := h.set hb (i := at_ + j) (x := x / 2 ^ (8 * j) % 256) (by show _ < o.n; omega) (by omega)
        rw [show ((x / 2 ^ (8 * j) % 256 : Nat) : Int) = ((x / 2 ^ (8 * j) : Nat) : Int) % 256 by simp] at this
        exact this
      have hkset : Keep (fun k => o.q = some k) w (wr.setCell ⟨b, at_ + j, none⟩ (.int .u8 (((x / 2 ^ (8 * j) : Nat) : Int) % 256))) := (hk.setCell (.inl hb) _)
      have hdiv := div_step x j
      have hy : x / 2 ^ (8 * j) < 18446744073709551616 := Nat.lt_of_le_of_lt (Nat.div_le_self _ _) hx
      simp only [withβ] at hc0 hr
      rw [hb] at hc0 hr
      rw [show headOf (some b) = some ⟨b, 0, none⟩ from rfl] at hc0
      have hcell := BytesAt.cell hr (i := at_ + j) (by omega)
      have hfz := BytesAt.frozen hr (at_ + j)
      have hcap := BytesAt.le hr
      generalize x / 2 ^ (8 * j) = y at *
      have HD := Lib.hid hdiv
      clear hdiv
      go_wp2
      exact ⟨⟨j + 1, by omega, by go_num, by rw [← HD.out]; go_num, hset, hkset⟩, by simp [intOf]; omega⟩
    · obtain rfl : j = 1 := by omega
      go_wp2
      go_ret
      exact ⟨rfl, h, hk⟩

set_option maxHeartbeats 2000000 in
theorem rstore_2 (o : MObj) (w : World) (h : MemAt w o) (at_ x : Nat) (hx : x < 18446744073709551616) (hin : at_ + 2 ≤ o.n) :
    Calls Try.prog 47 #[.pointer (some ⟨o.p, 0, none⟩), .int .u64 (at_ : Nat), .int .i64 2, .int .u64 (x : Nat)] w fun e w' => e = .returned (.int .i64 0) ∧ MemAt w' (withβ o (storeN o.β at_ x 2)) ∧ Keep (fun k => o.q = some k) w w' := by
  have hz := h.size
  have hmm := rload_2 o w h at_ hin
  obtain ⟨b, hb, hr⟩ := h.row.pos (by omega)
  have hcap := hr.le
  have hk := Keep.refl (fun k => o.q = some k) w
  generalize loadN o.β at_ 2 = X at hmm
  go_enter Try.func47, Try.ntmps47
  go_wp2_with (go_at_call 46; (with_reducible refine hmm.mono ?_); rintro e u ⟨rfl, hu⟩; rw [hu]; clear hu)
  clear hmm
  go_loopw [3, 11] (fun xv jv wr => ∃ j : Nat, j ≤ 2 ∧ jv = .int .i64 j ∧ xv = .int .u64 (x / 2 ^ (8 * j) : Nat) ∧ MemAt wr (withβ o (storeN o.β at_ x j)) ∧ Keep (fun k => o.q = some k) w wr) (fun _ jv _ => 2 - (intOf jv).toNat)
  case atStart => exact ⟨0, Nat.zero_le _, rfl, by simp, h, hk⟩
  case round =>
    clear h hk hr
    obtain ⟨j, hj, rfl, rfl, h, hk⟩ := hrel
    by_cases hjl : j < 2
    · have hr := h.row
      have hc0 := h.c0
      have hset : MemAt (wr.setCell ⟨b, at_ + j, none⟩ (.int .u8 (((x / 2 ^ (8 * j) : Nat) : Int) % 256))) (withβ o (storeN o.β at_ x (j + 1))) := by
        have := h.set hb (i := at_ + j) (x := x / 2 ^ (8 * j) % 256) (by show _ < o.n; omega) (by omega)
        rw [show ((x / 2 ^ (8 * j) % 256 : Nat) : Int) = ((x / 2 ^ (8 * j) : Nat) : Int) % 256 by simp] at this
        exact this
      have hkset : Keep (fun k => o.q = some k) w (wr.setCell ⟨b, at_ + j, none⟩ (.int .u8 (((x / 2 ^ (8 * j) : Nat) : Int) % 256))) := (hk.setCell (.inl hb) _)
      have hdiv := div_step x j
      have hy : x / 2 ^ (8 * j) < 18446744073709551616 := Nat.lt_of_le_of_lt (Nat.div_le_self _ _) hx
      simp only [withβ] at hc0 hr
      rw [hb] at hc0 hr
      rw [show headOf (some b) = some ⟨b, 0, none⟩ from rfl] at hc0
      have hcell := BytesAt.cell hr (i := at_ + j) (by omega)
      have hfz := BytesAt.frozen hr (at_ + j)
      have hcap := BytesAt.le hr
      generalize x / 2 ^ (8 * j) = y at *
      have HD := Lib.hid hdiv
      clear hdiv
      go_wp2
      exact ⟨⟨j + 1, by omega, by go_num, by rw [← HD.out]; go_num, hset, hkset⟩, by simp [intOf]; omega⟩
    · obtain rfl : j = 2 := by omega
      go_wp2
      go_ret
      exact ⟨rfl, h, hk⟩

set_option maxHeartbeats 2000000 in
theorem rstore_4 (o : MObj) (w : World) (h : MemAt w o) (at_ x : Nat) (hx : x < 18446744073709551616) (hin : at_ + 4 ≤ o.n) :
    Calls Try.prog 47 #[.pointer (some ⟨o.p, 0, none⟩), .int .u64 (at_ : Nat), .int .i64 4, .int .u64 (x : Nat)] w fun e w' => e = .returned (.int .i64 0) ∧ MemAt w' (withβ o (storeN o.β at_ x 4)) ∧ Keep (fun k => o.q = some k) w w' := by
  have hz := h.size
  have hmm := rload_4 o w h at_ hin
  obtain ⟨b, hb, hr⟩ := h.row.pos (by omega)
  have hcap := hr.le
  have hk := Keep.refl (fun k => o.q = some k) w
  generalize loadN o.β at_ 4 = X at hmm
  go_enter Try.func47, Try.ntmps47
  go_wp2_with (go_at_call 46; (with_reducible refine hmm.mono ?_); rintro e u ⟨rfl, hu⟩; rw [hu]; clear hu)
  clear hmm
  go_loopw [3, 11] (fun xv jv wr => ∃ j : Nat, j ≤ 4 ∧ jv = .int .i64 j ∧ xv = .int .u64 (x / 2 ^ (8 * j) : Nat) ∧ MemAt wr (withβ o (storeN o.β at_ x j)) ∧ Keep (fun k => o.q = some k) w wr) (fun _ jv _ => 4 - (intOf jv).toNat)
  case atStart => exact ⟨0, Nat.zero_le _, rfl, by simp, h, hk⟩
  case round =>
    clear h hk hr
    obtain ⟨j, hj, rfl, rfl, h, hk⟩ := hrel
    by_cases hjl : j < 4
    · have hr := h.row
      have hc0 := h.c0
      have hset : MemAt (wr.setCell ⟨b, at_ + j, none⟩ (.int .u8 (((x / 2 ^ (8 * j) : Nat) : Int) % 256))) (withβ o (storeN o.β at_ x (j + 1))) := by
        have := h.set hb (i := at_ + j) (x := x / 2 ^ (8 * j) % 256) (by show _ < o.n; omega) (by omega)
        rw [show ((x / 2 ^ (8 * j) % 256 : Nat) : Int) = ((x / 2 ^ (8 * j) : Nat) : Int) % 256 by simp] at this
        exact this
      have hkset : Keep (fun k => o.q = some k) w (wr.setCell ⟨b, at_ + j, none⟩ (.int .u8 (((x / 2 ^ (8 * j) : Nat) : Int) % 256))) := (hk.setCell (.inl hb) _)
      have hdiv := div_step x j
      have hy : x / 2 ^ (8 * j) < 18446744073709551616 := Nat.lt_of_le_of_lt (Nat.div_le_self _ _) hx
      simp only [withβ] at hc0 hr
      rw [hb] at hc0 hr
      rw [show headOf (some b) = some ⟨b, 0, none⟩ from rfl] at hc0
      have hcell := BytesAt.cell hr (i := at_ + j) (by omega)
      have hfz := BytesAt.frozen hr (at_ + j)
      have hcap := BytesAt.le hr
      generalize x / 2 ^ (8 * j) = y at *
      have HD := Lib.hid hdiv
      clear hdiv
      go_wp2
      exact ⟨⟨j + 1, by omega, by go_num, by rw [← HD.out]; go_num, hset, hkset⟩, by simp [intOf]; omega⟩
    · obtain rfl : j = 4 := by omega
      go_wp2
      go_ret
      exact ⟨rfl, h, hk⟩

set_option maxHeartbeats 2000000 in
theorem rstore_8 (o : MObj) (w : World) (h : MemAt w o) (at_ x : Nat) (hx : x < 18446744073709551616) (hin : at_ + 8 ≤ o.n) :
    Calls Try.prog 47 #[.pointer (some ⟨o.p, 0, none⟩), .int .u64 (at_ : Nat), .int .i64 8, .int .u64 (x : Nat)] w fun e w' => e = .returned (.int .i64 0) ∧ MemAt w' (withβ o (storeN o.β at_ x 8)) ∧ Keep (fun k => o.q = some k) w w' := by
  have hz := h.size
  have hmm := rload_8 o w h at_ hin
  obtain ⟨b, hb, hr⟩ := h.row.pos (by omega)
  have hcap := hr.le
  have hk := Keep.refl (fun k => o.q = some k) w
  generalize loadN o.β at_ 8 = X at hmm
  go_enter Try.func47, Try.ntmps47
  go_wp2_with (go_at_call 46; (with_reducible refine hmm.mono ?_); rintro e u ⟨rfl, hu⟩; rw [hu]; clear hu)
  clear hmm
  go_loopw [3, 11] (fun xv jv wr => ∃ j : Nat, j ≤ 8 ∧ jv = .int .i64 j ∧ xv = .int .u64 (x / 2 ^ (8 * j) : Nat) ∧ MemAt wr (withβ o (storeN o.β at_ x j)) ∧ Keep (fun k => o.q = some k) w wr) (fun _ jv _ => 8 - (intOf jv).toNat)
  case atStart => exact ⟨0, Nat.zero_le _, rfl, by simp, h, hk⟩
  case round =>
    clear h hk hr
    obtain ⟨j, hj, rfl, rfl, h, hk⟩ := hrel
    by_cases hjl : j < 8
    · have hr := h.row
      have hc0 := h.c0
      have hset : MemAt (wr.setCell ⟨b, at_ + j, none⟩ (.int .u8 (((x / 2 ^ (8 * j) : Nat) : Int) % 256))) (withβ o (storeN o.β at_ x (j + 1))) := by
        have := h.set hb (i := at_ + j) (x := x / 2 ^ (8 * j) % 256) (by show _ < o.n; omega) (by omega)
        rw [show ((x / 2 ^ (8 * j) % 256 : Nat) : Int) = ((x / 2 ^ (8 * j) : Nat) : Int) % 256 by simp] at this
        exact this
      have hkset : Keep (fun k => o.q = some k) w (wr.setCell ⟨b, at_ + j, none⟩ (.int .u8 (((x / 2 ^ (8 * j) : Nat) : Int) % 256))) := (hk.setCell (.inl hb) _)
      have hdiv := div_step x j
      have hy : x / 2 ^ (8 * j) < 18446744073709551616 := Nat.lt_of_le_of_lt (Nat.div_le_self _ _) hx
      simp only [withβ] at hc0 hr
      rw [hb] at hc0 hr
      rw [show headOf (some b) = some ⟨b, 0, none⟩ from rfl] at hc0
      have hcell := BytesAt.cell hr (i := at_ + j) (by omega)
      have hfz := BytesAt.frozen hr (at_ + j)
      have hcap := BytesAt.le hr
      generalize x / 2 ^ (8 * j) = y at *
      have HD := Lib.hid hdiv
      clear hdiv
      go_wp2
      exact ⟨⟨j + 1, by omega, by go_num, by rw [← HD.out]; go_num, hset, hkset⟩, by simp [intOf]; omega⟩
    · obtain rfl : j = 8 := by omega
      go_wp2
      go_ret
      exact ⟨rfl, h, hk⟩

theorem rstore_k (o : MObj) (w : World) (h : MemAt w o) (at_ : Nat) (m : Int) (x : Nat) (hx : x < 18446744073709551616) (ha : at_ < 18446744073709551616) (hm : -9223372036854775808 ≤ m ∧ m ≤ 9223372036854775807) :
    Calls Try.prog 47 #[.pointer (some ⟨o.p, 0, none⟩), .int .u64 (at_ : Nat), .int .i64 m, .int .u64 (x : Nat)] w fun e w' => e = .returned (.int .i64 (mayE o.n at_ m)) ∧ MemAt w' (withβ o (storeB o at_ m x)) ∧ Keep (fun k => o.q = some k) w w' := by
  by_cases he : mayE o.n at_ m = 0
  · unfold storeB
    rw [if_pos he]
    unfold mayE at *
    by_cases hs : szOk m = true
    · rw [if_pos hs] at he ⊢
      by_cases hin : at_ + m.toNat ≤ o.n
      · rw [if_pos hin]
        rcases szOk_cases hs with rfl | rfl | rfl | rfl
        · exact rstore_1 o w h at_ x hx hin
        · exact rstore_2 o w h at_ x hx hin
        · exact rstore_4 o w h at_ x hx hin
        · exact rstore_8 o w h at_ x hx hin
      · rw [if_neg hin] at he; omega
    · rw [if_neg hs] at he; omega
  · unfold storeB
    rw [if_neg he]
    refine (rstore_err o w h at_ m _ ha hm _ rfl (bne_iff_ne.2 he)).mono ?_
    rintro e u ⟨rfl, rfl⟩
    exact ⟨rfl, h, Keep.refl _ _⟩
theorem rpoke_nil (w : World) (at_ : Value) (v : Value) :
    Calls Try.prog 37 #[.pointer none, at_, v] w fun e w' => e = .returned (.int .i64 2) ∧ w' = w := by
  go_enter Try.func37, Try.ntmps37
  go_wp2
  go_ret
  exact ⟨rfl, rfl⟩
theorem rpoke_err (o : MObj) (w : World) (h : MemAt w o) (at_ m c : Nat) (ad : Option Addr) (ha : at_ < 18446744073709551616) (hm : m ≤ 9223372036854775807) (hn : ¬ at_ + m ≤ o.n) :
    Calls Try.prog 37 #[.pointer (some ⟨o.p, 0, none⟩), .int .u64 (at_ : Nat), .slice ad m c] w fun e w' => e = .returned (.int .i64 23) ∧ w' = w := by
  have hw := rfar_k o w h at_ m ha hm
  rw [decide_eq_false hn] at hw
  clear h hn
  go_enter Try.func37, Try.ntmps37
  go_wp2_with (go_at_call 56; (with_reducible refine hw.mono ?_); rintro e u ⟨rfl, rfl⟩)
  go_ret
  exact ⟨rfl, rfl⟩
set_option maxHeartbeats 1000000 in
theorem rpoke_none (o : MObj) (w : World) (h : MemAt w o) (at_ c : Nat) (ad : Option Addr) (hn : at_ ≤ o.n) :
    Calls Try.prog 37 #[.pointer (some ⟨o.p, 0, none⟩), .int .u64 (at_ : Nat), .slice ad 0 c] w fun e w' => e = .returned (.int .i64 0) ∧ w' = w := by
  have hz := h.size
  have hw := rfar_z o w h at_ 0 false (by omega) (by decide) (by decide) (by rw [decide_eq_true (by simpa using hn)]; rfl)
  clear h
  go_enter Try.func37, Try.ntmps37
  go_wp2_with (go_at_call 56; (with_reducible refine hw.mono ?_); rintro e u ⟨rfl, rfl⟩)
  go_loopw [7] (fun iv wr => iv = .int .i64 0 ∧ wr = u) (fun iv _ => 0)
  case atStart => exact ⟨rfl, rfl⟩
  case round =>
    obtain ⟨rfl, rfl⟩ := hrel
    go_wp2
    go_ret
    exact ⟨rfl, rfl⟩
theorem putB_step (β ν : Nat → Nat) (a i : Nat) : upd (putB β a i ν) (a + i) (ν i) = putB β a (i + 1) ν := by
  funext k
  unfold upd putB
  by_cases h : k = a + i
  · subst h
    rw [if_pos rfl, if_pos (by omega), Nat.add_sub_cancel_left]
  · rw [if_neg h]
    by_cases h2 : a ≤ k ∧ k < a + i
    · rw [if_pos h2, if_pos (by omega)]
    · rw [if_neg h2, if_neg (by omega)]
theorem putB_nil (β ν : Nat → Nat) (a : Nat) : putB β a 0 ν = β := by
  funext k
  unfold putB
  rw [if_neg (by omega)]
set_option maxHeartbeats 2000000 in
theorem rpoke_some (o : MObj) (w : World) (h : MemAt w o) (at_ m c b0 off : Nat) (ν : Nat → Nat) (hm : 0 < m) (hmc : m ≤ c) (hc : ∀ j, j < m → w.cell? ⟨b0, off + j, none⟩ = some (.int .u8 (ν j : Nat))) (hν : ∀ j, j < m → ν j < 256) (hn : at_ + m ≤ o.n) (hb0 : ¬ o.has b0) :
    Calls Try.prog 37 #[.pointer (some ⟨o.p, 0, none⟩), .int .u64 (at_ : Nat), .slice (some ⟨b0, off, none⟩) m c] w fun e w' => e = .returned (.int .i64 0) ∧ MemAt w' (withβ o (putB o.β at_ m ν)) ∧ Keep (fun k => o.q = some k) w w' := by
  have hz := h.size
  have hw := rfar_z o w h at_ m false (by omega) (by omega) (by omega) (by rw [decide_eq_true (by simpa using hn)]; rfl)
  obtain ⟨b, hb, hr⟩ := h.row.pos (by omega)
  have hcap := hr.le
  have hk := Keep.refl (fun k => o.q = some k) w
  go_enter Try.func37, Try.ntmps37
  go_wp2_with (go_at_call 56; (with_reducible refine hw.mono ?_); rintro e u ⟨rfl, hu⟩; rw [hu]; clear hu)
  clear hw
  go_loopw [7] (fun jv wr => ∃ j : Nat, j ≤ m ∧ jv = .int .i64 j ∧ MemAt wr (withβ o (putB o.β at_ j ν)) ∧ Keep (fun k => o.q = some k) w wr) (fun jv _ => m - (intOf jv).toNat)
  case atStart => exact ⟨0, Nat.zero_le _, rfl, by rw [putB_nil]; exact h, hk⟩
  case round =>
    clear h hk hr
    obtain ⟨j, hj, rfl, h, hk⟩ := hrel
    by_cases hjl : j < m
    · have hr := h.row
      have hc0 := h.c0
      have hset : MemAt (wr.setCell ⟨b, at_ + j, none⟩ (.int .u8 (ν j : Nat))).drew (withβ o (putB o.β at_ (j + 1) ν)) := by
        have := h.set hb (i := at_ + j) (x := ν j) (by show _ < o.n; omega) (hν j hjl)
        rw [show upd (withβ o (putB o.β at_ j ν)).β (at_ + j) (ν j) = putB o.β at_ (j + 1) ν from putB_step _ _ _ _] at this
        exact this.drew
      have hkset : Keep (fun k => o.q = some k) w (wr.setCell ⟨b, at_ + j, none⟩ (.int .u8 (ν j : Nat))).drew := (hk.setCell (.inl hb) _).drew
      have hdat : wr.cell? ⟨b0, off + j, none⟩ = some (.int .u8 (ν j : Nat)) := by
        have h1 := hc j hjl
        have hb : b0 < w.heap.size := by
          rcases Nat.lt_or_ge b0 w.heap.size with h2 | h2
          · exact h2
          · rw [World.cell?, show w.heap[b0]? = none from Array.getElem?_eq_none h2] at h1; cases h1
        rw [← h1]
        unfold World.cell?
        rw [hk.block b0 hb (fun e => hb0 (.inr e))]
      simp only [withβ] at hc0 hr
      rw [hb] at hc0 hr
      rw [show headOf (some b) = some ⟨b, 0, none⟩ from rfl] at hc0
      have hcell := BytesAt.cell hr (i := at_ + j) (by omega)
      have hfz := BytesAt.frozen hr (at_ + j)
      have hcap := BytesAt.le hr
      go_wp2
      go_region
      go_wp2
      exact ⟨⟨j + 1, by omega, by go_num, hset, hkset⟩, by simp [intOf]; omega⟩
    · obtain rfl : j = m := by omega
      go_wp2
      go_ret
      exact ⟨rfl, h, hk⟩

end Go.Proofs.Ytlcndenbnokcjaa
