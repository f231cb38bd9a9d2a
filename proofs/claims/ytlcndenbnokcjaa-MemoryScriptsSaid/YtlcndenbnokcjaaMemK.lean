/-
  Contracts of memory: Pages, within, may, Load.
-/
import Derived.Test.YtlcndenbnokcjaaMem
set_option linter.unusedSimpArgs false
set_option linter.unusedVariables false
namespace Go.Proofs.Ytlcndenbnokcjaa
open Go.RowKit Pl

theorem ret_int {k : IntKind} {a b : Int} (h : a = b) : Ending.returned (.int k a) = .returned (.int k b) := by rw [h]
theorem ret_bool {a b : Bool} (h : a = b) : Ending.returned (.bool a) = .returned (.bool b) := by rw [h]
theorem pages_k (o : MObj) (w : World) (h : MemAt w o) :
    Calls Try.prog 15 #[.pointer (some ⟨o.p, 0, none⟩)] w fun e w' => e = .returned (.int .i64 ((o.n / 65536 : Nat) : Int)) ∧ w' = w := by
  have hc0 := h.c0
  have hz := h.size
  go_enter Try.func15, Try.ntmps15
  go_wp2
  go_ret
  exact ⟨ret_int (by simp), rfl⟩
theorem pages_nil (w : World) :
    Calls Try.prog 15 #[.pointer none] w fun e w' => e = .returned (.int .i64 0) ∧ w' = w := by
  go_enter Try.func15, Try.ntmps15
  go_wp2
  go_ret
  exact ⟨rfl, rfl⟩
theorem within_k (o : MObj) (w : World) (h : MemAt w o) (at_ m : Nat) (ha : at_ < 18446744073709551616) (hm : m ≤ 9223372036854775807) :
    Calls Try.prog 49 #[.pointer (some ⟨o.p, 0, none⟩), .int .u64 (at_ : Nat), .int .i64 (m : Nat)] w fun e w' => e = .returned (.bool (decide (at_ + m ≤ o.n))) ∧ w' = w := by
  have hc0 := h.c0
  have hz := h.size
  go_enter Try.func49, Try.ntmps49
  go_wp2
  · go_ret
    exact ⟨ret_bool (by rw [Bool.eq_iff_iff]; simp; omega), rfl⟩
  · go_ret
    exact ⟨ret_bool (by rw [Bool.eq_iff_iff]; simp; omega), rfl⟩
theorem within_z (o : MObj) (w : World) (h : MemAt w o) (at_ : Nat) (m : Int) (b : Bool) (ha : at_ < 18446744073709551616) (h0 : 0 ≤ m) (hm : m ≤ 9223372036854775807) (hb : decide (at_ + m.toNat ≤ o.n) = b) :
    Calls Try.prog 49 #[.pointer (some ⟨o.p, 0, none⟩), .int .u64 (at_ : Nat), .int .i64 m] w fun e w' => e = .returned (.bool b) ∧ w' = w := by
  obtain ⟨k, rfl⟩ := Int.eq_ofNat_of_zero_le h0
  rw [← hb]
  exact within_k o w h at_ k ha (by omega)
/-- Is it the number of the bytes of a load or store? -/
def szOk (m : Int) : Bool := m == 1 || m == 2 || m == 4 || m == 8
theorem szOk_cases {m : Int} (h : szOk m = true) : m = 1 ∨ m = 2 ∨ m = 4 ∨ m = 8 := by
  simp only [szOk, Bool.or_eq_true, beq_iff_eq] at h
  omega
theorem szOk_not {m : Int} (h : ¬ szOk m = true) : (m != 1) = true ∧ (m != 2) = true ∧ (m != 4) = true ∧ (m != 8) = true := by
  simp only [szOk, Bool.or_eq_true, beq_iff_eq] at h
  simp only [bne_iff_ne]
  omega
/-- The error of a load or store. -/
def mayE (n : Nat) (at_ : Nat) (m : Int) : Int := if szOk m = true then (if at_ + m.toNat ≤ n then 0 else 23) else 1
theorem may_k (o : MObj) (w : World) (h : MemAt w o) (at_ : Nat) (m : Int) (ha : at_ < 18446744073709551616) (hm : -9223372036854775808 ≤ m ∧ m ≤ 9223372036854775807) :
    Calls Try.prog 44 #[.pointer (some ⟨o.p, 0, none⟩), .int .u64 (at_ : Nat), .int .i64 m] w fun e w' => e = .returned (.int .i64 (mayE o.n at_ m)) ∧ w' = w := by
  by_cases hs : szOk m = true
  · have hk := szOk_cases hs
    by_cases hin : at_ + m.toNat ≤ o.n
    · have e : mayE o.n at_ m = 0 := by unfold mayE; rw [if_pos hs, if_pos hin]
      rw [e]
      clear e hs
      rcases hk with rfl | rfl | rfl | rfl
      all_goals
        have hw := within_z o w h at_ _ _ ha (by decide) (by decide) (decide_eq_true hin)
        clear hin h
        go_enter Try.func44, Try.ntmps44
        go_wp2_with (go_at_call 49; (with_reducible refine hw.mono ?_); rintro e u ⟨rfl, rfl⟩)
        go_ret
        exact ⟨rfl, rfl⟩
    · have e : mayE o.n at_ m = 23 := by unfold mayE; rw [if_pos hs, if_neg hin]
      rw [e]
      clear e hs
      rcases hk with rfl | rfl | rfl | rfl
      all_goals
        have hw := within_z o w h at_ _ _ ha (by decide) (by decide) (decide_eq_false hin)
        clear hin h
        go_enter Try.func44, Try.ntmps44
        go_wp2_with (go_at_call 49; (with_reducible refine hw.mono ?_); rintro e u ⟨rfl, rfl⟩)
        go_ret
        exact ⟨rfl, rfl⟩
  · have e : mayE o.n at_ m = 1 := by unfold mayE; rw [if_neg hs]
    rw [e]
    obtain ⟨h1, h2, h3, h4⟩ := szOk_not hs
    clear hs e h
    go_enter Try.func44, Try.ntmps44
    go_wp2
    go_ret
    exact ⟨rfl, rfl⟩
theorem may_nil (w : World) (at_ m : Value) :
    Calls Try.prog 44 #[.pointer none, at_, m] w fun e w' => e = .returned (.int .i64 2) ∧ w' = w := by
  go_enter Try.func44, Try.ntmps44
  go_wp2
  go_ret
  exact ⟨rfl, rfl⟩
/-- The number of k bytes from a place on. -/
def loadN (β : Nat → Nat) (s : Nat) : Nat → Nat
  | 0 => 0
  | k + 1 => loadN β s k + β (s + k) * 2 ^ (8 * k)
theorem loadN_lt (β : Nat → Nat) (s : Nat) : ∀ k, (∀ i, i < k → β (s + i) < 256) → loadN β s k < 2 ^ (8 * k)
  | 0, _ => by simp [loadN]
  | k + 1, h => by
    have ih := loadN_lt β s k (fun i hi => h i (by omega))
    have hk := h k (by omega)
    have e : (2 : Nat) ^ (8 * (k + 1)) = 256 * 2 ^ (8 * k) := by rw [show 8 * (k + 1) = 8 + 8 * k by omega, Nat.pow_add]
    have := Nat.mul_le_mul_right (2 ^ (8 * k)) (show β (s + k) ≤ 255 by omega)
    rw [loadN, e]
    omega
theorem or_load (β : Nat → Nat) (s k : Nat) (hk : k < 8) (h : ∀ i, i ≤ k → β (s + i) < 256) : bits BinOp.or IntKind.u64 (↑(loadN β s k))
    (IntKind.u64.wrap (IntKind.u64.wrap ↑(β (s + k)) * 2 ^ (8 * k))) = ((loadN β s (k + 1) : Nat) : Int) := by
  have h1 := h k (Nat.le_refl _)
  have h2 := loadN_lt β s k (fun i hi => h i (by omega))
  have hp : (2 : Nat) ^ (8 * k) * 256 ≤ 18446744073709551616 := by
    have := Nat.pow_le_pow_right (show 0 < 2 by decide) (show 8 * k + 8 ≤ 64 by omega)
    rw [Nat.pow_add] at this
    simpa using this
  have h3 : β (s + k) * 2 ^ (8 * k) < 18446744073709551616 := by
    have := Nat.mul_le_mul_right (2 ^ (8 * k)) (show β (s + k) ≤ 255 by omega)
    have h0 : 0 < 2 ^ (8 * k) := Nat.two_pow_pos _
    omega
  have e1 : IntKind.u64.wrap ((β (s + k) : Nat) : Int) = ((β (s + k) : Nat) : Int) := IntWalk.u64_in _ (by omega)
  have e2 : ((β (s + k) : Nat) : Int) * 2 ^ (8 * k) = ((β (s + k) * 2 ^ (8 * k) : Nat) : Int) := by simp
  rw [e1, e2, IntWalk.u64_in _ (by omega), u64_or_nat _ _ (by have : 0 < 2 ^ (8 * k) := Nat.two_pow_pos _; omega) h3]
  congr 1
  rw [loadN, Nat.mul_comm (β (s + k)), Nat.or_comm, ← Nat.two_pow_add_eq_or_of_lt h2]
  exact Nat.add_comm _ _
/-- What a load answers. -/
def loadX (o : MObj) (at_ : Nat) (m : Int) : Nat := if mayE o.n at_ m = 0 then loadN o.β at_ m.toNat else 0
theorem load_nil (w : World) (at_ m : Value) :
    Calls Try.prog 19 #[.pointer none, at_, m] w fun e w' => e = .returned (.tuple #[.int .u64 0, .int .i64 2]) ∧ w' = w := by
  have hm := may_nil w at_ m
  go_enter Try.func19, Try.ntmps19
  go_wp2_with (go_at_call 44; (with_reducible refine hm.mono ?_); rintro e u ⟨rfl, rfl⟩)
  go_ret2
  exact ⟨rfl, rfl⟩
theorem load_err (o : MObj) (w : World) (h : MemAt w o) (at_ : Nat) (m : Int) (ha : at_ < 18446744073709551616) (hm : -9223372036854775808 ≤ m ∧ m ≤ 9223372036854775807) (E : Int) (he : mayE o.n at_ m = E) (hE : (E != 0) = true) :
    Calls Try.prog 19 #[.pointer (some ⟨o.p, 0, none⟩), .int .u64 (at_ : Nat), .int .i64 m] w fun e w' => e = .returned (.tuple #[.int .u64 0, .int .i64 E]) ∧ w' = w := by
  have hmm := may_k o w h at_ m ha hm
  rw [he] at hmm
  clear he h
  go_enter Try.func19, Try.ntmps19
  go_wp2_with (go_at_call 44; (with_reducible refine hmm.mono ?_); rintro e u ⟨rfl, rfl⟩)
  go_ret2
  exact ⟨rfl, rfl⟩

theorem load_1 (o : MObj) (w : World) (h : MemAt w o) (at_ : Nat) (hin : at_ + 1 ≤ o.n) :
    Calls Try.prog 19 #[.pointer (some ⟨o.p, 0, none⟩), .int .u64 (at_ : Nat), .int .i64 1] w fun e w' => e = .returned (.tuple #[.int .u64 (loadN o.β at_ 1 : Nat), .int .i64 0]) ∧ w' = w := by
  have hz := h.size
  have hmm := may_k o w h at_ 1 (by omega) (by decide)
  rw [show mayE o.n at_ 1 = 0 by unfold mayE; rw [if_pos (by decide), if_pos (by simpa using hin)]] at hmm
  obtain ⟨b, hb, hr⟩ := h.row.pos (by omega)
  have hc0 := h.c0
  rw [hb, show headOf (some b) = some ⟨b, 0, none⟩ from rfl] at hc0
  have hcap := hr.le
  go_enter Try.func19, Try.ntmps19
  go_wp2_with (go_at_call 44; (with_reducible refine hmm.mono ?_); rintro e u ⟨rfl, rfl⟩)
  go_loopw [9, 30] (fun xv jv wr => ∃ j : Nat, j ≤ 1 ∧ jv = .int .i64 j ∧ xv = .int .u64 (loadN o.β at_ j : Nat) ∧ wr = u) (fun _ jv _ => 1 - (intOf jv).toNat)
  case atStart => exact ⟨0, Nat.zero_le _, rfl, rfl, rfl⟩
  case round =>
    obtain ⟨j, hj, rfl, rfl, rfl⟩ := hrel
    by_cases hjl : j < 1
    · have hcell := hr.cell (i := at_ + j) (by omega)
      have hor := or_load o.β at_ j (by omega) (fun i hi => hr.lt _ (by omega))
      go_wp2
      exact ⟨⟨j + 1, by omega, by go_num, rfl, trivial⟩, by simp [intOf]; omega⟩
    · obtain rfl : j = 1 := by omega
      go_wp2
      go_ret2
      exact ⟨rfl, rfl⟩

theorem load_2 (o : MObj) (w : World) (h : MemAt w o) (at_ : Nat) (hin : at_ + 2 ≤ o.n) :
    Calls Try.prog 19 #[.pointer (some ⟨o.p, 0, none⟩), .int .u64 (at_ : Nat), .int .i64 2] w fun e w' => e = .returned (.tuple #[.int .u64 (loadN o.β at_ 2 : Nat), .int .i64 0]) ∧ w' = w := by
  have hz := h.size
  have hmm := may_k o w h at_ 2 (by omega) (by decide)
  rw [show mayE o.n at_ 2 = 0 by unfold mayE; rw [if_pos (by decide), if_pos (by simpa using hin)]] at hmm
  obtain ⟨b, hb, hr⟩ := h.row.pos (by omega)
  have hc0 := h.c0
  rw [hb, show headOf (some b) = some ⟨b, 0, none⟩ from rfl] at hc0
  have hcap := hr.le
  go_enter Try.func19, Try.ntmps19
  go_wp2_with (go_at_call 44; (with_reducible refine hmm.mono ?_); rintro e u ⟨rfl, rfl⟩)
  go_loopw [9, 30] (fun xv jv wr => ∃ j : Nat, j ≤ 2 ∧ jv = .int .i64 j ∧ xv = .int .u64 (loadN o.β at_ j : Nat) ∧ wr = u) (fun _ jv _ => 2 - (intOf jv).toNat)
  case atStart => exact ⟨0, Nat.zero_le _, rfl, rfl, rfl⟩
  case round =>
    obtain ⟨j, hj, rfl, rfl, rfl⟩ := hrel
    by_cases hjl : j < 2
    · have hcell := hr.cell (i := at_ + j) (by omega)
      have hor := or_load o.β at_ j (by omega) (fun i hi => hr.lt _ (by omega))
      go_wp2
      exact ⟨⟨j + 1, by omega, by go_num, rfl, trivial⟩, by simp [intOf]; omega⟩
    · obtain rfl : j = 2 := by omega
      go_wp2
      go_ret2
      exact ⟨rfl, rfl⟩

theorem load_4 (o : MObj) (w : World) (h : MemAt w o) (at_ : Nat) (hin : at_ + 4 ≤ o.n) :
    Calls Try.prog 19 #[.pointer (some ⟨o.p, 0, none⟩), .int .u64 (at_ : Nat), .int .i64 4] w fun e w' => e = .returned (.tuple #[.int .u64 (loadN o.β at_ 4 : Nat), .int .i64 0]) ∧ w' = w := by
  have hz := h.size
  have hmm := may_k o w h at_ 4 (by omega) (by decide)
  rw [show mayE o.n at_ 4 = 0 by unfold mayE; rw [if_pos (by decide), if_pos (by simpa using hin)]] at hmm
  obtain ⟨b, hb, hr⟩ := h.row.pos (by omega)
  have hc0 := h.c0
  rw [hb, show headOf (some b) = some ⟨b, 0, none⟩ from rfl] at hc0
  have hcap := hr.le
  go_enter Try.func19, Try.ntmps19
  go_wp2_with (go_at_call 44; (with_reducible refine hmm.mono ?_); rintro e u ⟨rfl, rfl⟩)
  go_loopw [9, 30] (fun xv jv wr => ∃ j : Nat, j ≤ 4 ∧ jv = .int .i64 j ∧ xv = .int .u64 (loadN o.β at_ j : Nat) ∧ wr = u) (fun _ jv _ => 4 - (intOf jv).toNat)
  case atStart => exact ⟨0, Nat.zero_le _, rfl, rfl, rfl⟩
  case round =>
    obtain ⟨j, hj, rfl, rfl, rfl⟩ := hrel
    by_cases hjl : j < 4
    · have hcell := hr.cell (i := at_ + j) (by omega)
      have hor := or_load o.β at_ j (by omega) (fun i hi => hr.lt _ (by omega))
      go_wp2
      exact ⟨⟨j + 1, by omega, by go_num, rfl, trivial⟩, by simp [intOf]; omega⟩
    · obtain rfl : j = 4 := by omega
      go_wp2
      go_ret2
      exact ⟨rfl, rfl⟩

theorem load_8 (o : MObj) (w : World) (h : MemAt w o) (at_ : Nat) (hin : at_ + 8 ≤ o.n) :
    Calls Try.prog 19 #[.pointer (some ⟨o.p, 0, none⟩), .int .u64 (at_ : Nat), .int .i64 8] w fun e w' => e = .returned (.tuple #[.int .u64 (loadN o.β at_ 8 : Nat), .int .i64 0]) ∧ w' = w := by
  have hz := h.size
  have hmm := may_k o w h at_ 8 (by omega) (by decide)
  rw [show mayE o.n at_ 8 = 0 by unfold mayE; rw [if_pos (by decide), if_pos (by simpa using hin)]] at hmm
  obtain ⟨b, hb, hr⟩ := h.row.pos (by omega)
  have hc0 := h.c0
  rw [hb, show headOf (some b) = some ⟨b, 0, none⟩ from rfl] at hc0
  have hcap := hr.le
  go_enter Try.func19, Try.ntmps19
  go_wp2_with (go_at_call 44; (with_reducible refine hmm.mono ?_); rintro e u ⟨rfl, rfl⟩)
  go_loopw [9, 30] (fun xv jv wr => ∃ j : Nat, j ≤ 8 ∧ jv = .int .i64 j ∧ xv = .int .u64 (loadN o.β at_ j : Nat) ∧ wr = u) (fun _ jv _ => 8 - (intOf jv).toNat)
  case atStart => exact ⟨0, Nat.zero_le _, rfl, rfl, rfl⟩
  case round =>
    obtain ⟨j, hj, rfl, rfl, rfl⟩ := hrel
    by_cases hjl : j < 8
    · have hcell := hr.cell (i := at_ + j) (by omega)
      have hor := or_load o.β at_ j (by omega) (fun i hi => hr.lt _ (by omega))
      go_wp2
      exact ⟨⟨j + 1, by omega, by go_num, rfl, trivial⟩, by simp [intOf]; omega⟩
    · obtain rfl : j = 8 := by omega
      go_wp2
      go_ret2
      exact ⟨rfl, rfl⟩

theorem load_at (o : MObj) (w : World) (h : MemAt w o) (at_ : Nat) (m : Int) (hin : at_ + m.toNat ≤ o.n) (hm : szOk m = true) :
    Calls Try.prog 19 #[.pointer (some ⟨o.p, 0, none⟩), .int .u64 (at_ : Nat), .int .i64 m] w fun e w' => e = .returned (.tuple #[.int .u64 (loadN o.β at_ m.toNat : Nat), .int .i64 0]) ∧ w' = w := by
  rcases szOk_cases hm with rfl | rfl | rfl | rfl
  · exact load_1 o w h at_ hin
  · exact load_2 o w h at_ hin
  · exact load_4 o w h at_ hin
  · exact load_8 o w h at_ hin
theorem load_k (o : MObj) (w : World) (h : MemAt w o) (at_ : Nat) (m : Int) (ha : at_ < 18446744073709551616) (hm : -9223372036854775808 ≤ m ∧ m ≤ 9223372036854775807) :
    Calls Try.prog 19 #[.pointer (some ⟨o.p, 0, none⟩), .int .u64 (at_ : Nat), .int .i64 m] w fun e w' => e = .returned (.tuple #[.int .u64 (loadX o at_ m : Nat), .int .i64 (mayE o.n at_ m)]) ∧ w' = w := by
  by_cases he : mayE o.n at_ m = 0
  · unfold loadX
    rw [if_pos he]
    unfold mayE at *
    by_cases hs : szOk m = true
    · rw [if_pos hs] at he ⊢
      by_cases hin : at_ + m.toNat ≤ o.n
      · rw [if_pos hin]
        exact load_at o w h at_ m hin hs
      · rw [if_neg hin] at he; omega
    · rw [if_neg hs] at he; omega
  · have := load_err o w h at_ m ha hm _ rfl (bne_iff_ne.2 he)
    unfold loadX
    rw [if_neg he]
    exact this

end Go.Proofs.Ytlcndenbnokcjaa
