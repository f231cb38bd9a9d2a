/-
  The contracts of the counts of bits.
-/
import Derived.Test.YtllffbdcpilioaaDoorNumUn
import Derived.Test.YtllffbdcpilioaaDoorShelf
set_option linter.unusedSimpArgs false
set_option linter.unusedVariables false
namespace Go.Proofs.YtllffbdcpilioaaDoor
open Go.RowKit _root_.Nm
set_option linter.unusedVariables false
set_option linter.unusedSimpArgs false

theorem and255 (n : Nat) (h : n < 4294967296) : bits .and .u32 (n : Int) 255 = ((n % 256 : Nat) : Int) := by
  have := u32_and_nat n 255 h (by decide)
  rw [show ((255 : Nat) : Int) = 255 from rfl] at this
  rw [this, show (255 : Nat) = 2 ^ 8 - 1 from rfl, Nat.and_two_pow_sub_one_eq_mod]
theorem bitLen_le (w x : Nat) (hw : w ≤ 64) (h : x < 2 ^ w) : Lib.bitLen x ≤ w := by
  by_cases h0 : x = 0
  · subst h0; exact Nat.zero_le _
  · obtain ⟨h1, h2, h3⟩ := _root_.Nm.bitLen_spec x (Nat.lt_of_lt_of_le h (Nat.pow_le_pow_right (by decide) hw)) (by omega)
    apply Nat.le_of_not_lt; intro hlt
    have : 2 ^ w ≤ 2 ^ (Lib.bitLen x - 1) := Nat.pow_le_pow_right (by decide) (by omega)
    omega
theorem popAux_add : ∀ (f g x : Nat), Lib.popAux (f + g) x = Lib.popAux f (x % 2 ^ f) + Lib.popAux g (x / 2 ^ f)
  | 0, g, x => by simp [popAux_zero, Lib.popAux]
  | f + 1, g, x => by
    rw [show f + 1 + g = (f + g) + 1 by omega, popAux_succ, popAux_succ, popAux_add f g (x / 2)]
    have e1 : x % 2 ^ (f + 1) % 2 = x % 2 := Nat.mod_mod_of_dvd _ ⟨2 ^ f, by rw [Nat.pow_succ, Nat.mul_comm]⟩
    have e2 : x % 2 ^ (f + 1) / 2 = x / 2 % 2 ^ f := by rw [Nat.pow_succ, Nat.mul_comm, Nat.mod_mul_right_div_self]
    have e3 : x / 2 ^ (f + 1) = x / 2 / 2 ^ f := by rw [Nat.div_div_eq_div_mul, Nat.pow_succ, Nat.mul_comm]
    rw [e1, e2, e3]; omega
theorem pop8_bytes (x : Nat) (h : x < 2 ^ 32) : Lib.onesCount x = Lib.onesCount (x / 16777216) + Lib.onesCount (x / 65536 % 256) + Lib.onesCount (x / 256 % 256) + Lib.onesCount (x % 256) := by
  have m : ∀ y, y < 2 ^ 8 → Lib.onesCount y = Lib.popAux 8 y := fun y hy => popAux_more 8 56 y hy
  have m32 : Lib.onesCount x = Lib.popAux 32 x := popAux_more 32 32 x h
  have a1 := popAux_add 8 24 x
  have a2 := popAux_add 8 16 (x / 2 ^ 8)
  have a3 := popAux_add 8 8 (x / 2 ^ 8 / 2 ^ 8)
  have c : (2 : Nat) ^ 8 = 256 := by decide
  rw [c] at a1 a2 a3 m
  rw [m (x / 16777216) (by rw [show (2 : Nat) ^ 32 = 4294967296 from rfl] at h; omega), m _ (Nat.mod_lt _ (by decide)), m _ (Nat.mod_lt _ (by decide)), m _ (Nat.mod_lt _ (by decide)), m32, a1, a2, a3]
  rw [show x / 256 / 256 / 256 = x / 16777216 by omega, show x / 256 / 256 = x / 65536 by omega]
  omega
theorem idx_pop (n : Nat) (h : n < 256) (u : World) : (Instr.index 9 (.string Lib.pop8tab) (.int .u32 (n : Int))).run Tryd.prog u = .ok (.int .u8 (Lib.onesCount n : Int)) u := by
  have hs := Lib.pop8tab_size
  have h2 : (n : Int) < 256 := by omega
  go_simp
  have e := Lib.pop8_eq ⟨n, h⟩
  simp only [Lib.pop8, Int.toNat_natCast] at e
  rw [← e]
  rw [getElem?_pos Lib.pop8tab n (by omega), Option.getD_some]
set_option maxRecDepth 100000 in
set_option maxHeartbeats 1000000 in
theorem ones32_any (x : B32) (w : World) : Calls Tryd.prog 27 #[.int .u32 (x.toNat : Int)] w fun e w' => e = .returned (.int .i64 (Lib.onesCount x.toNat : Int)) ∧ ∃ n, w' = w.drewN n := by
  have hx := x.isLt
  have e0 : (x.toNat : Int) / 16777216 = ((x.toNat / 16777216 : Nat) : Int) := by simp
  have e1 : bits .and .u32 ((x.toNat : Int) / 65536) 255 = ((x.toNat / 65536 % 256 : Nat) : Int) := by rw [show (x.toNat : Int) / 65536 = ((x.toNat / 65536 : Nat) : Int) by simp]; exact and255 _ (by omega)
  have e2 : bits .and .u32 ((x.toNat : Int) / 256) 255 = ((x.toNat / 256 % 256 : Nat) : Int) := by rw [show (x.toNat : Int) / 256 = ((x.toNat / 256 : Nat) : Int) by simp]; exact and255 _ (by omega)
  have e3 : bits .and .u32 (x.toNat : Int) 255 = ((x.toNat % 256 : Nat) : Int) := and255 _ (by omega)
  obtain ⟨a, ha⟩ : ∃ a, a = x.toNat / 16777216 := ⟨_, rfl⟩
  obtain ⟨b, hb⟩ : ∃ b, b = x.toNat / 65536 % 256 := ⟨_, rfl⟩
  obtain ⟨c, hc⟩ : ∃ c, c = x.toNat / 256 % 256 := ⟨_, rfl⟩
  obtain ⟨d, hd⟩ : ∃ d, d = x.toNat % 256 := ⟨_, rfl⟩
  have la : a < 256 := by omega
  have lb : b < 256 := by omega
  have lc : c < 256 := by omega
  have ld : d < 256 := by omega
  rw [← ha] at e0
  rw [← hb] at e1
  rw [← hc] at e2
  rw [← hd] at e3
  have HA := Lib.hid ha
  have HB := Lib.hid hb
  have HC := Lib.hid hc
  have HD := Lib.hid hd
  clear ha hb hc hd
  have i1 := idx_pop a la
  have i2 := idx_pop b lb
  have i3 := idx_pop c lc
  have i4 := idx_pop d ld
  go_enter Tryd.func27, Tryd.ntmps27
  go_wp2
  simp only [List.append_eq, List.cons_append, List.nil_append]
  simp only [Lib.fold_pop8tab]
  go_quiet (fail)
  go_wp2
  go_ret
  refine ⟨ret_ni64 ?_, ⟨_, rfl⟩⟩
  have q1 := Lib.onesCount_le8 ⟨a, la⟩
  have q2 := Lib.onesCount_le8 ⟨b, lb⟩
  have q3 := Lib.onesCount_le8 ⟨c, lc⟩
  have q4 := Lib.onesCount_le8 ⟨d, ld⟩
  rw [pop8_bytes x.toNat hx, ← HA.out, ← HB.out, ← HC.out, ← HD.out]
  simp only at q1 q2 q3 q4
  generalize Lib.onesCount a = A at *
  generalize Lib.onesCount b = B at *
  generalize Lib.onesCount c = C at *
  generalize Lib.onesCount d = D at *
  clear i1 i2 i3 i4
  omega
theorem lz32_op (x : B64) (w : World) : Calls Tryd.prog 18 #[.int .i64 103, .int .u64 (x.toNat : Int)] w fun e w' => e = .returned (.tuple #[.int .u64 ((BitVec.ofNat 64 (32 - Lib.bitLen (lo x).toNat)).toNat : Int), .int .i64 0]) ∧ w' = w := by
  have hx := (lo x).isLt
  have H := Lib.hid (show (((103 : Int)) = 69 ∨ (103 : Int) = 80 ∨ 103 ≤ (103 : Int) ∧ (103 : Int) ≤ 105 ∨ 121 ≤ (103 : Int) ∧ (103 : Int) ≤ 123 ∨ (103 : Int) = 167 ∨ (103 : Int) = 172 ∨ (103 : Int) = 173 ∨ 192 ≤ (103 : Int) ∧ (103 : Int) ≤ 196) by omega)
  have ex := lo_arg x
  go_enter Tryd.func18, Tryd.ntmps18
  go_wp2_with (first | (go_at_call 11; refine (arity_1 _ H.out).mono ?_; rintro e w' ⟨rfl, rfl⟩) | (go_at_call 25; refine (Tryd.bits_LeadingZeros32 _ _ (by omega) (by omega)).mono ?_; rintro e w' ⟨rfl, rfl⟩))
  go_ret2
  refine ⟨ret_n64 ?_ 0, rfl⟩
  have hl := bitLen_le 32 _ (by decide) hx
  rw [ofNat_small _ (by omega)]
  generalize Lib.bitLen (lo x).toNat = L at *
  rw [IntKind.wrap_u64]; omega
/-- What the table of TrailingZeros32 holds. -/
def Tab32 (w : World) : Prop := ∀ k, k < 32 → w.cell? ⟨0, k, none⟩ = some (.int .u8 ((Lib.deBruijn32tab.getD k 0 : Nat) : Int))
theorem tz_facts (n : Nat) (h : n < 4294967296) (h0 : 0 < n) : ∃ t J : Nat, Lib.ctz 32 n = t ∧ t < 32 ∧ J < 32 ∧ bits .and .u32 (n : Int) (-(n : Int) % 4294967296) = ((2 ^ t : Nat) : Int) ∧ 2 ^ t * 125613361 % 4294967296 / 134217728 = J ∧ Lib.deBruijn32tab.getD J 0 = t := by
  obtain ⟨m, hm, ht⟩ := _root_.Nm.ctz_spec 32 n h0 h
  refine ⟨_, _, rfl, ht, (Lib.deBruijn32_at _ ht).1, ?_, rfl, (Lib.deBruijn32_at _ ht).2⟩
  have e : -(n : Int) % 4294967296 = ((4294967296 - n : Nat) : Int) := by omega
  rw [e, u32_and_nat _ _ h (by omega)]
  congr 1
  have := Lib.and_neg 32 (Lib.ctz 32 n) m (by rw [← hm]; exact h)
  rw [← hm] at this
  exact this
theorem tz32_any (x : B32) (w : World) (hT : Tab32 w) : Calls Tryd.prog 26 #[.int .u32 (x.toNat : Int)] w fun e w' => e = .returned (.int .i64 (Lib.ctz 32 x.toNat : Int)) ∧ w' = w := by
  have hx := x.isLt
  by_cases h0 : x.toNat = 0
  · have e : Lib.ctz 32 x.toNat = 32 := by rw [h0]; rfl
    have t0 : ((x.toNat : Int) == 0) = true := by rw [beq_iff_eq]; omega
    have E := Lib.hid e
    clear e h0
    go_enter Tryd.func26, Tryd.ntmps26
    go_wp2
    go_ret
    exact ⟨ret_ni64 (by rw [E.out]; rfl), rfl⟩
  · have t0 : ((x.toNat : Int) == 0) = false := by rw [beq_eq_false_iff_ne]; omega
    obtain ⟨t, J, h1, h2, h3, h4, h5, h6⟩ := tz_facts x.toNat hx (by omega)
    have hc := hT J h3
    rw [h6] at hc
    have H1 := Lib.hid h1
    have e5 : ((2 ^ t : Nat) : Int) * 125613361 % 4294967296 / 134217728 = (J : Int) := by rw [← h5]; simp
    clear h0 h1 h5 h6
    generalize (2 ^ t : Nat) = p at *
    go_enter Tryd.func26, Tryd.ntmps26
    go_wp2
    go_ret
    exact ⟨ret_ni64 (by rw [H1.out]), rfl⟩

end Go.Proofs.YtllffbdcpilioaaDoor
