/-
  plaitref05.Shift by width and offset.
-/
import Derived.Test.YtgemlndpmbeaeaaAriRU2
import Derived.Test.YtgemlndpmbeaeaaAriS
set_option linter.unusedSimpArgs false
set_option linter.unusedVariables false
namespace Go.Proofs.Ytgemlndpmbeaeaa
open Go.RowKit Pl

/-- A lane after p places. -/
def shN (w k p x : Nat) : Nat := if k = 11 then u64 ((x : Int) * 2 ^ p) else if k = 12 then u64 (sgn w x / 2 ^ p) % 2 ^ w else u64 ((x : Int) / 2 ^ p)
theorem sh11 (p x : Nat) : IntKind.u64.wrap (((u64 ((x : Int) * 2 ^ p) : Nat) : Int) * 2) = ((u64 ((x : Int) * 2 ^ (p + 1)) : Nat) : Int) := by
  rw [wrap_u64, show ((x : Int) * 2 ^ (p + 1)) = (x : Int) * 2 ^ p * 2 by rw [Int.pow_succ, Int.mul_assoc]]
  generalize (x : Int) * 2 ^ p = z
  unfold u64; omega
theorem sh13 (p x : Nat) (hx : x < 2 ^ 64) : ((u64 ((x : Int) / 2 ^ p) : Nat) : Int) / 2 = ((u64 ((x : Int) / 2 ^ (p + 1)) : Nat) : Int) := by
  have e : ∀ q : Nat, u64 ((x : Int) / 2 ^ q) = x / 2 ^ q := fun q => by
    rw [show ((x : Int) / 2 ^ q) = ((x / 2 ^ q : Nat) : Int) by simp]
    have := Nat.div_le_self x (2 ^ q)
    generalize x / 2 ^ q = y at *
    unfold u64; omega
  rw [e, e, Nat.pow_succ, ← Nat.div_div_eq_div_mul]
  omega
theorem q_succ (S : Int) (t : Nat) : S / 2 ^ (t + 1) = S / 2 ^ t / 2 := by
  rw [Int.pow_succ, Int.ediv_ediv_of_nonneg (Int.le_of_lt (Int.pow_pos (by decide)))]
theorem q_pos (S H : Int) (t : Nat) (h0 : 0 ≤ S) (h1 : S < H) : 0 ≤ S / 2 ^ t ∧ S / 2 ^ t < H := by
  have hp : (0 : Int) < 2 ^ t := Int.pow_pos (by decide)
  refine ⟨Int.ediv_nonneg h0 (Int.le_of_lt hp), Int.lt_of_le_of_lt ?_ h1⟩
  exact Int.ediv_le_self _ h0
theorem q_neg (S H : Int) (t : Nat) (h0 : S < 0) (h1 : -H ≤ S) (hH : 0 ≤ H) : -H ≤ S / 2 ^ t ∧ S / 2 ^ t < 0 := by
  have hp : (0 : Int) < 2 ^ t := Int.pow_pos (by decide)
  refine ⟨Int.le_ediv_of_mul_le hp ?_, Int.ediv_neg_of_neg_of_pos h0 hp⟩
  have h2 : 0 ≤ H * (2 ^ t - 1) := Int.mul_nonneg hH (by omega)
  rw [Int.mul_sub, Int.mul_one] at h2
  rw [Int.neg_mul]
  omega
theorem sh12p_8 (x t : Nat) (hx : x < 256) (h0 : 0 ≤ sgn 8 x) : bits .or .u64 ((shN 8 12 t x / 2 : Nat) : Int) 0 = ((shN 8 12 (t + 1) x : Nat) : Int) ∧ shN 8 12 t x < 256 := by
  have hS : sgn 8 x < 128 := by unfold sgn; rw [show (2 : Nat) ^ (8 - 1) = 128 from rfl, show (2 : Int) ^ 8 = 256 from rfl]; split <;> omega
  obtain ⟨q1, q2⟩ := q_pos _ 128 t h0 hS
  have e := q_succ (sgn 8 x) t
  have a1 : shN 8 12 t x = u64 (sgn 8 x / 2 ^ t) % 2 ^ 8 := rfl
  have a2 : shN 8 12 (t + 1) x = u64 (sgn 8 x / 2 ^ (t + 1)) % 2 ^ 8 := rfl
  rw [e] at a2
  generalize sgn 8 x / 2 ^ t = Q at *
  rw [show (2 : Nat) ^ 8 = 256 from rfl] at a1 a2
  generalize shN 8 12 t x = X at *
  generalize shN 8 12 (t + 1) x = Y at *
  unfold u64 at a1 a2
  have hXY : X / 2 = Y := by omega
  have hb : X < 256 := by omega
  refine ⟨?_, hb⟩
  have := u64_or_nat (X / 2) 0 (by omega) (by decide)
  rw [Nat.or_zero, hXY] at this
  rw [hXY]
  exact this
theorem sh12n_8 (x t : Nat) (hx : x < 256) (h0 : sgn 8 x < 0) : bits .or .u64 ((shN 8 12 t x / 2 : Nat) : Int) 128 = ((shN 8 12 (t + 1) x : Nat) : Int) ∧ shN 8 12 t x < 256 := by
  have hS : -128 ≤ sgn 8 x := by unfold sgn; rw [show (2 : Nat) ^ (8 - 1) = 128 from rfl, show (2 : Int) ^ 8 = 256 from rfl]; split <;> omega
  obtain ⟨q1, q2⟩ := q_neg _ 128 t h0 hS (by decide)
  have e := q_succ (sgn 8 x) t
  have a1 : shN 8 12 t x = u64 (sgn 8 x / 2 ^ t) % 2 ^ 8 := rfl
  have a2 : shN 8 12 (t + 1) x = u64 (sgn 8 x / 2 ^ (t + 1)) % 2 ^ 8 := rfl
  rw [e] at a2
  generalize sgn 8 x / 2 ^ t = Q at *
  rw [show (2 : Nat) ^ 8 = 256 from rfl] at a1 a2
  generalize shN 8 12 t x = X at *
  generalize shN 8 12 (t + 1) x = Y at *
  unfold u64 at a1 a2
  have hXY : X / 2 + 128 = Y := by omega
  have hb : X < 256 := by omega
  refine ⟨?_, hb⟩
  have := u64_or_nat (X / 2) 128 (by omega) (by decide)
  have h2 := Nat.two_pow_add_eq_or_of_lt (i := 7) (b := X / 2) (by omega) 1
  rw [show (2 : Nat) ^ 7 * 1 = 128 from rfl] at h2
  rw [Nat.or_comm, ← h2, show 128 + X / 2 = Y by omega] at this
  exact this
theorem sh12p_16 (x t : Nat) (hx : x < 65536) (h0 : 0 ≤ sgn 16 x) : bits .or .u64 ((shN 16 12 t x / 2 : Nat) : Int) 0 = ((shN 16 12 (t + 1) x : Nat) : Int) ∧ shN 16 12 t x < 65536 := by
  have hS : sgn 16 x < 32768 := by unfold sgn; rw [show (2 : Nat) ^ (16 - 1) = 32768 from rfl, show (2 : Int) ^ 16 = 65536 from rfl]; split <;> omega
  obtain ⟨q1, q2⟩ := q_pos _ 32768 t h0 hS
  have e := q_succ (sgn 16 x) t
  have a1 : shN 16 12 t x = u64 (sgn 16 x / 2 ^ t) % 2 ^ 16 := rfl
  have a2 : shN 16 12 (t + 1) x = u64 (sgn 16 x / 2 ^ (t + 1)) % 2 ^ 16 := rfl
  rw [e] at a2
  generalize sgn 16 x / 2 ^ t = Q at *
  rw [show (2 : Nat) ^ 16 = 65536 from rfl] at a1 a2
  generalize shN 16 12 t x = X at *
  generalize shN 16 12 (t + 1) x = Y at *
  unfold u64 at a1 a2
  have hXY : X / 2 = Y := by omega
  have hb : X < 65536 := by omega
  refine ⟨?_, hb⟩
  have := u64_or_nat (X / 2) 0 (by omega) (by decide)
  rw [Nat.or_zero, hXY] at this
  rw [hXY]
  exact this
theorem sh12n_16 (x t : Nat) (hx : x < 65536) (h0 : sgn 16 x < 0) : bits .or .u64 ((shN 16 12 t x / 2 : Nat) : Int) 32768 = ((shN 16 12 (t + 1) x : Nat) : Int) ∧ shN 16 12 t x < 65536 := by
  have hS : -32768 ≤ sgn 16 x := by unfold sgn; rw [show (2 : Nat) ^ (16 - 1) = 32768 from rfl, show (2 : Int) ^ 16 = 65536 from rfl]; split <;> omega
  obtain ⟨q1, q2⟩ := q_neg _ 32768 t h0 hS (by decide)
  have e := q_succ (sgn 16 x) t
  have a1 : shN 16 12 t x = u64 (sgn 16 x / 2 ^ t) % 2 ^ 16 := rfl
  have a2 : shN 16 12 (t + 1) x = u64 (sgn 16 x / 2 ^ (t + 1)) % 2 ^ 16 := rfl
  rw [e] at a2
  generalize sgn 16 x / 2 ^ t = Q at *
  rw [show (2 : Nat) ^ 16 = 65536 from rfl] at a1 a2
  generalize shN 16 12 t x = X at *
  generalize shN 16 12 (t + 1) x = Y at *
  unfold u64 at a1 a2
  have hXY : X / 2 + 32768 = Y := by omega
  have hb : X < 65536 := by omega
  refine ⟨?_, hb⟩
  have := u64_or_nat (X / 2) 32768 (by omega) (by decide)
  have h2 := Nat.two_pow_add_eq_or_of_lt (i := 15) (b := X / 2) (by omega) 1
  rw [show (2 : Nat) ^ 15 * 1 = 32768 from rfl] at h2
  rw [Nat.or_comm, ← h2, show 32768 + X / 2 = Y by omega] at this
  exact this
theorem sh12p_32 (x t : Nat) (hx : x < 4294967296) (h0 : 0 ≤ sgn 32 x) : bits .or .u64 ((shN 32 12 t x / 2 : Nat) : Int) 0 = ((shN 32 12 (t + 1) x : Nat) : Int) ∧ shN 32 12 t x < 4294967296 := by
  have hS : sgn 32 x < 2147483648 := by unfold sgn; rw [show (2 : Nat) ^ (32 - 1) = 2147483648 from rfl, show (2 : Int) ^ 32 = 4294967296 from rfl]; split <;> omega
  obtain ⟨q1, q2⟩ := q_pos _ 2147483648 t h0 hS
  have e := q_succ (sgn 32 x) t
  have a1 : shN 32 12 t x = u64 (sgn 32 x / 2 ^ t) % 2 ^ 32 := rfl
  have a2 : shN 32 12 (t + 1) x = u64 (sgn 32 x / 2 ^ (t + 1)) % 2 ^ 32 := rfl
  rw [e] at a2
  generalize sgn 32 x / 2 ^ t = Q at *
  rw [show (2 : Nat) ^ 32 = 4294967296 from rfl] at a1 a2
  generalize shN 32 12 t x = X at *
  generalize shN 32 12 (t + 1) x = Y at *
  unfold u64 at a1 a2
  have hXY : X / 2 = Y := by omega
  have hb : X < 4294967296 := by omega
  refine ⟨?_, hb⟩
  have := u64_or_nat (X / 2) 0 (by omega) (by decide)
  rw [Nat.or_zero, hXY] at this
  rw [hXY]
  exact this
theorem sh12n_32 (x t : Nat) (hx : x < 4294967296) (h0 : sgn 32 x < 0) : bits .or .u64 ((shN 32 12 t x / 2 : Nat) : Int) 2147483648 = ((shN 32 12 (t + 1) x : Nat) : Int) ∧ shN 32 12 t x < 4294967296 := by
  have hS : -2147483648 ≤ sgn 32 x := by unfold sgn; rw [show (2 : Nat) ^ (32 - 1) = 2147483648 from rfl, show (2 : Int) ^ 32 = 4294967296 from rfl]; split <;> omega
  obtain ⟨q1, q2⟩ := q_neg _ 2147483648 t h0 hS (by decide)
  have e := q_succ (sgn 32 x) t
  have a1 : shN 32 12 t x = u64 (sgn 32 x / 2 ^ t) % 2 ^ 32 := rfl
  have a2 : shN 32 12 (t + 1) x = u64 (sgn 32 x / 2 ^ (t + 1)) % 2 ^ 32 := rfl
  rw [e] at a2
  generalize sgn 32 x / 2 ^ t = Q at *
  rw [show (2 : Nat) ^ 32 = 4294967296 from rfl] at a1 a2
  generalize shN 32 12 t x = X at *
  generalize shN 32 12 (t + 1) x = Y at *
  unfold u64 at a1 a2
  have hXY : X / 2 + 2147483648 = Y := by omega
  have hb : X < 4294967296 := by omega
  refine ⟨?_, hb⟩
  have := u64_or_nat (X / 2) 2147483648 (by omega) (by decide)
  have h2 := Nat.two_pow_add_eq_or_of_lt (i := 31) (b := X / 2) (by omega) 1
  rw [show (2 : Nat) ^ 31 * 1 = 2147483648 from rfl] at h2
  rw [Nat.or_comm, ← h2, show 2147483648 + X / 2 = Y by omega] at this
  exact this
theorem sh12p_64 (x t : Nat) (hx : x < 18446744073709551616) (h0 : 0 ≤ sgn 64 x) : bits .or .u64 ((shN 64 12 t x / 2 : Nat) : Int) 0 = ((shN 64 12 (t + 1) x : Nat) : Int) ∧ shN 64 12 t x < 18446744073709551616 := by
  have hS : sgn 64 x < 9223372036854775808 := by unfold sgn; rw [show (2 : Nat) ^ (64 - 1) = 9223372036854775808 from rfl, show (2 : Int) ^ 64 = 18446744073709551616 from rfl]; split <;> omega
  obtain ⟨q1, q2⟩ := q_pos _ 9223372036854775808 t h0 hS
  have e := q_succ (sgn 64 x) t
  have a1 : shN 64 12 t x = u64 (sgn 64 x / 2 ^ t) % 2 ^ 64 := rfl
  have a2 : shN 64 12 (t + 1) x = u64 (sgn 64 x / 2 ^ (t + 1)) % 2 ^ 64 := rfl
  rw [e] at a2
  generalize sgn 64 x / 2 ^ t = Q at *
  rw [show (2 : Nat) ^ 64 = 18446744073709551616 from rfl] at a1 a2
  generalize shN 64 12 t x = X at *
  generalize shN 64 12 (t + 1) x = Y at *
  unfold u64 at a1 a2
  have hXY : X / 2 = Y := by omega
  have hb : X < 18446744073709551616 := by omega
  refine ⟨?_, hb⟩
  have := u64_or_nat (X / 2) 0 (by omega) (by decide)
  rw [Nat.or_zero, hXY] at this
  rw [hXY]
  exact this
theorem sh12n_64 (x t : Nat) (hx : x < 18446744073709551616) (h0 : sgn 64 x < 0) : bits .or .u64 ((shN 64 12 t x / 2 : Nat) : Int) 9223372036854775808 = ((shN 64 12 (t + 1) x : Nat) : Int) ∧ shN 64 12 t x < 18446744073709551616 := by
  have hS : -9223372036854775808 ≤ sgn 64 x := by unfold sgn; rw [show (2 : Nat) ^ (64 - 1) = 9223372036854775808 from rfl, show (2 : Int) ^ 64 = 18446744073709551616 from rfl]; split <;> omega
  obtain ⟨q1, q2⟩ := q_neg _ 9223372036854775808 t h0 hS (by decide)
  have e := q_succ (sgn 64 x) t
  have a1 : shN 64 12 t x = u64 (sgn 64 x / 2 ^ t) % 2 ^ 64 := rfl
  have a2 : shN 64 12 (t + 1) x = u64 (sgn 64 x / 2 ^ (t + 1)) % 2 ^ 64 := rfl
  rw [e] at a2
  generalize sgn 64 x / 2 ^ t = Q at *
  rw [show (2 : Nat) ^ 64 = 18446744073709551616 from rfl] at a1 a2
  generalize shN 64 12 t x = X at *
  generalize shN 64 12 (t + 1) x = Y at *
  unfold u64 at a1 a2
  have hXY : X / 2 + 9223372036854775808 = Y := by omega
  have hb : X < 18446744073709551616 := by omega
  refine ⟨?_, hb⟩
  have := u64_or_nat (X / 2) 9223372036854775808 (by omega) (by decide)
  have h2 := Nat.two_pow_add_eq_or_of_lt (i := 63) (b := X / 2) (by omega) 1
  rw [show (2 : Nat) ^ 63 * 1 = 9223372036854775808 from rfl] at h2
  rw [Nat.or_comm, ← h2, show 9223372036854775808 + X / 2 = Y by omega] at this
  exact this
end Go.Proofs.Ytgemlndpmbeaeaa
