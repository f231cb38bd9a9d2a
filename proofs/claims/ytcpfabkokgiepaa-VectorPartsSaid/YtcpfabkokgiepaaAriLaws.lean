/-
  Plain laws of the arithmetic on lanes: sums, differences, products, saturation, the lesser and the greater; no program in sight.
-/
import Derived.Test.YtcpfabkokgiepaaCells
set_option linter.unusedSimpArgs false
set_option linter.unusedVariables false
set_option linter.unusedVariables false
set_option linter.unusedSimpArgs false
namespace Pl
/-- One lane of instruction k at width w: without signs x and y, with signs s and t; before it is cut. -/
def laneZ (w k : Nat) (x y : Nat) (s t : Int) : Int :=
  if k = 14 then x + y else if k = 15 then min (max (s + t) (-2 ^ (w - 1))) (2 ^ (w - 1) - 1) else if k = 16 then min (x + y) (2 ^ w - 1)
  else if k = 17 then x - y else if k = 18 then min (max (s - t) (-2 ^ (w - 1))) (2 ^ (w - 1) - 1) else if k = 19 then x - min x y
  else if k = 21 then x * y else if k = 22 then min s t else if k = 23 then min x y else if k = 24 then max s t else if k = 25 then max x y else (x + y + 1) / 2
def laneR (w k : Nat) (a b : Vec) (i : Nat) : Nat := u64 (laneZ w k (getN a w i) (getN b w i) (sgn w (getN a w i)) (sgn w (getN b w i)))
/-- Instruction k on two vectors. -/
def vb (w k : Nat) (a b : Vec) : Vec := buildOn 0 w (laneR w k a b) (128 / w)
def unR (w k : Nat) (v : Vec) (i : Nat) : Nat := if k = 0 then (if sgn w (getN v w i) < 0 then u64 (-(getN v w i : Int)) else getN v w i) else u64 (-(getN v w i : Int))
/-- Instruction k (0 or 1) on one vector. -/
def vu (w k : Nat) (v : Vec) : Vec := buildOn v w (unR w k v) (128 / w)

theorem g_vb (w k : Nat) (a b : Vec) (i : Nat) (h : i < 128 / w) : getN (vb w k a b) w i = laneR w k a b i % 2 ^ w := by
  rw [vb, getN_buildOn _ _ _ _ _ (Nat.le_refl _), if_pos h]
theorem g_vu (w k : Nat) (v : Vec) (i : Nat) (h : i < 128 / w) : getN (vu w k v) w i = unR w k v i % 2 ^ w := by
  rw [vu, getN_buildOn _ _ _ _ _ (Nat.le_refl _), if_pos h]
theorem g_0 (w i : Nat) : getN 0 w i = 0 := by simp [getN, bitsAt]
theorem sum8 (a b : Vec) (i : Nat) (h : i < 16) : getN (vb 8 14 a b) 8 i = (getN a 8 i + getN b 8 i) % 256 := by
  rw [g_vb 8 _ _ _ _ h]; show u64 (getN a 8 i + getN b 8 i : Int) % 256 = _; unfold u64; omega
theorem dif8 (a b : Vec) (i : Nat) (h : i < 16) : getN (vb 8 17 a b) 8 i = (getN a 8 i + (256 - getN b 8 i)) % 256 := by
  have hb : getN b 8 i < 256 := getN_lt b 8 i
  rw [g_vb 8 _ _ _ _ h]; show u64 (getN a 8 i - getN b 8 i : Int) % 256 = _; unfold u64; omega
theorem neg8 (a : Vec) (i : Nat) (h : i < 16) : getN (vu 8 1 a) 8 i = (256 - getN a 8 i) % 256 := by
  have hb : getN a 8 i < 256 := getN_lt a 8 i
  rw [g_vu 8 _ _ _ h]; show u64 (-(getN a 8 i : Int)) % 256 = _; unfold u64; omega
theorem abs8 (a : Vec) (i : Nat) (h : i < 16) : getN (vu 8 0 a) 8 i = if getN a 8 i < 128 then getN a 8 i else 256 - getN a 8 i := by
  have hb : getN a 8 i < 256 := getN_lt a 8 i
  rw [g_vu 8 _ _ _ h]; show (if sgn 8 (getN a 8 i) < 0 then u64 (-(getN a 8 i : Int)) else getN a 8 i) % 256 = _
  have hs : sgn 8 (getN a 8 i) = if getN a 8 i < 128 then (getN a 8 i : Int) else (getN a 8 i : Int) - 256 := rfl
  rw [hs]; unfold u64
  by_cases hc : getN a 8 i < 128
  · rw [if_pos hc, if_pos hc, if_neg (by omega)]; omega
  · rw [if_neg hc, if_neg hc, if_pos (by omega)]; omega
theorem ring1_8 (a b : Vec) : vb 8 14 a b = vb 8 14 b a :=
  lanes_ext 8 16 (by decide) (by decide) fun i h => by rw [sum8 _ _ _ h, sum8 _ _ _ h, Nat.add_comm]
theorem ring2_8 (a b : Vec) : vb 8 17 (vb 8 14 a b) b = a :=
  lanes_ext 8 16 (by decide) (by decide) fun i h => by
    have ha : getN a 8 i < 256 := getN_lt a 8 i
    have hb : getN b 8 i < 256 := getN_lt b 8 i
    rw [dif8 _ _ _ h, sum8 _ _ _ h]; omega
theorem ring3_8 (a : Vec) : vb 8 17 0 a = vu 8 1 a :=
  lanes_ext 8 16 (by decide) (by decide) fun i h => by
    rw [dif8 _ _ _ h, neg8 _ _ h, g_0, Nat.zero_add]
theorem ring4_8 (a b : Vec) : vb 8 14 a (vu 8 1 b) = vb 8 17 a b :=
  lanes_ext 8 16 (by decide) (by decide) fun i h => by
    have ha : getN a 8 i < 256 := getN_lt a 8 i
    have hb : getN b 8 i < 256 := getN_lt b 8 i
    rw [dif8 _ _ _ h, sum8 _ _ _ h, neg8 _ _ h]; omega
theorem ring5_8 (a : Vec) : vb 8 14 a 0 = a :=
  lanes_ext 8 16 (by decide) (by decide) fun i h => by
    have ha : getN a 8 i < 256 := getN_lt a 8 i
    rw [sum8 _ _ _ h, g_0]; omega
theorem ring6_8 (a : Vec) : vu 8 0 (vu 8 1 a) = vu 8 0 a :=
  lanes_ext 8 16 (by decide) (by decide) fun i h => by
    have ha : getN a 8 i < 256 := getN_lt a 8 i
    rw [abs8 _ _ h, abs8 _ _ h, neg8 _ _ h]
    split <;> split <;> omega
theorem ring10_8 (a : Vec) (i : Nat) (h : i < 16) : getN (vu 8 0 a) 8 i = getN a 8 i ∨ getN (vu 8 0 a) 8 i = getN (vu 8 1 a) 8 i := by
  have ha : getN a 8 i < 256 := getN_lt a 8 i
  rw [abs8 _ _ h, neg8 _ _ h]
  split <;> omega
theorem ring11_8 (a : Vec) (i : Nat) (h : i < 16) : 0 ≤ sgn 8 (getN (vu 8 0 a) 8 i) ∨ getN (vu 8 0 a) 8 i = 128 := by
  have ha : getN a 8 i < 256 := getN_lt a 8 i
  rw [abs8 _ _ h]
  have hs : ∀ n, sgn 8 n = if n < 128 then (n : Int) else (n : Int) - 256 := fun _ => rfl
  rw [hs]
  split
  · first | omega | (split <;> omega)
  · first | omega | (split <;> omega)

theorem sum16 (a b : Vec) (i : Nat) (h : i < 8) : getN (vb 16 14 a b) 16 i = (getN a 16 i + getN b 16 i) % 65536 := by
  rw [g_vb 16 _ _ _ _ h]; show u64 (getN a 16 i + getN b 16 i : Int) % 65536 = _; unfold u64; omega
theorem dif16 (a b : Vec) (i : Nat) (h : i < 8) : getN (vb 16 17 a b) 16 i = (getN a 16 i + (65536 - getN b 16 i)) % 65536 := by
  have hb : getN b 16 i < 65536 := getN_lt b 16 i
  rw [g_vb 16 _ _ _ _ h]; show u64 (getN a 16 i - getN b 16 i : Int) % 65536 = _; unfold u64; omega
theorem neg16 (a : Vec) (i : Nat) (h : i < 8) : getN (vu 16 1 a) 16 i = (65536 - getN a 16 i) % 65536 := by
  have hb : getN a 16 i < 65536 := getN_lt a 16 i
  rw [g_vu 16 _ _ _ h]; show u64 (-(getN a 16 i : Int)) % 65536 = _; unfold u64; omega
theorem abs16 (a : Vec) (i : Nat) (h : i < 8) : getN (vu 16 0 a) 16 i = if getN a 16 i < 32768 then getN a 16 i else 65536 - getN a 16 i := by
  have hb : getN a 16 i < 65536 := getN_lt a 16 i
  rw [g_vu 16 _ _ _ h]; show (if sgn 16 (getN a 16 i) < 0 then u64 (-(getN a 16 i : Int)) else getN a 16 i) % 65536 = _
  have hs : sgn 16 (getN a 16 i) = if getN a 16 i < 32768 then (getN a 16 i : Int) else (getN a 16 i : Int) - 65536 := rfl
  rw [hs]; unfold u64
  by_cases hc : getN a 16 i < 32768
  · rw [if_pos hc, if_pos hc, if_neg (by omega)]; omega
  · rw [if_neg hc, if_neg hc, if_pos (by omega)]; omega
theorem ring1_16 (a b : Vec) : vb 16 14 a b = vb 16 14 b a :=
  lanes_ext 16 8 (by decide) (by decide) fun i h => by rw [sum16 _ _ _ h, sum16 _ _ _ h, Nat.add_comm]
theorem ring2_16 (a b : Vec) : vb 16 17 (vb 16 14 a b) b = a :=
  lanes_ext 16 8 (by decide) (by decide) fun i h => by
    have ha : getN a 16 i < 65536 := getN_lt a 16 i
    have hb : getN b 16 i < 65536 := getN_lt b 16 i
    rw [dif16 _ _ _ h, sum16 _ _ _ h]; omega
theorem ring3_16 (a : Vec) : vb 16 17 0 a = vu 16 1 a :=
  lanes_ext 16 8 (by decide) (by decide) fun i h => by
    rw [dif16 _ _ _ h, neg16 _ _ h, g_0, Nat.zero_add]
theorem ring4_16 (a b : Vec) : vb 16 14 a (vu 16 1 b) = vb 16 17 a b :=
  lanes_ext 16 8 (by decide) (by decide) fun i h => by
    have ha : getN a 16 i < 65536 := getN_lt a 16 i
    have hb : getN b 16 i < 65536 := getN_lt b 16 i
    rw [dif16 _ _ _ h, sum16 _ _ _ h, neg16 _ _ h]; omega
theorem ring5_16 (a : Vec) : vb 16 14 a 0 = a :=
  lanes_ext 16 8 (by decide) (by decide) fun i h => by
    have ha : getN a 16 i < 65536 := getN_lt a 16 i
    rw [sum16 _ _ _ h, g_0]; omega
theorem ring6_16 (a : Vec) : vu 16 0 (vu 16 1 a) = vu 16 0 a :=
  lanes_ext 16 8 (by decide) (by decide) fun i h => by
    have ha : getN a 16 i < 65536 := getN_lt a 16 i
    rw [abs16 _ _ h, abs16 _ _ h, neg16 _ _ h]
    split <;> split <;> omega
theorem ring10_16 (a : Vec) (i : Nat) (h : i < 8) : getN (vu 16 0 a) 16 i = getN a 16 i ∨ getN (vu 16 0 a) 16 i = getN (vu 16 1 a) 16 i := by
  have ha : getN a 16 i < 65536 := getN_lt a 16 i
  rw [abs16 _ _ h, neg16 _ _ h]
  split <;> omega
theorem ring11_16 (a : Vec) (i : Nat) (h : i < 8) : 0 ≤ sgn 16 (getN (vu 16 0 a) 16 i) ∨ getN (vu 16 0 a) 16 i = 32768 := by
  have ha : getN a 16 i < 65536 := getN_lt a 16 i
  rw [abs16 _ _ h]
  have hs : ∀ n, sgn 16 n = if n < 32768 then (n : Int) else (n : Int) - 65536 := fun _ => rfl
  rw [hs]
  split
  · first | omega | (split <;> omega)
  · first | omega | (split <;> omega)

theorem mul16 (a b : Vec) (i : Nat) (h : i < 8) : getN (vb 16 21 a b) 16 i = (getN a 16 i * getN b 16 i) % 65536 := by
  rw [g_vb 16 _ _ _ _ h]; show u64 ((getN a 16 i : Int) * (getN b 16 i : Int)) % 65536 = _
  rw [← Int.natCast_mul]; generalize getN a 16 i * getN b 16 i = n; unfold u64; omega
theorem ring7_16 (a b : Vec) : vb 16 21 a b = vb 16 21 b a :=
  lanes_ext 16 8 (by decide) (by decide) fun i h => by rw [mul16 _ _ _ h, mul16 _ _ _ h, Nat.mul_comm]
theorem ring8_16 (a b c : Vec) : vb 16 21 a (vb 16 14 b c) = vb 16 14 (vb 16 21 a b) (vb 16 21 a c) :=
  lanes_ext 16 8 (by decide) (by decide) fun i h => by
    rw [mul16 _ _ _ h, sum16 _ _ _ h, sum16 _ _ _ h, mul16 _ _ _ h, mul16 _ _ _ h, Nat.mul_mod, Nat.mod_mod, ← Nat.mul_mod, Nat.mul_add, ← Nat.add_mod]
theorem ring9_16 (a b : Vec) : vb 16 21 (vu 16 1 a) b = vu 16 1 (vb 16 21 a b) :=
  lanes_ext 16 8 (by decide) (by decide) fun i h => by
    have ha : getN a 16 i < 65536 := getN_lt a 16 i
    rw [mul16 _ _ _ h, neg16 _ _ h, neg16 _ _ h, mul16 _ _ _ h, Nat.mul_mod, Nat.mod_mod, ← Nat.mul_mod]
    have e : (65536 - getN a 16 i) * getN b 16 i + getN a 16 i * getN b 16 i = 65536 * getN b 16 i := by rw [← Nat.add_mul, Nat.sub_add_cancel (Nat.le_of_lt ha)]
    generalize (65536 - getN a 16 i) * getN b 16 i = p at *
    generalize getN a 16 i * getN b 16 i = q at *
    omega

theorem sum32 (a b : Vec) (i : Nat) (h : i < 4) : getN (vb 32 14 a b) 32 i = (getN a 32 i + getN b 32 i) % 4294967296 := by
  rw [g_vb 32 _ _ _ _ h]; show u64 (getN a 32 i + getN b 32 i : Int) % 4294967296 = _; unfold u64; omega
theorem dif32 (a b : Vec) (i : Nat) (h : i < 4) : getN (vb 32 17 a b) 32 i = (getN a 32 i + (4294967296 - getN b 32 i)) % 4294967296 := by
  have hb : getN b 32 i < 4294967296 := getN_lt b 32 i
  rw [g_vb 32 _ _ _ _ h]; show u64 (getN a 32 i - getN b 32 i : Int) % 4294967296 = _; unfold u64; omega
theorem neg32 (a : Vec) (i : Nat) (h : i < 4) : getN (vu 32 1 a) 32 i = (4294967296 - getN a 32 i) % 4294967296 := by
  have hb : getN a 32 i < 4294967296 := getN_lt a 32 i
  rw [g_vu 32 _ _ _ h]; show u64 (-(getN a 32 i : Int)) % 4294967296 = _; unfold u64; omega
theorem abs32 (a : Vec) (i : Nat) (h : i < 4) : getN (vu 32 0 a) 32 i = if getN a 32 i < 2147483648 then getN a 32 i else 4294967296 - getN a 32 i := by
  have hb : getN a 32 i < 4294967296 := getN_lt a 32 i
  rw [g_vu 32 _ _ _ h]; show (if sgn 32 (getN a 32 i) < 0 then u64 (-(getN a 32 i : Int)) else getN a 32 i) % 4294967296 = _
  have hs : sgn 32 (getN a 32 i) = if getN a 32 i < 2147483648 then (getN a 32 i : Int) else (getN a 32 i : Int) - 4294967296 := rfl
  rw [hs]; unfold u64
  by_cases hc : getN a 32 i < 2147483648
  · rw [if_pos hc, if_pos hc, if_neg (by omega)]; omega
  · rw [if_neg hc, if_neg hc, if_pos (by omega)]; omega
theorem ring1_32 (a b : Vec) : vb 32 14 a b = vb 32 14 b a :=
  lanes_ext 32 4 (by decide) (by decide) fun i h => by rw [sum32 _ _ _ h, sum32 _ _ _ h, Nat.add_comm]
theorem ring2_32 (a b : Vec) : vb 32 17 (vb 32 14 a b) b = a :=
  lanes_ext 32 4 (by decide) (by decide) fun i h => by
    have ha : getN a 32 i < 4294967296 := getN_lt a 32 i
    have hb : getN b 32 i < 4294967296 := getN_lt b 32 i
    rw [dif32 _ _ _ h, sum32 _ _ _ h]; omega
theorem ring3_32 (a : Vec) : vb 32 17 0 a = vu 32 1 a :=
  lanes_ext 32 4 (by decide) (by decide) fun i h => by
    rw [dif32 _ _ _ h, neg32 _ _ h, g_0, Nat.zero_add]
theorem ring4_32 (a b : Vec) : vb 32 14 a (vu 32 1 b) = vb 32 17 a b :=
  lanes_ext 32 4 (by decide) (by decide) fun i h => by
    have ha : getN a 32 i < 4294967296 := getN_lt a 32 i
    have hb : getN b 32 i < 4294967296 := getN_lt b 32 i
    rw [dif32 _ _ _ h, sum32 _ _ _ h, neg32 _ _ h]; omega
theorem ring5_32 (a : Vec) : vb 32 14 a 0 = a :=
  lanes_ext 32 4 (by decide) (by decide) fun i h => by
    have ha : getN a 32 i < 4294967296 := getN_lt a 32 i
    rw [sum32 _ _ _ h, g_0]; omega
theorem ring6_32 (a : Vec) : vu 32 0 (vu 32 1 a) = vu 32 0 a :=
  lanes_ext 32 4 (by decide) (by decide) fun i h => by
    have ha : getN a 32 i < 4294967296 := getN_lt a 32 i
    rw [abs32 _ _ h, abs32 _ _ h, neg32 _ _ h]
    split <;> split <;> omega
theorem ring10_32 (a : Vec) (i : Nat) (h : i < 4) : getN (vu 32 0 a) 32 i = getN a 32 i ∨ getN (vu 32 0 a) 32 i = getN (vu 32 1 a) 32 i := by
  have ha : getN a 32 i < 4294967296 := getN_lt a 32 i
  rw [abs32 _ _ h, neg32 _ _ h]
  split <;> omega
theorem ring11_32 (a : Vec) (i : Nat) (h : i < 4) : 0 ≤ sgn 32 (getN (vu 32 0 a) 32 i) ∨ getN (vu 32 0 a) 32 i = 2147483648 := by
  have ha : getN a 32 i < 4294967296 := getN_lt a 32 i
  rw [abs32 _ _ h]
  have hs : ∀ n, sgn 32 n = if n < 2147483648 then (n : Int) else (n : Int) - 4294967296 := fun _ => rfl
  rw [hs]
  split
  · first | omega | (split <;> omega)
  · first | omega | (split <;> omega)

theorem mul32 (a b : Vec) (i : Nat) (h : i < 4) : getN (vb 32 21 a b) 32 i = (getN a 32 i * getN b 32 i) % 4294967296 := by
  rw [g_vb 32 _ _ _ _ h]; show u64 ((getN a 32 i : Int) * (getN b 32 i : Int)) % 4294967296 = _
  rw [← Int.natCast_mul]; generalize getN a 32 i * getN b 32 i = n; unfold u64; omega
theorem ring7_32 (a b : Vec) : vb 32 21 a b = vb 32 21 b a :=
  lanes_ext 32 4 (by decide) (by decide) fun i h => by rw [mul32 _ _ _ h, mul32 _ _ _ h, Nat.mul_comm]
theorem ring8_32 (a b c : Vec) : vb 32 21 a (vb 32 14 b c) = vb 32 14 (vb 32 21 a b) (vb 32 21 a c) :=
  lanes_ext 32 4 (by decide) (by decide) fun i h => by
    rw [mul32 _ _ _ h, sum32 _ _ _ h, sum32 _ _ _ h, mul32 _ _ _ h, mul32 _ _ _ h, Nat.mul_mod, Nat.mod_mod, ← Nat.mul_mod, Nat.mul_add, ← Nat.add_mod]
theorem ring9_32 (a b : Vec) : vb 32 21 (vu 32 1 a) b = vu 32 1 (vb 32 21 a b) :=
  lanes_ext 32 4 (by decide) (by decide) fun i h => by
    have ha : getN a 32 i < 4294967296 := getN_lt a 32 i
    rw [mul32 _ _ _ h, neg32 _ _ h, neg32 _ _ h, mul32 _ _ _ h, Nat.mul_mod, Nat.mod_mod, ← Nat.mul_mod]
    have e : (4294967296 - getN a 32 i) * getN b 32 i + getN a 32 i * getN b 32 i = 4294967296 * getN b 32 i := by rw [← Nat.add_mul, Nat.sub_add_cancel (Nat.le_of_lt ha)]
    generalize (4294967296 - getN a 32 i) * getN b 32 i = p at *
    generalize getN a 32 i * getN b 32 i = q at *
    omega

theorem sum64 (a b : Vec) (i : Nat) (h : i < 2) : getN (vb 64 14 a b) 64 i = (getN a 64 i + getN b 64 i) % 18446744073709551616 := by
  rw [g_vb 64 _ _ _ _ h]; show u64 (getN a 64 i + getN b 64 i : Int) % 18446744073709551616 = _; unfold u64; omega
theorem dif64 (a b : Vec) (i : Nat) (h : i < 2) : getN (vb 64 17 a b) 64 i = (getN a 64 i + (18446744073709551616 - getN b 64 i)) % 18446744073709551616 := by
  have hb : getN b 64 i < 18446744073709551616 := getN_lt b 64 i
  rw [g_vb 64 _ _ _ _ h]; show u64 (getN a 64 i - getN b 64 i : Int) % 18446744073709551616 = _; unfold u64; omega
theorem neg64 (a : Vec) (i : Nat) (h : i < 2) : getN (vu 64 1 a) 64 i = (18446744073709551616 - getN a 64 i) % 18446744073709551616 := by
  have hb : getN a 64 i < 18446744073709551616 := getN_lt a 64 i
  rw [g_vu 64 _ _ _ h]; show u64 (-(getN a 64 i : Int)) % 18446744073709551616 = _; unfold u64; omega
theorem abs64 (a : Vec) (i : Nat) (h : i < 2) : getN (vu 64 0 a) 64 i = if getN a 64 i < 9223372036854775808 then getN a 64 i else 18446744073709551616 - getN a 64 i := by
  have hb : getN a 64 i < 18446744073709551616 := getN_lt a 64 i
  rw [g_vu 64 _ _ _ h]; show (if sgn 64 (getN a 64 i) < 0 then u64 (-(getN a 64 i : Int)) else getN a 64 i) % 18446744073709551616 = _
  have hs : sgn 64 (getN a 64 i) = if getN a 64 i < 9223372036854775808 then (getN a 64 i : Int) else (getN a 64 i : Int) - 18446744073709551616 := rfl
  rw [hs]; unfold u64
  by_cases hc : getN a 64 i < 9223372036854775808
  · rw [if_pos hc, if_pos hc, if_neg (by omega)]; omega
  · rw [if_neg hc, if_neg hc, if_pos (by omega)]; omega
theorem ring1_64 (a b : Vec) : vb 64 14 a b = vb 64 14 b a :=
  lanes_ext 64 2 (by decide) (by decide) fun i h => by rw [sum64 _ _ _ h, sum64 _ _ _ h, Nat.add_comm]
theorem ring2_64 (a b : Vec) : vb 64 17 (vb 64 14 a b) b = a :=
  lanes_ext 64 2 (by decide) (by decide) fun i h => by
    have ha : getN a 64 i < 18446744073709551616 := getN_lt a 64 i
    have hb : getN b 64 i < 18446744073709551616 := getN_lt b 64 i
    rw [dif64 _ _ _ h, sum64 _ _ _ h]; omega
theorem ring3_64 (a : Vec) : vb 64 17 0 a = vu 64 1 a :=
  lanes_ext 64 2 (by decide) (by decide) fun i h => by
    rw [dif64 _ _ _ h, neg64 _ _ h, g_0, Nat.zero_add]
theorem ring4_64 (a b : Vec) : vb 64 14 a (vu 64 1 b) = vb 64 17 a b :=
  lanes_ext 64 2 (by decide) (by decide) fun i h => by
    have ha : getN a 64 i < 18446744073709551616 := getN_lt a 64 i
    have hb : getN b 64 i < 18446744073709551616 := getN_lt b 64 i
    rw [dif64 _ _ _ h, sum64 _ _ _ h, neg64 _ _ h]; omega
theorem ring5_64 (a : Vec) : vb 64 14 a 0 = a :=
  lanes_ext 64 2 (by decide) (by decide) fun i h => by
    have ha : getN a 64 i < 18446744073709551616 := getN_lt a 64 i
    rw [sum64 _ _ _ h, g_0]; omega
theorem ring6_64 (a : Vec) : vu 64 0 (vu 64 1 a) = vu 64 0 a :=
  lanes_ext 64 2 (by decide) (by decide) fun i h => by
    have ha : getN a 64 i < 18446744073709551616 := getN_lt a 64 i
    rw [abs64 _ _ h, abs64 _ _ h, neg64 _ _ h]
    split <;> split <;> omega
theorem ring10_64 (a : Vec) (i : Nat) (h : i < 2) : getN (vu 64 0 a) 64 i = getN a 64 i ∨ getN (vu 64 0 a) 64 i = getN (vu 64 1 a) 64 i := by
  have ha : getN a 64 i < 18446744073709551616 := getN_lt a 64 i
  rw [abs64 _ _ h, neg64 _ _ h]
  split <;> omega
theorem ring11_64 (a : Vec) (i : Nat) (h : i < 2) : 0 ≤ sgn 64 (getN (vu 64 0 a) 64 i) ∨ getN (vu 64 0 a) 64 i = 9223372036854775808 := by
  have ha : getN a 64 i < 18446744073709551616 := getN_lt a 64 i
  rw [abs64 _ _ h]
  have hs : ∀ n, sgn 64 n = if n < 9223372036854775808 then (n : Int) else (n : Int) - 18446744073709551616 := fun _ => rfl
  rw [hs]
  split
  · first | omega | (split <;> omega)
  · first | omega | (split <;> omega)

theorem mul64 (a b : Vec) (i : Nat) (h : i < 2) : getN (vb 64 21 a b) 64 i = (getN a 64 i * getN b 64 i) % 18446744073709551616 := by
  rw [g_vb 64 _ _ _ _ h]; show u64 ((getN a 64 i : Int) * (getN b 64 i : Int)) % 18446744073709551616 = _
  rw [← Int.natCast_mul]; generalize getN a 64 i * getN b 64 i = n; unfold u64; omega
theorem ring7_64 (a b : Vec) : vb 64 21 a b = vb 64 21 b a :=
  lanes_ext 64 2 (by decide) (by decide) fun i h => by rw [mul64 _ _ _ h, mul64 _ _ _ h, Nat.mul_comm]
theorem ring8_64 (a b c : Vec) : vb 64 21 a (vb 64 14 b c) = vb 64 14 (vb 64 21 a b) (vb 64 21 a c) :=
  lanes_ext 64 2 (by decide) (by decide) fun i h => by
    rw [mul64 _ _ _ h, sum64 _ _ _ h, sum64 _ _ _ h, mul64 _ _ _ h, mul64 _ _ _ h, Nat.mul_mod, Nat.mod_mod, ← Nat.mul_mod, Nat.mul_add, ← Nat.add_mod]
theorem ring9_64 (a b : Vec) : vb 64 21 (vu 64 1 a) b = vu 64 1 (vb 64 21 a b) :=
  lanes_ext 64 2 (by decide) (by decide) fun i h => by
    have ha : getN a 64 i < 18446744073709551616 := getN_lt a 64 i
    rw [mul64 _ _ _ h, neg64 _ _ h, neg64 _ _ h, mul64 _ _ _ h, Nat.mul_mod, Nat.mod_mod, ← Nat.mul_mod]
    have e : (18446744073709551616 - getN a 64 i) * getN b 64 i + getN a 64 i * getN b 64 i = 18446744073709551616 * getN b 64 i := by rw [← Nat.add_mul, Nat.sub_add_cancel (Nat.le_of_lt ha)]
    generalize (18446744073709551616 - getN a 64 i) * getN b 64 i = p at *
    generalize getN a 64 i * getN b 64 i = q at *
    omega

theorem ssum8 (a b : Vec) (i : Nat) (h : i < 16) : sgn 8 (getN (vb 8 15 a b) 8 i) = min (max (sgn 8 (getN a 8 i) + sgn 8 (getN b 8 i)) (-128)) 127 := by
  have ha : getN a 8 i < 256 := getN_lt a 8 i
  have hb : getN b 8 i < 256 := getN_lt b 8 i
  have hs : ∀ n, sgn 8 n = if n < 128 then (n : Int) else (n : Int) - 256 := fun _ => rfl
  rw [g_vb 8 _ _ _ _ h]
  have e : laneR 8 15 a b i = u64 (min (max (sgn 8 (getN a 8 i) + sgn 8 (getN b 8 i)) (-128)) 127) := rfl
  rw [e, show (2 : Nat) ^ 8 = 256 from rfl]
  generalize sgn 8 (getN a 8 i) + sgn 8 (getN b 8 i) = p
  obtain ⟨q, hq⟩ : ∃ q : Int, q = min (max p (-128)) 127 := ⟨_, rfl⟩
  have h1 : -128 ≤ q := by omega
  have h2 : q ≤ 127 := by omega
  rw [← hq, hs]
  unfold u64
  split <;> omega
theorem sdif8 (a b : Vec) (i : Nat) (h : i < 16) : sgn 8 (getN (vb 8 18 a b) 8 i) = min (max (sgn 8 (getN a 8 i) - sgn 8 (getN b 8 i)) (-128)) 127 := by
  have ha : getN a 8 i < 256 := getN_lt a 8 i
  have hb : getN b 8 i < 256 := getN_lt b 8 i
  have hs : ∀ n, sgn 8 n = if n < 128 then (n : Int) else (n : Int) - 256 := fun _ => rfl
  rw [g_vb 8 _ _ _ _ h]
  have e : laneR 8 18 a b i = u64 (min (max (sgn 8 (getN a 8 i) - sgn 8 (getN b 8 i)) (-128)) 127) := rfl
  rw [e, show (2 : Nat) ^ 8 = 256 from rfl]
  generalize sgn 8 (getN a 8 i) - sgn 8 (getN b 8 i) = p
  obtain ⟨q, hq⟩ : ∃ q : Int, q = min (max p (-128)) 127 := ⟨_, rfl⟩
  have h1 : -128 ≤ q := by omega
  have h2 : q ≤ 127 := by omega
  rw [← hq, hs]
  unfold u64
  split <;> omega
theorem usum8 (a b : Vec) (i : Nat) (h : i < 16) : (getN (vb 8 16 a b) 8 i : Int) = min ((getN a 8 i : Int) + (getN b 8 i : Int)) 255 := by
  have ha : getN a 8 i < 256 := getN_lt a 8 i
  have hb : getN b 8 i < 256 := getN_lt b 8 i
  rw [g_vb 8 _ _ _ _ h]
  have e : laneR 8 16 a b i = u64 (min ((getN a 8 i : Int) + (getN b 8 i : Int)) 255) := rfl
  rw [e, show (2 : Nat) ^ 8 = 256 from rfl]; unfold u64; omega
theorem udif8 (a b : Vec) (i : Nat) (h : i < 16) : (getN (vb 8 19 a b) 8 i : Int) = max ((getN a 8 i : Int) - (getN b 8 i : Int)) 0 := by
  have ha : getN a 8 i < 256 := getN_lt a 8 i
  have hb : getN b 8 i < 256 := getN_lt b 8 i
  rw [g_vb 8 _ _ _ _ h]
  have e : laneR 8 19 a b i = u64 ((getN a 8 i : Int) - min (getN a 8 i) (getN b 8 i)) := rfl
  rw [e, show (2 : Nat) ^ 8 = 256 from rfl]; unfold u64; omega
theorem avg8 (a b : Vec) (i : Nat) (h : i < 16) : 2 * (getN (vb 8 27 a b) 8 i : Int) = (getN a 8 i : Int) + (getN b 8 i : Int) + ((getN a 8 i : Int) + (getN b 8 i : Int)) % 2 := by
  have ha : getN a 8 i < 256 := getN_lt a 8 i
  have hb : getN b 8 i < 256 := getN_lt b 8 i
  rw [g_vb 8 _ _ _ _ h]
  have e : laneR 8 27 a b i = u64 (((getN a 8 i : Int) + (getN b 8 i : Int) + 1) / 2) := rfl
  rw [e, show (2 : Nat) ^ 8 = 256 from rfl]; unfold u64; omega
theorem ssum16 (a b : Vec) (i : Nat) (h : i < 8) : sgn 16 (getN (vb 16 15 a b) 16 i) = min (max (sgn 16 (getN a 16 i) + sgn 16 (getN b 16 i)) (-32768)) 32767 := by
  have ha : getN a 16 i < 65536 := getN_lt a 16 i
  have hb : getN b 16 i < 65536 := getN_lt b 16 i
  have hs : ∀ n, sgn 16 n = if n < 32768 then (n : Int) else (n : Int) - 65536 := fun _ => rfl
  rw [g_vb 16 _ _ _ _ h]
  have e : laneR 16 15 a b i = u64 (min (max (sgn 16 (getN a 16 i) + sgn 16 (getN b 16 i)) (-32768)) 32767) := rfl
  rw [e, show (2 : Nat) ^ 16 = 65536 from rfl]
  generalize sgn 16 (getN a 16 i) + sgn 16 (getN b 16 i) = p
  obtain ⟨q, hq⟩ : ∃ q : Int, q = min (max p (-32768)) 32767 := ⟨_, rfl⟩
  have h1 : -32768 ≤ q := by omega
  have h2 : q ≤ 32767 := by omega
  rw [← hq, hs]
  unfold u64
  split <;> omega
theorem sdif16 (a b : Vec) (i : Nat) (h : i < 8) : sgn 16 (getN (vb 16 18 a b) 16 i) = min (max (sgn 16 (getN a 16 i) - sgn 16 (getN b 16 i)) (-32768)) 32767 := by
  have ha : getN a 16 i < 65536 := getN_lt a 16 i
  have hb : getN b 16 i < 65536 := getN_lt b 16 i
  have hs : ∀ n, sgn 16 n = if n < 32768 then (n : Int) else (n : Int) - 65536 := fun _ => rfl
  rw [g_vb 16 _ _ _ _ h]
  have e : laneR 16 18 a b i = u64 (min (max (sgn 16 (getN a 16 i) - sgn 16 (getN b 16 i)) (-32768)) 32767) := rfl
  rw [e, show (2 : Nat) ^ 16 = 65536 from rfl]
  generalize sgn 16 (getN a 16 i) - sgn 16 (getN b 16 i) = p
  obtain ⟨q, hq⟩ : ∃ q : Int, q = min (max p (-32768)) 32767 := ⟨_, rfl⟩
  have h1 : -32768 ≤ q := by omega
  have h2 : q ≤ 32767 := by omega
  rw [← hq, hs]
  unfold u64
  split <;> omega
theorem usum16 (a b : Vec) (i : Nat) (h : i < 8) : (getN (vb 16 16 a b) 16 i : Int) = min ((getN a 16 i : Int) + (getN b 16 i : Int)) 65535 := by
  have ha : getN a 16 i < 65536 := getN_lt a 16 i
  have hb : getN b 16 i < 65536 := getN_lt b 16 i
  rw [g_vb 16 _ _ _ _ h]
  have e : laneR 16 16 a b i = u64 (min ((getN a 16 i : Int) + (getN b 16 i : Int)) 65535) := rfl
  rw [e, show (2 : Nat) ^ 16 = 65536 from rfl]; unfold u64; omega
theorem udif16 (a b : Vec) (i : Nat) (h : i < 8) : (getN (vb 16 19 a b) 16 i : Int) = max ((getN a 16 i : Int) - (getN b 16 i : Int)) 0 := by
  have ha : getN a 16 i < 65536 := getN_lt a 16 i
  have hb : getN b 16 i < 65536 := getN_lt b 16 i
  rw [g_vb 16 _ _ _ _ h]
  have e : laneR 16 19 a b i = u64 ((getN a 16 i : Int) - min (getN a 16 i) (getN b 16 i)) := rfl
  rw [e, show (2 : Nat) ^ 16 = 65536 from rfl]; unfold u64; omega
theorem avg16 (a b : Vec) (i : Nat) (h : i < 8) : 2 * (getN (vb 16 27 a b) 16 i : Int) = (getN a 16 i : Int) + (getN b 16 i : Int) + ((getN a 16 i : Int) + (getN b 16 i : Int)) % 2 := by
  have ha : getN a 16 i < 65536 := getN_lt a 16 i
  have hb : getN b 16 i < 65536 := getN_lt b 16 i
  rw [g_vb 16 _ _ _ _ h]
  have e : laneR 16 27 a b i = u64 (((getN a 16 i : Int) + (getN b 16 i : Int) + 1) / 2) := rfl
  rw [e, show (2 : Nat) ^ 16 = 65536 from rfl]; unfold u64; omega
theorem low0_8 (a b : Vec) (i : Nat) (h : i < 16) : getN (vb 8 22 a b) 8 i = if sgn 8 (getN a 8 i) ≤ sgn 8 (getN b 8 i) then getN a 8 i else getN b 8 i := by
  have ha : getN a 8 i < 256 := getN_lt a 8 i
  have hb : getN b 8 i < 256 := getN_lt b 8 i
  have hs : ∀ n, sgn 8 n = if n < 128 then (n : Int) else (n : Int) - 256 := fun _ => rfl
  rw [g_vb 8 _ _ _ _ h]
  have e : laneR 8 22 a b i = u64 (min (sgn 8 (getN a 8 i)) (sgn 8 (getN b 8 i))) := rfl
  rw [e, show (2 : Nat) ^ 8 = 256 from rfl]
  simp only [hs]
  unfold u64
  generalize getN a 8 i = p at *; generalize getN b 8 i = q at *
  by_cases h1 : p < 128 <;> by_cases h2 : q < 128 <;> simp only [h1, h2, if_true, if_false] <;> split <;> omega
theorem high0_8 (a b : Vec) (i : Nat) (h : i < 16) : getN (vb 8 24 a b) 8 i = if sgn 8 (getN a 8 i) ≤ sgn 8 (getN b 8 i) then getN b 8 i else getN a 8 i := by
  have ha : getN a 8 i < 256 := getN_lt a 8 i
  have hb : getN b 8 i < 256 := getN_lt b 8 i
  have hs : ∀ n, sgn 8 n = if n < 128 then (n : Int) else (n : Int) - 256 := fun _ => rfl
  rw [g_vb 8 _ _ _ _ h]
  have e : laneR 8 24 a b i = u64 (max (sgn 8 (getN a 8 i)) (sgn 8 (getN b 8 i))) := rfl
  rw [e, show (2 : Nat) ^ 8 = 256 from rfl]
  simp only [hs]
  unfold u64
  generalize getN a 8 i = p at *; generalize getN b 8 i = q at *
  by_cases h1 : p < 128 <;> by_cases h2 : q < 128 <;> simp only [h1, h2, if_true, if_false] <;> split <;> omega
theorem lowhigh0_8 (a b : Vec) (i : Nat) (h : i < 16) : (getN (vb 8 22 a b) 8 i = getN a 8 i ∧ getN (vb 8 24 a b) 8 i = getN b 8 i ∨ getN (vb 8 22 a b) 8 i = getN b 8 i ∧ getN (vb 8 24 a b) 8 i = getN a 8 i) ∧ sgn 8 (getN (vb 8 22 a b) 8 i) ≤ sgn 8 (getN (vb 8 24 a b) 8 i) := by
  rw [low0_8 _ _ _ h, high0_8 _ _ _ h]
  split
  · exact ⟨.inl ⟨rfl, rfl⟩, ‹_›⟩
  · exact ⟨.inr ⟨rfl, rfl⟩, by omega⟩
theorem least1_0_8 (a b : Vec) : vb 8 14 (vb 8 22 a b) (vb 8 24 a b) = vb 8 14 a b :=
  lanes_ext 8 16 (by decide) (by decide) fun i h => by
    rw [sum8 _ _ _ h, sum8 _ _ _ h]
    rcases (lowhigh0_8 a b i h).1 with ⟨h1, h2⟩ | ⟨h1, h2⟩
    · rw [h1, h2]
    · rw [h1, h2, Nat.add_comm]
theorem least2_0_8 (a b : Vec) : vb 8 22 a b = vb 8 22 b a :=
  lanes_ext 8 16 (by decide) (by decide) fun i h => by
    have hs : ∀ n, sgn 8 n = if n < 128 then (n : Int) else (n : Int) - 256 := fun _ => rfl
    have ha : getN a 8 i < 256 := getN_lt a 8 i
    have hb : getN b 8 i < 256 := getN_lt b 8 i
    rw [low0_8 _ _ _ h, low0_8 _ _ _ h]
    simp only [hs]
    by_cases h1 : getN a 8 i < 128 <;> by_cases h2 : getN b 8 i < 128 <;> simp only [h1, h2, if_true, if_false] <;> split <;> split <;> omega
theorem least3_0_8 (a b : Vec) : vb 8 22 (vb 8 22 a b) (vb 8 24 a b) = vb 8 22 a b :=
  lanes_ext 8 16 (by decide) (by decide) fun i h => by
    rw [low0_8 (vb 8 22 a b) _ _ h, if_pos (lowhigh0_8 a b i h).2]
theorem least4_0_8 (a b : Vec) : vb 8 24 (vb 8 22 a b) (vb 8 24 a b) = vb 8 24 a b :=
  lanes_ext 8 16 (by decide) (by decide) fun i h => by
    rw [high0_8 (vb 8 22 a b) _ _ h, if_pos (lowhigh0_8 a b i h).2]
theorem low1_8 (a b : Vec) (i : Nat) (h : i < 16) : getN (vb 8 23 a b) 8 i = if (getN a 8 i) ≤ (getN b 8 i) then getN a 8 i else getN b 8 i := by
  have ha : getN a 8 i < 256 := getN_lt a 8 i
  have hb : getN b 8 i < 256 := getN_lt b 8 i
  rw [g_vb 8 _ _ _ _ h]
  show u64 (min (getN a 8 i : Int) (getN b 8 i : Int)) % 256 = _
  unfold u64
  split <;> omega
theorem high1_8 (a b : Vec) (i : Nat) (h : i < 16) : getN (vb 8 25 a b) 8 i = if (getN a 8 i) ≤ (getN b 8 i) then getN b 8 i else getN a 8 i := by
  have ha : getN a 8 i < 256 := getN_lt a 8 i
  have hb : getN b 8 i < 256 := getN_lt b 8 i
  rw [g_vb 8 _ _ _ _ h]
  show u64 (max (getN a 8 i : Int) (getN b 8 i : Int)) % 256 = _
  unfold u64
  split <;> omega
theorem lowhigh1_8 (a b : Vec) (i : Nat) (h : i < 16) : (getN (vb 8 23 a b) 8 i = getN a 8 i ∧ getN (vb 8 25 a b) 8 i = getN b 8 i ∨ getN (vb 8 23 a b) 8 i = getN b 8 i ∧ getN (vb 8 25 a b) 8 i = getN a 8 i) ∧ (getN (vb 8 23 a b) 8 i) ≤ (getN (vb 8 25 a b) 8 i) := by
  rw [low1_8 _ _ _ h, high1_8 _ _ _ h]
  split
  · exact ⟨.inl ⟨rfl, rfl⟩, ‹_›⟩
  · exact ⟨.inr ⟨rfl, rfl⟩, by omega⟩
theorem least1_1_8 (a b : Vec) : vb 8 14 (vb 8 23 a b) (vb 8 25 a b) = vb 8 14 a b :=
  lanes_ext 8 16 (by decide) (by decide) fun i h => by
    rw [sum8 _ _ _ h, sum8 _ _ _ h]
    rcases (lowhigh1_8 a b i h).1 with ⟨h1, h2⟩ | ⟨h1, h2⟩
    · rw [h1, h2]
    · rw [h1, h2, Nat.add_comm]
theorem least2_1_8 (a b : Vec) : vb 8 23 a b = vb 8 23 b a :=
  lanes_ext 8 16 (by decide) (by decide) fun i h => by
    have hs : ∀ n, sgn 8 n = if n < 128 then (n : Int) else (n : Int) - 256 := fun _ => rfl
    have ha : getN a 8 i < 256 := getN_lt a 8 i
    have hb : getN b 8 i < 256 := getN_lt b 8 i
    rw [low1_8 _ _ _ h, low1_8 _ _ _ h]
    split <;> split <;> omega
theorem least3_1_8 (a b : Vec) : vb 8 23 (vb 8 23 a b) (vb 8 25 a b) = vb 8 23 a b :=
  lanes_ext 8 16 (by decide) (by decide) fun i h => by
    rw [low1_8 (vb 8 23 a b) _ _ h, if_pos (lowhigh1_8 a b i h).2]
theorem least4_1_8 (a b : Vec) : vb 8 25 (vb 8 23 a b) (vb 8 25 a b) = vb 8 25 a b :=
  lanes_ext 8 16 (by decide) (by decide) fun i h => by
    rw [high1_8 (vb 8 23 a b) _ _ h, if_pos (lowhigh1_8 a b i h).2]
theorem low0_16 (a b : Vec) (i : Nat) (h : i < 8) : getN (vb 16 22 a b) 16 i = if sgn 16 (getN a 16 i) ≤ sgn 16 (getN b 16 i) then getN a 16 i else getN b 16 i := by
  have ha : getN a 16 i < 65536 := getN_lt a 16 i
  have hb : getN b 16 i < 65536 := getN_lt b 16 i
  have hs : ∀ n, sgn 16 n = if n < 32768 then (n : Int) else (n : Int) - 65536 := fun _ => rfl
  rw [g_vb 16 _ _ _ _ h]
  have e : laneR 16 22 a b i = u64 (min (sgn 16 (getN a 16 i)) (sgn 16 (getN b 16 i))) := rfl
  rw [e, show (2 : Nat) ^ 16 = 65536 from rfl]
  simp only [hs]
  unfold u64
  generalize getN a 16 i = p at *; generalize getN b 16 i = q at *
  by_cases h1 : p < 32768 <;> by_cases h2 : q < 32768 <;> simp only [h1, h2, if_true, if_false] <;> split <;> omega
theorem high0_16 (a b : Vec) (i : Nat) (h : i < 8) : getN (vb 16 24 a b) 16 i = if sgn 16 (getN a 16 i) ≤ sgn 16 (getN b 16 i) then getN b 16 i else getN a 16 i := by
  have ha : getN a 16 i < 65536 := getN_lt a 16 i
  have hb : getN b 16 i < 65536 := getN_lt b 16 i
  have hs : ∀ n, sgn 16 n = if n < 32768 then (n : Int) else (n : Int) - 65536 := fun _ => rfl
  rw [g_vb 16 _ _ _ _ h]
  have e : laneR 16 24 a b i = u64 (max (sgn 16 (getN a 16 i)) (sgn 16 (getN b 16 i))) := rfl
  rw [e, show (2 : Nat) ^ 16 = 65536 from rfl]
  simp only [hs]
  unfold u64
  generalize getN a 16 i = p at *; generalize getN b 16 i = q at *
  by_cases h1 : p < 32768 <;> by_cases h2 : q < 32768 <;> simp only [h1, h2, if_true, if_false] <;> split <;> omega
theorem lowhigh0_16 (a b : Vec) (i : Nat) (h : i < 8) : (getN (vb 16 22 a b) 16 i = getN a 16 i ∧ getN (vb 16 24 a b) 16 i = getN b 16 i ∨ getN (vb 16 22 a b) 16 i = getN b 16 i ∧ getN (vb 16 24 a b) 16 i = getN a 16 i) ∧ sgn 16 (getN (vb 16 22 a b) 16 i) ≤ sgn 16 (getN (vb 16 24 a b) 16 i) := by
  rw [low0_16 _ _ _ h, high0_16 _ _ _ h]
  split
  · exact ⟨.inl ⟨rfl, rfl⟩, ‹_›⟩
  · exact ⟨.inr ⟨rfl, rfl⟩, by omega⟩
theorem least1_0_16 (a b : Vec) : vb 16 14 (vb 16 22 a b) (vb 16 24 a b) = vb 16 14 a b :=
  lanes_ext 16 8 (by decide) (by decide) fun i h => by
    rw [sum16 _ _ _ h, sum16 _ _ _ h]
    rcases (lowhigh0_16 a b i h).1 with ⟨h1, h2⟩ | ⟨h1, h2⟩
    · rw [h1, h2]
    · rw [h1, h2, Nat.add_comm]
theorem least2_0_16 (a b : Vec) : vb 16 22 a b = vb 16 22 b a :=
  lanes_ext 16 8 (by decide) (by decide) fun i h => by
    have hs : ∀ n, sgn 16 n = if n < 32768 then (n : Int) else (n : Int) - 65536 := fun _ => rfl
    have ha : getN a 16 i < 65536 := getN_lt a 16 i
    have hb : getN b 16 i < 65536 := getN_lt b 16 i
    rw [low0_16 _ _ _ h, low0_16 _ _ _ h]
    simp only [hs]
    by_cases h1 : getN a 16 i < 32768 <;> by_cases h2 : getN b 16 i < 32768 <;> simp only [h1, h2, if_true, if_false] <;> split <;> split <;> omega
theorem least3_0_16 (a b : Vec) : vb 16 22 (vb 16 22 a b) (vb 16 24 a b) = vb 16 22 a b :=
  lanes_ext 16 8 (by decide) (by decide) fun i h => by
    rw [low0_16 (vb 16 22 a b) _ _ h, if_pos (lowhigh0_16 a b i h).2]
theorem least4_0_16 (a b : Vec) : vb 16 24 (vb 16 22 a b) (vb 16 24 a b) = vb 16 24 a b :=
  lanes_ext 16 8 (by decide) (by decide) fun i h => by
    rw [high0_16 (vb 16 22 a b) _ _ h, if_pos (lowhigh0_16 a b i h).2]
theorem low1_16 (a b : Vec) (i : Nat) (h : i < 8) : getN (vb 16 23 a b) 16 i = if (getN a 16 i) ≤ (getN b 16 i) then getN a 16 i else getN b 16 i := by
  have ha : getN a 16 i < 65536 := getN_lt a 16 i
  have hb : getN b 16 i < 65536 := getN_lt b 16 i
  rw [g_vb 16 _ _ _ _ h]
  show u64 (min (getN a 16 i : Int) (getN b 16 i : Int)) % 65536 = _
  unfold u64
  split <;> omega
theorem high1_16 (a b : Vec) (i : Nat) (h : i < 8) : getN (vb 16 25 a b) 16 i = if (getN a 16 i) ≤ (getN b 16 i) then getN b 16 i else getN a 16 i := by
  have ha : getN a 16 i < 65536 := getN_lt a 16 i
  have hb : getN b 16 i < 65536 := getN_lt b 16 i
  rw [g_vb 16 _ _ _ _ h]
  show u64 (max (getN a 16 i : Int) (getN b 16 i : Int)) % 65536 = _
  unfold u64
  split <;> omega
theorem lowhigh1_16 (a b : Vec) (i : Nat) (h : i < 8) : (getN (vb 16 23 a b) 16 i = getN a 16 i ∧ getN (vb 16 25 a b) 16 i = getN b 16 i ∨ getN (vb 16 23 a b) 16 i = getN b 16 i ∧ getN (vb 16 25 a b) 16 i = getN a 16 i) ∧ (getN (vb 16 23 a b) 16 i) ≤ (getN (vb 16 25 a b) 16 i) := by
  rw [low1_16 _ _ _ h, high1_16 _ _ _ h]
  split
  · exact ⟨.inl ⟨rfl, rfl⟩, ‹_›⟩
  · exact ⟨.inr ⟨rfl, rfl⟩, by omega⟩
theorem least1_1_16 (a b : Vec) : vb 16 14 (vb 16 23 a b) (vb 16 25 a b) = vb 16 14 a b :=
  lanes_ext 16 8 (by decide) (by decide) fun i h => by
    rw [sum16 _ _ _ h, sum16 _ _ _ h]
    rcases (lowhigh1_16 a b i h).1 with ⟨h1, h2⟩ | ⟨h1, h2⟩
    · rw [h1, h2]
    · rw [h1, h2, Nat.add_comm]
theorem least2_1_16 (a b : Vec) : vb 16 23 a b = vb 16 23 b a :=
  lanes_ext 16 8 (by decide) (by decide) fun i h => by
    have hs : ∀ n, sgn 16 n = if n < 32768 then (n : Int) else (n : Int) - 65536 := fun _ => rfl
    have ha : getN a 16 i < 65536 := getN_lt a 16 i
    have hb : getN b 16 i < 65536 := getN_lt b 16 i
    rw [low1_16 _ _ _ h, low1_16 _ _ _ h]
    split <;> split <;> omega
theorem least3_1_16 (a b : Vec) : vb 16 23 (vb 16 23 a b) (vb 16 25 a b) = vb 16 23 a b :=
  lanes_ext 16 8 (by decide) (by decide) fun i h => by
    rw [low1_16 (vb 16 23 a b) _ _ h, if_pos (lowhigh1_16 a b i h).2]
theorem least4_1_16 (a b : Vec) : vb 16 25 (vb 16 23 a b) (vb 16 25 a b) = vb 16 25 a b :=
  lanes_ext 16 8 (by decide) (by decide) fun i h => by
    rw [high1_16 (vb 16 23 a b) _ _ h, if_pos (lowhigh1_16 a b i h).2]
theorem low0_32 (a b : Vec) (i : Nat) (h : i < 4) : getN (vb 32 22 a b) 32 i = if sgn 32 (getN a 32 i) ≤ sgn 32 (getN b 32 i) then getN a 32 i else getN b 32 i := by
  have ha : getN a 32 i < 4294967296 := getN_lt a 32 i
  have hb : getN b 32 i < 4294967296 := getN_lt b 32 i
  have hs : ∀ n, sgn 32 n = if n < 2147483648 then (n : Int) else (n : Int) - 4294967296 := fun _ => rfl
  rw [g_vb 32 _ _ _ _ h]
  have e : laneR 32 22 a b i = u64 (min (sgn 32 (getN a 32 i)) (sgn 32 (getN b 32 i))) := rfl
  rw [e, show (2 : Nat) ^ 32 = 4294967296 from rfl]
  simp only [hs]
  unfold u64
  generalize getN a 32 i = p at *; generalize getN b 32 i = q at *
  by_cases h1 : p < 2147483648 <;> by_cases h2 : q < 2147483648 <;> simp only [h1, h2, if_true, if_false] <;> split <;> omega
theorem high0_32 (a b : Vec) (i : Nat) (h : i < 4) : getN (vb 32 24 a b) 32 i = if sgn 32 (getN a 32 i) ≤ sgn 32 (getN b 32 i) then getN b 32 i else getN a 32 i := by
  have ha : getN a 32 i < 4294967296 := getN_lt a 32 i
  have hb : getN b 32 i < 4294967296 := getN_lt b 32 i
  have hs : ∀ n, sgn 32 n = if n < 2147483648 then (n : Int) else (n : Int) - 4294967296 := fun _ => rfl
  rw [g_vb 32 _ _ _ _ h]
  have e : laneR 32 24 a b i = u64 (max (sgn 32 (getN a 32 i)) (sgn 32 (getN b 32 i))) := rfl
  rw [e, show (2 : Nat) ^ 32 = 4294967296 from rfl]
  simp only [hs]
  unfold u64
  generalize getN a 32 i = p at *; generalize getN b 32 i = q at *
  by_cases h1 : p < 2147483648 <;> by_cases h2 : q < 2147483648 <;> simp only [h1, h2, if_true, if_false] <;> split <;> omega
theorem lowhigh0_32 (a b : Vec) (i : Nat) (h : i < 4) : (getN (vb 32 22 a b) 32 i = getN a 32 i ∧ getN (vb 32 24 a b) 32 i = getN b 32 i ∨ getN (vb 32 22 a b) 32 i = getN b 32 i ∧ getN (vb 32 24 a b) 32 i = getN a 32 i) ∧ sgn 32 (getN (vb 32 22 a b) 32 i) ≤ sgn 32 (getN (vb 32 24 a b) 32 i) := by
  rw [low0_32 _ _ _ h, high0_32 _ _ _ h]
  split
  · exact ⟨.inl ⟨rfl, rfl⟩, ‹_›⟩
  · exact ⟨.inr ⟨rfl, rfl⟩, by omega⟩
theorem least1_0_32 (a b : Vec) : vb 32 14 (vb 32 22 a b) (vb 32 24 a b) = vb 32 14 a b :=
  lanes_ext 32 4 (by decide) (by decide) fun i h => by
    rw [sum32 _ _ _ h, sum32 _ _ _ h]
    rcases (lowhigh0_32 a b i h).1 with ⟨h1, h2⟩ | ⟨h1, h2⟩
    · rw [h1, h2]
    · rw [h1, h2, Nat.add_comm]
theorem least2_0_32 (a b : Vec) : vb 32 22 a b = vb 32 22 b a :=
  lanes_ext 32 4 (by decide) (by decide) fun i h => by
    have hs : ∀ n, sgn 32 n = if n < 2147483648 then (n : Int) else (n : Int) - 4294967296 := fun _ => rfl
    have ha : getN a 32 i < 4294967296 := getN_lt a 32 i
    have hb : getN b 32 i < 4294967296 := getN_lt b 32 i
    rw [low0_32 _ _ _ h, low0_32 _ _ _ h]
    simp only [hs]
    by_cases h1 : getN a 32 i < 2147483648 <;> by_cases h2 : getN b 32 i < 2147483648 <;> simp only [h1, h2, if_true, if_false] <;> split <;> split <;> omega
theorem least3_0_32 (a b : Vec) : vb 32 22 (vb 32 22 a b) (vb 32 24 a b) = vb 32 22 a b :=
  lanes_ext 32 4 (by decide) (by decide) fun i h => by
    rw [low0_32 (vb 32 22 a b) _ _ h, if_pos (lowhigh0_32 a b i h).2]
theorem least4_0_32 (a b : Vec) : vb 32 24 (vb 32 22 a b) (vb 32 24 a b) = vb 32 24 a b :=
  lanes_ext 32 4 (by decide) (by decide) fun i h => by
    rw [high0_32 (vb 32 22 a b) _ _ h, if_pos (lowhigh0_32 a b i h).2]
theorem low1_32 (a b : Vec) (i : Nat) (h : i < 4) : getN (vb 32 23 a b) 32 i = if (getN a 32 i) ≤ (getN b 32 i) then getN a 32 i else getN b 32 i := by
  have ha : getN a 32 i < 4294967296 := getN_lt a 32 i
  have hb : getN b 32 i < 4294967296 := getN_lt b 32 i
  rw [g_vb 32 _ _ _ _ h]
  show u64 (min (getN a 32 i : Int) (getN b 32 i : Int)) % 4294967296 = _
  unfold u64
  split <;> omega
theorem high1_32 (a b : Vec) (i : Nat) (h : i < 4) : getN (vb 32 25 a b) 32 i = if (getN a 32 i) ≤ (getN b 32 i) then getN b 32 i else getN a 32 i := by
  have ha : getN a 32 i < 4294967296 := getN_lt a 32 i
  have hb : getN b 32 i < 4294967296 := getN_lt b 32 i
  rw [g_vb 32 _ _ _ _ h]
  show u64 (max (getN a 32 i : Int) (getN b 32 i : Int)) % 4294967296 = _
  unfold u64
  split <;> omega
theorem lowhigh1_32 (a b : Vec) (i : Nat) (h : i < 4) : (getN (vb 32 23 a b) 32 i = getN a 32 i ∧ getN (vb 32 25 a b) 32 i = getN b 32 i ∨ getN (vb 32 23 a b) 32 i = getN b 32 i ∧ getN (vb 32 25 a b) 32 i = getN a 32 i) ∧ (getN (vb 32 23 a b) 32 i) ≤ (getN (vb 32 25 a b) 32 i) := by
  rw [low1_32 _ _ _ h, high1_32 _ _ _ h]
  split
  · exact ⟨.inl ⟨rfl, rfl⟩, ‹_›⟩
  · exact ⟨.inr ⟨rfl, rfl⟩, by omega⟩
theorem least1_1_32 (a b : Vec) : vb 32 14 (vb 32 23 a b) (vb 32 25 a b) = vb 32 14 a b :=
  lanes_ext 32 4 (by decide) (by decide) fun i h => by
    rw [sum32 _ _ _ h, sum32 _ _ _ h]
    rcases (lowhigh1_32 a b i h).1 with ⟨h1, h2⟩ | ⟨h1, h2⟩
    · rw [h1, h2]
    · rw [h1, h2, Nat.add_comm]
theorem least2_1_32 (a b : Vec) : vb 32 23 a b = vb 32 23 b a :=
  lanes_ext 32 4 (by decide) (by decide) fun i h => by
    have hs : ∀ n, sgn 32 n = if n < 2147483648 then (n : Int) else (n : Int) - 4294967296 := fun _ => rfl
    have ha : getN a 32 i < 4294967296 := getN_lt a 32 i
    have hb : getN b 32 i < 4294967296 := getN_lt b 32 i
    rw [low1_32 _ _ _ h, low1_32 _ _ _ h]
    split <;> split <;> omega
theorem least3_1_32 (a b : Vec) : vb 32 23 (vb 32 23 a b) (vb 32 25 a b) = vb 32 23 a b :=
  lanes_ext 32 4 (by decide) (by decide) fun i h => by
    rw [low1_32 (vb 32 23 a b) _ _ h, if_pos (lowhigh1_32 a b i h).2]
theorem least4_1_32 (a b : Vec) : vb 32 25 (vb 32 23 a b) (vb 32 25 a b) = vb 32 25 a b :=
  lanes_ext 32 4 (by decide) (by decide) fun i h => by
    rw [high1_32 (vb 32 23 a b) _ _ h, if_pos (lowhigh1_32 a b i h).2]
end Pl
