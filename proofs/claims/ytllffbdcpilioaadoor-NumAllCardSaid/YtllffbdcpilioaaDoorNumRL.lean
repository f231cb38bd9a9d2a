/-
  Plain laws for the reference's operators on whole numbers; no program in sight.
-/
import Derived.Test.YtllffbdcpilioaaDoorNumLaws
set_option linter.unusedSimpArgs false
set_option linter.unusedVariables false
open Go
namespace Nm
/-- One step of a long division. -/
theorem div_step (x y n q r b : Nat) (hy : 0 < y) (hq : q = x / 2 ^ (n + 1) / y) (hr : r = x / 2 ^ (n + 1) % y) (hb : b = x / 2 ^ n % 2) :
    r < y ∧ b < 2 ∧ (2 * r + b < y → x / 2 ^ n / y = 2 * q ∧ x / 2 ^ n % y = 2 * r + b) ∧ (y ≤ 2 * r + b → x / 2 ^ n / y = 2 * q + 1 ∧ x / 2 ^ n % y = 2 * r + b - y) := by
  have hX : x / 2 ^ n = 2 * (x / 2 ^ (n + 1)) + b := by
    rw [hb, Nat.pow_succ, ← Nat.div_div_eq_div_mul]; omega
  have hry : r < y := by rw [hr]; exact Nat.mod_lt _ hy
  have hd := Nat.div_add_mod (x / 2 ^ (n + 1)) y
  rw [← hq, ← hr] at hd
  refine ⟨hry, by omega, fun h => (Nat.div_mod_unique hy).2 ⟨?_, h⟩, fun h => (Nat.div_mod_unique hy).2 ⟨?_, by omega⟩⟩
  · rw [hX, ← hd, Nat.mul_left_comm y 2 q]
    generalize y * q = m
    omega
  · rw [hX, ← hd, Nat.mul_add, Nat.mul_left_comm y 2 q, Nat.mul_one]
    generalize y * q = m
    omega
/-- The size of a number, its sign taken off. -/
def absB (x : B64) : B64 := if x.msb = true then -x else x
theorem sdiv_abs (x y : B64) : x.sdiv y = if x.msb = y.msb then absB x / absB y else -(absB x / absB y) := by
  unfold BitVec.sdiv absB
  cases hx : x.msb <;> cases hy : y.msb <;> simp [BitVec.udiv_def]
theorem toNat_of_toInt {w : Nat} (z : BitVec w) : z.toInt % 2 ^ w = (z.toNat : Int) := by
  rw [BitVec.toInt_eq_toNat_bmod]
  have := z.isLt
  have e : (2 : Int) ^ w = ((2 ^ w : Nat) : Int) := by simp
  rw [e, Int.bmod_emod]
  exact Int.emod_eq_of_lt (by omega) (by omega)
theorem sdiv_toNat {w : Nat} (x y : BitVec w) : ((x.sdiv y).toNat : Int) = (x.toInt.tdiv y.toInt) % 2 ^ w := by
  rw [← toNat_of_toInt, BitVec.toInt_sdiv]
  have e : (2 : Int) ^ w = ((2 ^ w : Nat) : Int) := by simp
  rw [e, Int.bmod_emod]
theorem lo_sdiv (x y : B64) : lo ((sx x).sdiv (sx y)) = (lo x).sdiv (lo y) := by
  apply BitVec.eq_of_toNat_eq
  have h1 := sdiv_toNat (sx x) (sx y)
  have h2 := sdiv_toNat (lo x) (lo y)
  rw [sx_toInt, sx_toInt] at h1
  rw [lo_toNat]
  generalize (lo x).toInt.tdiv (lo y).toInt = t at *
  rw [show (2 : Int) ^ 64 = 18446744073709551616 from rfl] at h1
  rw [show (2 : Int) ^ 32 = 4294967296 from rfl] at h2
  omega
theorem srem_sub {w : Nat} (x y : BitVec w) : x - x.sdiv y * y = x.srem y := by
  have h1 : x.srem y = BitVec.ofInt w (x.toInt.tmod y.toInt) := by rw [← BitVec.toInt_srem, BitVec.ofInt_toInt]
  have h2 : x.sdiv y = BitVec.ofInt w (x.toInt.tdiv y.toInt) := by
    apply BitVec.eq_of_toInt_eq
    rw [BitVec.toInt_sdiv, BitVec.toInt_ofInt]
  have h3 : x = BitVec.ofInt w x.toInt := (BitVec.ofInt_toInt).symm
  have h4 : y = BitVec.ofInt w y.toInt := (BitVec.ofInt_toInt).symm
  have h5 : x.toInt.tmod y.toInt = x.toInt - x.toInt.tdiv y.toInt * y.toInt := by
    have := Int.tmod_add_tdiv_mul x.toInt y.toInt; omega
  rw [h1, h5, Int.sub_eq_add_neg, BitVec.ofInt_add, BitVec.ofInt_neg, BitVec.ofInt_mul, ← h2, ← h3, ← h4, BitVec.sub_eq_add_neg]
theorem lo_srem (x y : B64) : lo (sx x - (sx x).sdiv (sx y) * sx y) = (lo x).srem (lo y) := by
  rw [← srem_sub (lo x) (lo y), ← lo_sdiv]
  have h1 : ∀ a b : B64, lo (a - b) = lo a - lo b := fun a b => by
    apply BitVec.eq_of_toNat_eq
    rw [lo_toNat, BitVec.toNat_sub, BitVec.toNat_sub, lo_toNat, lo_toNat]
    have := a.isLt
    have := b.isLt
    omega
  have h2 : ∀ a b : B64, lo (a * b) = lo a * lo b := fun a b => by
    apply BitVec.eq_of_toNat_eq
    rw [lo_toNat, BitVec.toNat_mul, BitVec.toNat_mul, lo_toNat, lo_toNat]
    simp only [Nat.reducePow]
    rw [Nat.mod_mod_of_dvd _ (by decide), Nat.mul_mod]
  have h3 : ∀ a : B64, lo (sx a) = lo a := fun a => by
    unfold lo sx lo
    apply BitVec.eq_of_getLsbD_eq; intro i hi
    simp [BitVec.getLsbD_signExtend, hi]
    omega
  rw [h1, h2, h3, h3]
/-- Of the w bits b the first t are 0 and the next is 1. -/
structure FZ (b : Nat → Nat) (t w : Nat) : Prop where
  le : t ≤ w
  lo : ∀ j, j < t → b j = 0
  one : t < w → b t = 1
theorem ctz_fz (w x : Nat) (h : x < 2 ^ w) : FZ (fun i => x / 2 ^ i % 2) (Lib.ctz w x) w := by
  by_cases h0 : x = 0
  · subst h0
    have e : Lib.ctz w 0 = w := by simp [Lib.ctz]
    rw [e]
    exact ⟨Nat.le_refl _, fun j _ => by simp, fun h => absurd h (Nat.lt_irrefl _)⟩
  · have e : Lib.ctz w x = Lib.ctzFrom w x := by simp [Lib.ctz, h0]
    rw [e]
    obtain ⟨m, hm, hl⟩ := Lib.ctzFrom_spec w x (by omega) h
    generalize Lib.ctzFrom w x = t at *
    refine ⟨by omega, fun j hj => ?_, fun _ => ?_⟩
    · show x / 2 ^ j % 2 = 0
      have : 2 ^ t = 2 ^ j * (2 * 2 ^ (t - j - 1)) := by
        rw [← Nat.pow_succ', ← Nat.pow_add]; congr 1; omega
      rw [hm, this, Nat.mul_assoc, Nat.mul_div_cancel_left _ (Nat.two_pow_pos _), Nat.mul_assoc]
      exact Nat.mul_mod_right _ _
    · show x / 2 ^ t % 2 = 1
      rw [hm, Nat.mul_div_cancel_left _ (Nat.two_pow_pos _)]; omega
theorem bl_spec : ∀ n x, n ≤ 64 → x < 2 ^ n → x < 2 ^ Lib.bitLen x ∧ (x ≠ 0 → 2 ^ (Lib.bitLen x - 1) ≤ x ∧ 0 < Lib.bitLen x)
  | 0, x, _, h => by
    obtain rfl : x = 0 := by simp at h; omega
    exact ⟨by decide, fun h => absurd rfl h⟩
  | n + 1, x, hn, h => by
    by_cases h0 : x = 0
    · subst h0; exact ⟨by decide, fun h => absurd rfl h⟩
    · have h64 : x < 2 ^ 64 := Nat.lt_of_lt_of_le h (Nat.pow_le_pow_right (by decide) hn)
      obtain ⟨i1, i2⟩ := bl_spec n (x / 2) (by omega) (by rw [Nat.pow_succ] at h; omega)
      rw [Lib.bitLen_half x h0 h64]
      by_cases h1 : x / 2 = 0
      · have e0 : Lib.bitLen (x / 2) = 0 := by rw [h1]; rfl
        rw [e0]
        exact ⟨by simp; omega, fun _ => ⟨by simp; omega, by decide⟩⟩
      · generalize Lib.bitLen (x / 2) = L at *
        refine ⟨by rw [Nat.add_comm, Nat.pow_succ]; omega, fun _ => ⟨?_, by omega⟩⟩
        obtain ⟨i3, i4⟩ := i2 h1
        have e : 2 ^ (1 + L - 1) = 2 * 2 ^ (L - 1) := by rw [← Nat.pow_succ']; congr 1; omega
        rw [e]; omega
theorem clz_fz (w x : Nat) (hw : w ≤ 64) (h : x < 2 ^ w) : FZ (fun i => x / 2 ^ (w - 1 - i) % 2) (w - Lib.bitLen x) w := by
  obtain ⟨h1, h2⟩ := bl_spec w x hw h
  have hl := Lib.bitLen_le x w hw h
  have hz : x = 0 → Lib.bitLen x = 0 := fun e => by rw [e]; rfl
  generalize Lib.bitLen x = L at *
  refine ⟨by omega, fun j hj => ?_, fun ht => ?_⟩
  · show x / 2 ^ (w - 1 - j) % 2 = 0
    rw [Nat.div_eq_of_lt (Nat.lt_of_lt_of_le h1 (Nat.pow_le_pow_right (by decide) (by omega)))]
  · show x / 2 ^ (w - 1 - (w - L)) % 2 = 1
    by_cases h0 : x = 0
    · have := hz h0; omega
    · obtain ⟨h3, h4⟩ := h2 h0
      rw [show w - 1 - (w - L) = L - 1 by omega]
      have e : 2 ^ L = 2 * 2 ^ (L - 1) := by rw [← Nat.pow_succ']; congr 1; omega
      rw [e] at h1
      have : x / 2 ^ (L - 1) = 1 := by
        rw [Nat.div_eq_iff (Nat.two_pow_pos _)]; omega
      rw [this]
/-- How many of the lowest bits are 1. -/
def pc (i x : Nat) : Nat := Lib.popAux i x
theorem pc_succ : ∀ i x, pc (i + 1) x = pc i x + x / 2 ^ i % 2
  | 0, x => by simp [pc, Lib.popAux]
  | i + 1, x => by
    have ih := pc_succ i (x / 2)
    show x % 2 + pc (i + 1) (x / 2) = x % 2 + pc i (x / 2) + _
    rw [ih, Nat.div_div_eq_div_mul, show 2 * 2 ^ i = 2 ^ (i + 1) from (Nat.pow_succ').symm]
    omega
theorem pc_le : ∀ i x, pc i x ≤ i
  | 0, _ => Nat.le_refl _
  | i + 1, x => by rw [pc_succ]; have := pc_le i x; omega
theorem pc_all (w x : Nat) (hw : w ≤ 64) (h : x < 2 ^ w) : ∀ k, pc (w + k) x = pc w x
  | 0 => rfl
  | k + 1 => by
    rw [← Nat.add_assoc, pc_succ, pc_all w x hw h k, Nat.div_eq_of_lt (Nat.lt_of_lt_of_le h (Nat.pow_le_pow_right (by decide) (by omega))), Nat.zero_mod, Nat.add_zero]
theorem ones_pc (w x : Nat) (hw : w ≤ 64) (h : x < 2 ^ w) : Lib.onesCount x = pc w x := by
  have := pc_all w x hw h (64 - w)
  rw [show w + (64 - w) = 64 by omega] at this
  exact this
end Nm
