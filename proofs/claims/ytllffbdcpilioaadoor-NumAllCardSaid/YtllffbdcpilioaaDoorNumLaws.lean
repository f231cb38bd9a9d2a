/-
  Operators on whole numbers of 32 and 64 bits: what they give, and the plain laws between them; no program in sight.
-/
import Derived.Lib.BitFns
import Derived.Lib.TrailingZeros
set_option linter.unusedSimpArgs false
set_option linter.unusedVariables false
open Go
namespace Nm
abbrev B64 := BitVec 64
abbrev B32 := BitVec 32
def tru (b : Bool) : B64 := if b then 1 else 0
def lo (x : B64) : B32 := x.setWidth 32
def up (x : B32) : B64 := x.setWidth 64
def sx (x : B64) : B64 := (lo x).signExtend 64
def rotl {w : Nat} (x : BitVec w) (n : Nat) : BitVec w := x <<< n ||| x >>> (w - n)
/-- comparisons by their numbers -/
def cmpB (k : Int) (x y : B64) : B64 :=
  if k = 0 then tru (decide (x = y)) else if k = 1 then tru (!decide (x = y)) else if k = 2 then tru (x.slt y) else if k = 3 then tru (x.ult y)
  else if k = 4 then tru (y.slt x) else if k = 5 then tru (y.ult x) else if k = 6 then tru (!(y.slt x)) else if k = 7 then tru (!(y.ult x))
  else if k = 8 then tru (!(x.slt y)) else tru (!(x.ult y))
/-- operators of w bits by their numbers, from add on -/
def opB {w : Nat} (k : Int) (x y : BitVec w) : BitVec w × Int :=
  if 3 ≤ k ∧ k ≤ 6 ∧ y = 0 then (0, 21)
  else if k = 0 then (x + y, 0) else if k = 1 then (x - y, 0) else if k = 2 then (x * y, 0)
  else if k = 3 then (if x = BitVec.intMin w ∧ y = BitVec.allOnes w then (0, 22) else (x.sdiv y, 0))
  else if k = 4 then (x / y, 0)
  else if k = 5 then (x.srem y, 0)
  else if k = 6 then (x % y, 0)
  else if k = 7 then (x &&& y, 0) else if k = 8 then (x ||| y, 0) else if k = 9 then (x ^^^ y, 0)
  else if k = 10 then (x <<< (y.toNat % w), 0)
  else if k = 11 then (x.sshiftRight (y.toNat % w), 0)
  else if k = 12 then (x >>> (y.toNat % w), 0)
  else if k = 13 then (rotl x (y.toNat % w), 0)
  else (rotl x ((w - y.toNat % w) % w), 0)
def binB (op : Int) (x y : B64) : B64 × Int :=
  if 70 ≤ op ∧ op ≤ 79 then (cmpB (op - 70) (sx x) (sx y), 0)
  else if 81 ≤ op ∧ op ≤ 90 then (cmpB (op - 81) x y, 0)
  else if 106 ≤ op ∧ op ≤ 120 then (up (opB (op - 106) (lo x) (lo y)).1, (opB (op - 106) (lo x) (lo y)).2)
  else if 124 ≤ op ∧ op ≤ 138 then opB (op - 124) x y
  else (0, 1)
/-- The answer without the error. -/
def bB (op : Int) (x y : B64) : B64 := (binB op x y).1

theorem lo_up (x : B32) : lo (up x) = x := by simp [lo, up]
theorem up_inj {x y : B32} (h : up x = up y) : x = y := by have := congrArg lo h; simpa [lo_up] using this
theorem rotl_get {w : Nat} (x : BitVec w) (k i : Nat) (hk : k < w) : (rotl x k).getLsbD i = (decide (i < w) && if i < k then x.getLsbD (w - k + i) else x.getLsbD (i - k)) := by
  unfold rotl
  rw [BitVec.getLsbD_or, BitVec.getLsbD_shiftLeft, BitVec.getLsbD_ushiftRight]
  by_cases h : i < w
  · by_cases h2 : i < k
    · simp [h, h2]
    · have : x.getLsbD (w - k + i) = false := BitVec.getLsbD_of_ge _ _ (by omega)
      simp [h, h2, this]
  · have : x.getLsbD (w - k + i) = false := BitVec.getLsbD_of_ge _ _ (by omega)
    simp [h, this]
theorem rotl_rotl {w : Nat} (x : BitVec w) (k : Nat) (hk : k < w) : rotl (rotl x k) ((w - k) % w) = x := by
  apply BitVec.eq_of_getLsbD_eq
  intro i hi
  rw [rotl_get _ _ _ (Nat.mod_lt _ (by omega)), rotl_get _ _ _ hk, rotl_get _ _ _ hk]
  by_cases h0 : k = 0
  · subst h0
    simp [hi]
  · rw [Nat.mod_eq_of_lt (show w - k < w by omega)]
    by_cases h1 : i < w - k
    · simp [hi, h1, show w - (w - k) + i < w by omega, show ¬ w - (w - k) + i < k by omega, show w - (w - k) + i - k = i by omega]
    · simp [hi, h1, show i - (w - k) < w by omega, show i - (w - k) < k by omega, show w - k + (i - (w - k)) = i by omega]
theorem rotr_num (w k : Nat) (hk : k < w) : (w - (w - k) % w) % w = k := by
  by_cases h0 : k = 0
  · subst h0; simp
  · rw [Nat.mod_eq_of_lt (show w - k < w by omega), Nat.mod_eq_of_lt (by omega)]; omega
theorem rotl_or {w : Nat} (x : BitVec w) (k : Nat) (hk : k < w) : rotl x k = x <<< k ||| (if k = 0 then x else x >>> (w - k)) := by
  by_cases h0 : k = 0
  · subst h0
    have e : x >>> w = 0 := by
      apply BitVec.eq_of_getLsbD_eq
      intro i hi
      rw [BitVec.getLsbD_ushiftRight, BitVec.getLsbD_of_ge _ _ (by omega)]
      simp
    simp [rotl, e]
  · rw [if_neg h0]; rfl
theorem sar_or {w : Nat} (x : BitVec w) (k : Nat) (hk : k < w) : x.sshiftRight k = x >>> k ||| (if x >>> (w - 1) = 1 ∧ 0 < k then BitVec.allOnes w <<< (w - k) else 0) := by
  apply BitVec.eq_of_getLsbD_eq
  intro i hi
  have hw : 0 < w := by omega
  have hm : (x >>> (w - 1) = 1) ↔ x.msb = true := by
    rw [BitVec.msb_eq_getLsbD_last]
    constructor
    · intro h
      have := congrArg (fun y => y.getLsbD 0) h
      simpa [hw] using this
    · intro h
      apply BitVec.eq_of_getLsbD_eq
      intro j hj
      rw [BitVec.getLsbD_ushiftRight]
      by_cases j0 : j = 0
      · subst j0; simp [h, hw]
      · rw [BitVec.getLsbD_of_ge _ _ (by omega)]
        simp [BitVec.getLsbD_one, j0]
  rw [BitVec.getLsbD_sshiftRight, BitVec.getLsbD_or, BitVec.getLsbD_ushiftRight]
  simp only [hm]
  by_cases h1 : k + i < w
  · have : (if x.msb = true ∧ 0 < k then BitVec.allOnes w <<< (w - k) else 0#w).getLsbD i = false := by
      split
      · rw [BitVec.getLsbD_shiftLeft]; simp; omega
      · simp
    rw [show (0 : BitVec w) = 0#w from rfl, this]
    simp [h1, hi]
  · rw [if_neg h1]
    by_cases h2 : x.msb = true
    · have h3 : 0 < k := by omega
      have e : (if x.msb = true ∧ 0 < k then BitVec.allOnes w <<< (w - k) else 0) = BitVec.allOnes w <<< (w - k) := if_pos ⟨h2, h3⟩
      rw [e, BitVec.getLsbD_shiftLeft]
      simp [hi, h2, show ¬ i < w - k by omega, show i - (w - k) < w by omega]
    · have e : (if x.msb = true ∧ 0 < k then BitVec.allOnes w <<< (w - k) else 0) = 0 := if_neg (fun h => h2 h.1)
      rw [e, BitVec.getLsbD_of_ge x (k + i) (by omega)]
      simp [h2]
theorem shr_shl {w : Nat} (x : BitVec w) (k : Nat) (hk : k < w) : (x >>> k) <<< k = x &&& ~~~((1 : BitVec w) <<< k - 1) := by
  apply BitVec.eq_of_getLsbD_eq
  intro i hi
  have h2 : ((1 : BitVec w) <<< k - 1).getLsbD i = decide (i < k) := by
    have hp : 2 ^ k < 2 ^ w := Nat.pow_lt_pow_right (by decide) hk
    have h1p : 1 % 2 ^ w = 1 := Nat.mod_eq_of_lt (by have := Nat.two_pow_pos k; omega)
    have e : ((1 : BitVec w) <<< k - 1).toNat = 2 ^ k - 1 := by
      rw [BitVec.toNat_sub_of_le]
      · rw [BitVec.toNat_shiftLeft]
        simp [h1p, Nat.shiftLeft_eq, Nat.mod_eq_of_lt hp]
      · rw [BitVec.le_def, BitVec.toNat_shiftLeft]
        simp [h1p, Nat.shiftLeft_eq, Nat.mod_eq_of_lt hp]
        exact Nat.two_pow_pos k
    rw [BitVec.getLsbD, e, Nat.testBit_two_pow_sub_one]
  rw [BitVec.getLsbD_shiftLeft, BitVec.getLsbD_ushiftRight, BitVec.getLsbD_and, BitVec.getLsbD_not, h2]
  by_cases h : i < k
  · simp [h]
  · simp [h, hi, show k + (i - k) = i by omega]
theorem xor_top (a m : Nat) (h : a < 2 ^ (m + 1)) : a ^^^ 2 ^ m = if a < 2 ^ m then a + 2 ^ m else a - 2 ^ m := by
  have h1 : (a ^^^ 2 ^ m) / 2 ^ m = a / 2 ^ m ^^^ 1 := by rw [Nat.xor_div_two_pow, Nat.div_self (Nat.two_pow_pos _)]
  have h2 : (a ^^^ 2 ^ m) % 2 ^ m = a % 2 ^ m := by rw [Nat.xor_mod_two_pow, Nat.mod_self, Nat.xor_zero]
  have h3 := Nat.div_add_mod (a ^^^ 2 ^ m) (2 ^ m)
  have h4 := Nat.div_add_mod a (2 ^ m)
  rw [h1, h2] at h3
  rw [Nat.pow_succ] at h
  have hp := Nat.two_pow_pos m
  generalize 2 ^ m = p at *
  by_cases h5 : a < p
  · rw [if_pos h5]
    rw [Nat.div_eq_of_lt h5] at h3 h4
    simp at h3 h4
    omega
  · rw [if_neg h5]
    have h6 : a / p = 1 := by
      refine Nat.div_eq_of_lt_le ?_ ?_ <;> omega
    rw [h6] at h3 h4
    simp at h3 h4
    omega
theorem toInt_cases (x : B32) : x.toInt = if x.toNat < 2147483648 then (x.toNat : Int) else x.toNat - 4294967296 := by
  rw [BitVec.toInt_eq_toNat_cond]; split <;> split <;> omega
theorem toInt_cases64 (x : B64) : x.toInt = if x.toNat < 9223372036854775808 then (x.toNat : Int) else x.toNat - 18446744073709551616 := by
  rw [BitVec.toInt_eq_toNat_cond]; split <;> split <;> omega
theorem sx_toInt (x : B64) : (sx x).toInt = (lo x).toInt := BitVec.toInt_signExtend_of_le (by decide)
theorem lo_toNat (x : B64) : (lo x).toNat = x.toNat % 4294967296 := by simp [lo]
theorem sx_toNat (x : B64) : (sx x).toNat = if x.toNat % 4294967296 < 2147483648 then x.toNat % 4294967296 else x.toNat % 4294967296 + 18446744069414584320 := by
  have h1 := sx_toInt x
  rw [toInt_cases64, toInt_cases, lo_toNat] at h1
  have := (sx x).isLt
  split at h1 <;> split at h1 <;> split <;> omega
/-- facts of the ten comparisons of two numbers, as numbers 0 and 1 -/
def c (k : Int) (x y : B64) : Int := ((cmpB k x y).toNat : Int)
theorem tru_toNat (b : Bool) : ((tru b).toNat : Int) = if b = true then 1 else 0 := by cases b <;> rfl
theorem c0 (x y : B64) : c 0 x y = if x.toNat = y.toNat then 1 else 0 := by
  show ((tru (decide (x = y))).toNat : Int) = _
  rw [tru_toNat]; simp only [decide_eq_true_eq, BitVec.toNat_inj]
theorem c1 (x y : B64) : c 1 x y = if x.toNat = y.toNat then 0 else 1 := by
  show ((tru (!decide (x = y))).toNat : Int) = _
  rw [tru_toNat]
  by_cases h : x = y
  · subst h; simp
  · have h2 : x.toNat ≠ y.toNat := fun hh => h (BitVec.eq_of_toNat_eq hh)
    simp [h, h2]
theorem c2 (x y : B64) : c 2 x y = if x.toInt < y.toInt then 1 else 0 := by
  show ((tru (x.slt y)).toNat : Int) = _
  rw [tru_toNat, BitVec.slt_eq_decide]; simp
theorem c3 (x y : B64) : c 3 x y = if x.toNat < y.toNat then 1 else 0 := by
  show ((tru (x.ult y)).toNat : Int) = _
  rw [tru_toNat, BitVec.ult_eq_decide]; simp
theorem c4 (x y : B64) : c 4 x y = if y.toInt < x.toInt then 1 else 0 := by
  show ((tru (y.slt x)).toNat : Int) = _
  rw [tru_toNat, BitVec.slt_eq_decide]; simp
theorem c5 (x y : B64) : c 5 x y = if y.toNat < x.toNat then 1 else 0 := by
  show ((tru (y.ult x)).toNat : Int) = _
  rw [tru_toNat, BitVec.ult_eq_decide]; simp
theorem c6 (x y : B64) : c 6 x y = if y.toInt < x.toInt then 0 else 1 := by
  show ((tru (!y.slt x)).toNat : Int) = _
  rw [tru_toNat, BitVec.slt_eq_decide]; by_cases h : y.toInt < x.toInt <;> simp [h]
theorem c7 (x y : B64) : c 7 x y = if y.toNat < x.toNat then 0 else 1 := by
  show ((tru (!y.ult x)).toNat : Int) = _
  rw [tru_toNat, BitVec.ult_eq_decide]; by_cases h : y.toNat < x.toNat <;> simp [h]
theorem c8 (x y : B64) : c 8 x y = if x.toInt < y.toInt then 0 else 1 := by
  show ((tru (!x.slt y)).toNat : Int) = _
  rw [tru_toNat, BitVec.slt_eq_decide]; by_cases h : x.toInt < y.toInt <;> simp [h]
theorem c9 (x y : B64) : c 9 x y = if x.toNat < y.toNat then 0 else 1 := by
  show ((tru (!x.ult y)).toNat : Int) = _
  rw [tru_toNat, BitVec.ult_eq_decide]; by_cases h : x.toNat < y.toNat <;> simp [h]
structure Orders (x y : B64) : Prop where
  e01 : c 0 x y = 0 ∨ c 0 x y = 1
  ne : c 1 x y = 1 - c 0 x y
  s1 : c 2 x y + c 0 x y + c 4 x y = 1
  u1 : c 3 x y + c 0 x y + c 5 x y = 1
  s01 : 0 ≤ c 2 x y ∧ 0 ≤ c 4 x y
  u01 : 0 ≤ c 3 x y ∧ 0 ≤ c 5 x y
  s6 : c 6 x y = 1 - c 4 x y
  u7 : c 7 x y = 1 - c 5 x y
  s8 : c 8 x y = 1 - c 2 x y
  u9 : c 9 x y = 1 - c 3 x y
  st : c 2 y x = c 4 x y
  ut : c 3 y x = c 5 x y
  same : c 0 x x = 1
theorem orders (x y : B64) : Orders x y := by
  have hx := toInt_cases64 x
  have hy := toInt_cases64 y
  have bx := x.isLt
  have bY := y.isLt
  constructor
  all_goals simp only [c0, c1, c2, c3, c4, c5, c6, c7, c8, c9]
  all_goals first | rfl | ((repeat split) <;> omega) | (split at hx <;> split at hy <;> (repeat split) <;> omega)
theorem top_turn (x y : B64) : c 2 x y = c 3 (x ^^^ 9223372036854775808) (y ^^^ 9223372036854775808) := by
  rw [c2, c3, BitVec.toNat_xor, BitVec.toNat_xor]
  have h63 : (9223372036854775808 : B64).toNat = 2 ^ 63 := rfl
  rw [h63, xor_top _ _ x.isLt, xor_top _ _ y.isLt]
  have hx := toInt_cases64 x
  have hy := toInt_cases64 y
  have bx := x.isLt
  have bY := y.isLt
  have e : (2 : Nat) ^ 63 = 9223372036854775808 := rfl
  rw [e]
  split at hx <;> split at hy <;> simp [*] <;> (repeat split) <;> omega
theorem lo_xor (x y : B64) : lo (x ^^^ y) = lo x ^^^ lo y := by simp [lo]
theorem top_turn32 (x y : B64) : c 2 (sx x) (sx y) = c 3 (sx (x ^^^ 2147483648)) (sx (y ^^^ 2147483648)) := by
  rw [c2, c3, sx_toInt, sx_toInt, sx_toNat, sx_toNat, ← lo_toNat, ← lo_toNat, lo_xor, lo_xor, BitVec.toNat_xor, BitVec.toNat_xor]
  have h31 : (lo 2147483648).toNat = 2 ^ 31 := rfl
  rw [h31, xor_top _ _ (lo x).isLt, xor_top _ _ (lo y).isLt]
  have hx := toInt_cases (lo x)
  have hy := toInt_cases (lo y)
  have bx := (lo x).isLt
  have bY := (lo y).isLt
  have e : (2 : Nat) ^ 31 = 2147483648 := rfl
  rw [e]
  by_cases h1 : (lo x).toNat < 2147483648 <;> by_cases h2 : (lo y).toNat < 2147483648 <;> simp only [h1, h2, if_true, if_false] at hx hy ⊢
  · rw [if_neg (show ¬ (lo x).toNat + 2147483648 < 2147483648 by omega), if_neg (show ¬ (lo y).toNat + 2147483648 < 2147483648 by omega)]
    (repeat split) <;> omega
  · rw [if_neg (show ¬ (lo x).toNat + 2147483648 < 2147483648 by omega), if_pos (show (lo y).toNat - 2147483648 < 2147483648 by omega)]
    (repeat split) <;> omega
  · rw [if_pos (show (lo x).toNat - 2147483648 < 2147483648 by omega), if_neg (show ¬ (lo y).toNat + 2147483648 < 2147483648 by omega)]
    (repeat split) <;> omega
  · rw [if_pos (show (lo x).toNat - 2147483648 < 2147483648 by omega), if_pos (show (lo y).toNat - 2147483648 < 2147483648 by omega)]
    (repeat split) <;> omega
theorem un_back {w : Nat} (x y : BitVec w) : x / y * y + x % y = x := by
  have h1 := Nat.div_add_mod x.toNat y.toNat
  apply BitVec.eq_of_toNat_eq
  rw [BitVec.toNat_add, BitVec.toNat_mul, BitVec.toNat_udiv, BitVec.toNat_umod, Nat.mul_comm, Nat.mod_add_mod, h1]
  exact Nat.mod_eq_of_lt x.isLt
theorem s_back {w : Nat} (x y : BitVec w) : x.sdiv y * y + x.srem y = x := by
  have h1 := Int.tdiv_mul_add_tmod x.toInt y.toInt
  have e1 : x.sdiv y = BitVec.ofInt w (x.toInt.tdiv y.toInt) := by
    apply BitVec.eq_of_toInt_eq
    rw [BitVec.toInt_sdiv, BitVec.toInt_ofInt]
  have e2 : x.srem y = BitVec.ofInt w (x.toInt.tmod y.toInt) := by
    apply BitVec.eq_of_toInt_eq
    rw [BitVec.toInt_srem, BitVec.toInt_ofInt]
    symm
    rw [← BitVec.toInt_srem, BitVec.toInt_bmod_cancel]
  have e3 : y = BitVec.ofInt w y.toInt := by rw [BitVec.ofInt_toInt]
  rw [e1, e2]
  conv => lhs; rhs; skip
  calc BitVec.ofInt w (x.toInt.tdiv y.toInt) * y + BitVec.ofInt w (x.toInt.tmod y.toInt)
      = BitVec.ofInt w (x.toInt.tdiv y.toInt) * BitVec.ofInt w y.toInt + BitVec.ofInt w (x.toInt.tmod y.toInt) := by rw [← e3]
    _ = BitVec.ofInt w (x.toInt.tdiv y.toInt * y.toInt + x.toInt.tmod y.toInt) := by rw [BitVec.ofInt_add, BitVec.ofInt_mul]
    _ = x := by rw [h1, BitVec.ofInt_toInt]
theorem tmod_facts (s d : Int) (hd : d ≠ 0) : (s.tmod d).natAbs < d.natAbs ∧ (0 ≤ s → 0 ≤ s.tmod d) ∧ (s ≤ 0 → s.tmod d ≤ 0) := by
  refine ⟨?_, fun h => Int.tmod_nonneg _ h, fun h => ?_⟩
  · rw [Int.natAbs_tmod]; exact Nat.mod_lt _ (by omega)
  · have := Int.tmod_nonneg d (show 0 ≤ -s by omega)
    rw [Int.neg_tmod] at this; omega
def unB (op : Int) (x : B64) : B64 × Int :=
  if op = 69 then (tru (decide (lo x = 0)), 0)
  else if op = 80 then (tru (decide (x = 0)), 0)
  else if op = 103 then (BitVec.ofNat 64 (32 - Lib.bitLen (lo x).toNat), 0)
  else if op = 104 then (BitVec.ofNat 64 (Lib.ctz 32 (lo x).toNat), 0)
  else if op = 105 then (BitVec.ofNat 64 (Lib.onesCount (lo x).toNat), 0)
  else if op = 121 then (BitVec.ofNat 64 (64 - Lib.bitLen x.toNat), 0)
  else if op = 122 then (BitVec.ofNat 64 (Lib.ctz 64 x.toNat), 0)
  else if op = 123 then (BitVec.ofNat 64 (Lib.onesCount x.toNat), 0)
  else if op = 167 ∨ op = 173 then (up (lo x), 0)
  else if op = 172 ∨ op = 196 then (sx x, 0)
  else if op = 192 then (up ((x.setWidth 8).signExtend 32), 0)
  else if op = 193 then (up ((x.setWidth 16).signExtend 32), 0)
  else if op = 194 then ((x.setWidth 8).signExtend 64, 0)
  else if op = 195 then ((x.setWidth 16).signExtend 64, 0)
  else (0, 1)
def uB (op : Int) (x : B64) : B64 := (unB op x).1
theorem lo_eq {x y : B64} (h : lo x = lo y) (op : Int) (hb : 70 ≤ op ∧ op ≤ 79 ∨ 106 ≤ op ∧ op ≤ 120 ∨ op < 70 ∨ 91 ≤ op ∧ op ≤ 105) (u v : B64) (h2 : lo u = lo v) : binB op x u = binB op y v := by
  unfold binB sx
  rw [h, h2]
  split
  · rfl
  · rw [if_neg (show ¬ (81 ≤ op ∧ op ≤ 90) by omega), if_neg (show ¬ (81 ≤ op ∧ op ≤ 90) by omega)]
    split
    · rfl
    · rw [if_neg (show ¬ (124 ≤ op ∧ op ≤ 138) by omega), if_neg (show ¬ (124 ≤ op ∧ op ≤ 138) by omega)]
theorem up_lt (x : B32) : (up x).toNat < 4294967296 := by
  have := x.isLt
  unfold up
  rw [BitVec.toNat_setWidth, Nat.mod_eq_of_lt (by omega)]
  omega
theorem tru_lt (b : Bool) : (tru b).toNat < 4294967296 := by cases b <;> decide
theorem bin_lt (op : Int) (x u : B64) (hb : op ≤ 79 ∨ 91 ≤ op ∧ op ≤ 120) : (binB op x u).1.toNat < 4294967296 := by
  unfold binB
  split
  · unfold cmpB
    (repeat' split) <;> exact tru_lt _
  · rw [if_neg (by omega)]
    split
    · exact up_lt _
    · rw [if_neg (by omega)]; decide
theorem un_lo {x y : B64} (h : lo x = lo y) (op : Int) (hb : op ≠ 80) (h2 : op < 121 ∨ 123 < op) : unB op x = unB op y := by
  have h8 : x.setWidth 8 = y.setWidth 8 := by
    have e : ∀ z : B64, z.setWidth 8 = (lo z).setWidth 8 := fun z => by simp [lo]
    rw [e, e, h]
  have h16 : x.setWidth 16 = y.setWidth 16 := by
    have e : ∀ z : B64, z.setWidth 16 = (lo z).setWidth 16 := fun z => by simp [lo]
    rw [e, e, h]
  unfold unB sx
  rw [h, h8, h16, if_neg (show ¬ op = 80 from hb), if_neg (show ¬ op = 80 from hb), if_neg (show ¬ op = 121 by omega), if_neg (show ¬ op = 121 by omega), if_neg (show ¬ op = 122 by omega), if_neg (show ¬ op = 122 by omega), if_neg (show ¬ op = 123 by omega), if_neg (show ¬ op = 123 by omega)]
theorem ctzFrom_le : ∀ f x, Lib.ctzFrom f x ≤ f
  | 0, _ => Nat.le_refl _
  | f + 1, x => by unfold Lib.ctzFrom; split; omega; have := ctzFrom_le f (x / 2); omega
theorem ctz_le (f x : Nat) : Lib.ctz f x ≤ f := by unfold Lib.ctz; split; exact Nat.le_refl _; exact ctzFrom_le _ _
theorem popAux_le : ∀ f x, Lib.popAux f x ≤ f
  | 0, _ => Nat.le_refl _
  | f + 1, x => by unfold Lib.popAux; have := popAux_le f (x / 2); omega
theorem pop_le (x : Nat) : Lib.onesCount x ≤ 64 := popAux_le 64 x
theorem ofNat_small (n : Nat) (h : n ≤ 64) : (BitVec.ofNat 64 n).toNat = n := by rw [BitVec.toNat_ofNat]; omega
theorem un_lt (op : Int) (x : B64) (h : op ≤ 79 ∨ 91 ≤ op ∧ op ≤ 120) : (unB op x).1.toNat < 4294967296 := by
  by_cases a : op = 69
  · subst a; exact tru_lt _
  by_cases b : op = 103
  · subst b
    show (BitVec.ofNat 64 (32 - Lib.bitLen (lo x).toNat)).toNat < _
    rw [ofNat_small _ (by omega)]; omega
  by_cases c : op = 104
  · subst c
    show (BitVec.ofNat 64 (Lib.ctz 32 (lo x).toNat)).toNat < _
    have := ctz_le 32 (lo x).toNat
    rw [ofNat_small _ (by omega)]; omega
  by_cases d : op = 105
  · subst d
    show (BitVec.ofNat 64 (Lib.onesCount (lo x).toNat)).toNat < _
    have := pop_le (lo x).toNat
    rw [ofNat_small _ this]; omega
  have e : unB op x = (0, 1) := by
    unfold unB
    rw [if_neg a, if_neg (show ¬ op = 80 by omega), if_neg b, if_neg c, if_neg d, if_neg (show ¬ op = 121 by omega), if_neg (show ¬ op = 122 by omega), if_neg (show ¬ op = 123 by omega), if_neg (show ¬ (op = 167 ∨ op = 173) by omega),
      if_neg (show ¬ (op = 172 ∨ op = 196) by omega), if_neg (show ¬ op = 192 by omega), if_neg (show ¬ op = 193 by omega), if_neg (show ¬ op = 194 by omega), if_neg (show ¬ op = 195 by omega)]
  rw [e]
  decide
theorem get_lo (x : B64) (i : Nat) : (lo x).getLsbD i = (decide (i < 32) && x.getLsbD i) := BitVec.getLsbD_setWidth _ _ _
theorem get_up (x : B32) (i : Nat) : (up x).getLsbD i = (decide (i < 64) && x.getLsbD i) := BitVec.getLsbD_setWidth _ _ _
theorem cut_and (x : B64) : up (lo x) = x &&& 4294967295 := by
  apply BitVec.eq_of_getLsbD_eq
  intro i hi
  have : (4294967295 : B64).getLsbD i = decide (i < 32) := by
    have e : (4294967295 : B64).toNat = 2 ^ 32 - 1 := rfl
    rw [BitVec.getLsbD, e, Nat.testBit_two_pow_sub_one]
  rw [BitVec.getLsbD_and, this, get_up, get_lo, decide_eq_true hi]
  by_cases h : i < 32 <;> simp [h]
theorem lo_hi (x h : B64) : lo (x ^^^ h <<< 32) = lo x := by
  apply BitVec.eq_of_getLsbD_eq
  intro i hi
  rw [get_lo, get_lo, BitVec.getLsbD_xor, BitVec.getLsbD_shiftLeft, decide_eq_true hi]
  simp only [Bool.not_true, Bool.and_false, Bool.false_and, Bool.xor_false]
theorem lo_sign {w : Nat} (_ : w ≤ 32) (x : BitVec w) : lo (x.signExtend 64) = x.signExtend 32 := by
  apply BitVec.eq_of_getLsbD_eq
  intro i hi
  rw [get_lo, BitVec.getLsbD_signExtend, BitVec.getLsbD_signExtend, decide_eq_true hi, decide_eq_true (show i < 64 by omega)]
  rfl
theorem sign_self {w : Nat} (x : BitVec w) : x.signExtend w = x := by
  apply BitVec.eq_of_getLsbD_eq
  intro i hi
  rw [BitVec.getLsbD_signExtend, decide_eq_true hi, if_pos hi]
  rfl
theorem sign_16 (x : BitVec 8) : ((up (x.signExtend 32)).setWidth 16).signExtend 32 = x.signExtend 32 := by
  apply BitVec.eq_of_getLsbD_eq
  intro i hi
  have hm : ((up (x.signExtend 32)).setWidth 16).msb = x.msb := by
    rw [BitVec.msb_eq_getLsbD_last, BitVec.getLsbD_setWidth, get_up, BitVec.getLsbD_signExtend]
    rfl
  rw [BitVec.getLsbD_signExtend, BitVec.getLsbD_signExtend, hm, BitVec.getLsbD_setWidth, get_up, BitVec.getLsbD_signExtend, decide_eq_true hi, decide_eq_true (show i < 64 by omega)]
  by_cases h : i < 16
  · rw [if_pos h, decide_eq_true h]; rfl
  · rw [if_neg h, if_neg (show ¬ i < 8 by omega)]
theorem cuts (x : B64) : uB 167 x = x &&& 4294967295 ∧ uB 167 (uB 172 x) = uB 167 x ∧ uB 196 x = uB 172 x ∧ uB 196 (uB 172 x) = uB 172 x
    ∧ uB 172 x >>> 63 = uB 167 x >>> 31 ∧ uB 193 (uB 192 x) = uB 192 x ∧ uB 167 (uB 194 x) = uB 192 x ∧ uB 167 (uB 195 x) = uB 193 x := by
  have h1 : ∀ x, uB 167 x = up (lo x) := fun _ => rfl
  have h2 : ∀ x, uB 172 x = sx x := fun _ => rfl
  have h3 : ∀ x, uB 196 x = sx x := fun _ => rfl
  have h4 : ∀ x : B64, uB 192 x = up ((x.setWidth 8).signExtend 32) := fun _ => rfl
  have h5 : ∀ x : B64, uB 193 x = up ((x.setWidth 16).signExtend 32) := fun _ => rfl
  have h6 : ∀ x : B64, uB 194 x = (x.setWidth 8).signExtend 64 := fun _ => rfl
  have h7 : ∀ x : B64, uB 195 x = (x.setWidth 16).signExtend 64 := fun _ => rfl
  rw [h1, h1, h1, h1, h2, h3, h3, h4, h5, h5, h6, h7]
  have hls : lo (sx x) = lo x := by unfold sx; rw [lo_sign (Nat.le_refl _), sign_self]
  refine ⟨cut_and x, by rw [hls], rfl, ?_, ?_, ?_, ?_, ?_⟩
  · unfold sx; rw [show lo (BitVec.signExtend 64 (lo x)) = lo x from hls]
  · apply BitVec.eq_of_toNat_eq
    rw [BitVec.toNat_ushiftRight, BitVec.toNat_ushiftRight, sx_toNat, Nat.shiftRight_eq_div_pow, Nat.shiftRight_eq_div_pow]
    have : (up (lo x)).toNat = x.toNat % 4294967296 := by
      have := (lo x).isLt
      unfold up
      rw [BitVec.toNat_setWidth, Nat.mod_eq_of_lt (by omega), lo_toNat]
    rw [this]
    have e63 : (2 : Nat) ^ 63 = 9223372036854775808 := by decide
    have e31 : (2 : Nat) ^ 31 = 2147483648 := by decide
    rw [e63, e31]
    split <;> omega
  · congr 1; exact sign_16 _
  · congr 1; exact lo_sign (by decide) _
  · congr 1; exact lo_sign (by decide) _
theorem bitLenAux_spec : ∀ (f x : Nat), x < 2 ^ f → 0 < x → 0 < Lib.bitLenAux f x ∧ Lib.bitLenAux f x ≤ f ∧ 2 ^ (Lib.bitLenAux f x - 1) ≤ x ∧ x < 2 ^ Lib.bitLenAux f x
  | 0, x, h, h0 => by simp at h; omega
  | f + 1, x, h, h0 => by
    unfold Lib.bitLenAux
    rw [if_neg (by omega)]
    by_cases h1 : x / 2 = 0
    · have : Lib.bitLenAux f (x / 2) = 0 := by rw [h1]; cases f <;> rfl
      rw [this]
      have : x = 1 := by omega
      subst this
      simp
    · obtain ⟨i1, i2, i3, i4⟩ := bitLenAux_spec f (x / 2) (by rw [Nat.pow_succ] at h; omega) (by omega)
      generalize Lib.bitLenAux f (x / 2) = L at *
      refine ⟨by omega, by omega, ?_, ?_⟩
      · obtain ⟨M, rfl⟩ : ∃ M, L = M + 1 := ⟨L - 1, by omega⟩
        simp only [Nat.add_sub_cancel] at i3
        rw [show 1 + (M + 1) - 1 = M + 1 by omega, Nat.pow_succ]
        omega
      · rw [Nat.add_comm, Nat.pow_succ]; omega
theorem bitLen_zero : Lib.bitLen 0 = 0 := rfl
theorem bitLen_spec (x : Nat) (h : x < 2 ^ 64) (h0 : 0 < x) : 0 < Lib.bitLen x ∧ 2 ^ (Lib.bitLen x - 1) ≤ x ∧ x < 2 ^ Lib.bitLen x := by
  have := bitLenAux_spec 64 x h h0; exact ⟨this.1, this.2.2.1, this.2.2.2⟩
theorem ctzFrom_spec : ∀ (f x : Nat), 0 < x → x < 2 ^ f → ∃ m, x = 2 ^ Lib.ctzFrom f x * (2 * m + 1) ∧ Lib.ctzFrom f x < f
  | 0, x, h0, h => by simp at h; omega
  | f + 1, x, h0, h => by
    unfold Lib.ctzFrom
    split
    · rename_i h1
      exact ⟨x / 2, by simp; omega, by omega⟩
    · rename_i h1
      have hx : x / 2 < 2 ^ f := by rw [Nat.pow_succ] at h; omega
      obtain ⟨m, hm, hk⟩ := ctzFrom_spec f (x / 2) (by omega) hx
      refine ⟨m, ?_, by omega⟩
      have e : x = 2 * (x / 2) := by omega
      rw [Nat.add_comm 1, Nat.pow_succ, Nat.mul_assoc, Nat.mul_comm 2, ← Nat.mul_assoc, ← hm]
      omega
theorem ctz_spec (f x : Nat) (h0 : 0 < x) (h : x < 2 ^ f) : ∃ m, x = 2 ^ Lib.ctz f x * (2 * m + 1) ∧ Lib.ctz f x < f := by
  unfold Lib.ctz; rw [if_neg (by omega)]; exact ctzFrom_spec f x h0 h
theorem popAux_succ (f x : Nat) : Lib.popAux (f + 1) x = x % 2 + Lib.popAux f (x / 2) := rfl
theorem popAux_zero : ∀ f, Lib.popAux f 0 = 0
  | 0 => rfl
  | f + 1 => by unfold Lib.popAux; rw [Nat.zero_div, popAux_zero f]
theorem popAux_more : ∀ (f g x : Nat), x < 2 ^ f → Lib.popAux (f + g) x = Lib.popAux f x
  | 0, g, x, h => by have : x = 0 := by simpa using h
                     subst this; rw [popAux_zero, popAux_zero]
  | f + 1, g, x, h => by
    rw [show f + 1 + g = (f + g) + 1 by omega]
    unfold Lib.popAux
    rw [popAux_more f g (x / 2) (by rw [Nat.pow_succ] at h; omega)]
theorem popAux_shift : ∀ (t f m : Nat), Lib.popAux (f + t) (2 ^ t * m) = Lib.popAux f m
  | 0, f, m => by simp
  | t + 1, f, m => by
    rw [show f + (t + 1) = (f + t) + 1 by omega, popAux_succ]
    have e : 2 ^ (t + 1) * m = 2 * (2 ^ t * m) := by rw [Nat.pow_succ, Nat.mul_comm (2 ^ t) 2, Nat.mul_assoc]
    rw [e, show 2 * (2 ^ t * m) % 2 = 0 by omega, show 2 * (2 ^ t * m) / 2 = 2 ^ t * m by omega, popAux_shift t f m]
    omega
/-- without its lowest one bit -/
theorem pop_less (f t m : Nat) (ht : t < f) (h : 2 ^ t * (2 * m + 1) < 2 ^ f) : Lib.popAux f (2 ^ t * (2 * m)) + 1 = Lib.popAux f (2 ^ t * (2 * m + 1)) := by
  obtain ⟨g, rfl⟩ : ∃ g, f = (g + 1) + t := ⟨f - t - 1, by omega⟩
  rw [popAux_shift t (g + 1) (2 * m), popAux_shift t (g + 1) (2 * m + 1), popAux_succ, popAux_succ, show 2 * m % 2 = 0 by omega, show (2 * m + 1) % 2 = 1 by omega, show 2 * m / 2 = m by omega, show (2 * m + 1) / 2 = m by omega]
  omega
theorem pop_not : ∀ (f x : Nat), x < 2 ^ f → Lib.popAux f (2 ^ f - 1 - x) + Lib.popAux f x = f
  | 0, x, _ => rfl
  | f + 1, x, h => by
    rw [Nat.pow_succ] at h
    have hp := Nat.two_pow_pos f
    rw [popAux_succ, popAux_succ, Nat.pow_succ]
    have ih := pop_not f (x / 2) (by omega)
    generalize 2 ^ f = P at *
    have e : (P * 2 - 1 - x) / 2 = P - 1 - x / 2 := by omega
    rw [e]
    omega
theorem and_pred (t m : Nat) : (2 ^ t * (2 * m + 1)) &&& (2 ^ t * (2 * m + 1) - 1) = 2 ^ t * (2 * m) := by
  have hp := Nat.two_pow_pos t
  have e : 2 ^ t * (2 * m + 1) - 1 = 2 ^ t * (2 * m) + (2 ^ t - 1) := by rw [Nat.mul_add]; omega
  rw [e]
  apply Nat.eq_of_testBit_eq
  intro i
  rw [Nat.testBit_and, Nat.testBit_two_pow_mul_add _ (by omega : 2 ^ t - 1 < 2 ^ t), Nat.testBit_two_pow_sub_one, Nat.testBit_two_pow_mul, Nat.testBit_two_pow_mul]
  by_cases h : i < t
  · simp [h, show ¬ t ≤ i by omega]
  · rw [if_neg h]
    by_cases h2 : i = t
    · subst h2; simp
    · obtain ⟨j, rfl⟩ : ∃ j, i = t + (j + 1) := ⟨i - t - 1, by omega⟩
      rw [show t + (j + 1) - t = j + 1 by omega, Nat.testBit_succ, Nat.testBit_succ, show (2 * m + 1) / 2 = m by omega, show 2 * m / 2 = m by omega]
      simp
theorem xor_bit (t m : Nat) : (2 ^ t * (2 * m + 1)) ^^^ 2 ^ t = 2 ^ t * (2 * m) := by
  apply Nat.eq_of_testBit_eq
  intro i
  rw [Nat.testBit_xor, Nat.testBit_two_pow_mul, Nat.testBit_two_pow_mul, Nat.testBit_two_pow]
  by_cases h2 : i = t
  · subst h2; simp
  · by_cases h : i < t
    · simp [show ¬ t ≤ i by omega, show t ≠ i by omega]
    · obtain ⟨j, rfl⟩ : ∃ j, i = t + (j + 1) := ⟨i - t - 1, by omega⟩
      rw [show t + (j + 1) - t = j + 1 by omega, Nat.testBit_succ, Nat.testBit_succ, show (2 * m + 1) / 2 = m by omega, show 2 * m / 2 = m by omega]
      simp
/-- What the counts of a number of w bits that is not 0 have in common. -/
theorem counts (w n : Nat) (hw : w ≤ 64) (h0 : 0 < n) (h : n < 2 ^ w) : ∃ L t p : Nat, Lib.bitLen n = L ∧ Lib.ctz w n = t ∧ Lib.onesCount n = p ∧ 0 < L ∧ L ≤ w ∧ t < L ∧ 1 ≤ p ∧ p ≤ w ∧
    n / 2 ^ (L - 1) = 1 ∧ n / 2 ^ t % 2 = 1 ∧ n * 2 ^ (64 - t) % 2 ^ 64 = 0 ∧ Lib.onesCount (n &&& (n - 1)) = p - 1 ∧ Lib.onesCount (2 ^ w - 1 - n) = w - p ∧ Lib.onesCount (n ^^^ 2 ^ t) = p - 1 := by
  have h64 : n < 2 ^ 64 := Nat.lt_of_lt_of_le h (Nat.pow_le_pow_right (by decide) hw)
  obtain ⟨l1, l2, l3⟩ := bitLen_spec n h64 h0
  obtain ⟨m, hm, ht⟩ := ctz_spec w n h0 h
  refine ⟨_, _, _, rfl, rfl, rfl, ?_⟩
  generalize Lib.bitLen n = L at *
  generalize Lib.ctz w n = t at *
  have hLw : L ≤ w := by
    apply Nat.le_of_not_lt; intro hlt
    have : 2 ^ w ≤ 2 ^ (L - 1) := Nat.pow_le_pow_right (by decide) (by omega)
    omega
  have htL : t < L := by
    apply Nat.lt_of_not_le; intro hle
    have h1 : 2 ^ L ≤ 2 ^ t := Nat.pow_le_pow_right (by decide) hle
    have h2 : 2 ^ t ≤ 2 ^ t * (2 * m + 1) := Nat.le_mul_of_pos_right _ (by omega)
    omega
  have f1 : n / 2 ^ (L - 1) = 1 := by
    refine Nat.div_eq_of_lt_le (by rw [Nat.one_mul]; exact l2) ?_
    have : 2 ^ L = 2 ^ (L - 1) * 2 := by rw [← Nat.pow_succ]; congr 1; omega
    rw [show (1 + 1) * 2 ^ (L - 1) = 2 ^ (L - 1) * 2 from Nat.mul_comm _ _, ← this]
    exact l3
  have f2 : n / 2 ^ t % 2 = 1 := by rw [hm, Nat.mul_div_cancel_left _ (Nat.two_pow_pos t)]; omega
  have f3 : n * 2 ^ (64 - t) % 2 ^ 64 = 0 := by rw [hm, Nat.mul_right_comm, ← Nat.pow_add, show t + (64 - t) = 64 by omega, Nat.mul_mod_right]
  have hp1 := pop_less w t m ht (hm ▸ h)
  have hmw : ∀ x, x < 2 ^ w → Lib.onesCount x = Lib.popAux w x := fun x hx => by
    have := popAux_more w (64 - w) x hx
    rw [show w + (64 - w) = 64 by omega] at this
    exact this
  have hle : 2 ^ t * (2 * m) < 2 ^ w := by
    have : 2 ^ t * (2 * m) ≤ 2 ^ t * (2 * m + 1) := Nat.mul_le_mul_left _ (by omega)
    omega
  have hn := pop_not w n h
  have e1 := hmw n h
  have e2 : n &&& (n - 1) = 2 ^ t * (2 * m) := by rw [hm]; exact and_pred t m
  have e3 : n ^^^ 2 ^ t = 2 ^ t * (2 * m) := by rw [hm]; exact xor_bit t m
  have e4 := hmw _ hle
  have e5 := hmw (2 ^ w - 1 - n) (by omega)
  rw [← hm] at hp1
  rw [e2, e3, e4, e5, e1]
  have b1 : 0 < Lib.popAux w n := by generalize Lib.popAux w (2 ^ t * (2 * m)) = a at hp1; generalize Lib.popAux w n = b at *; clear hmw e1 e4 e5; omega
  have b2 : Lib.popAux w n ≤ w := by generalize Lib.popAux w n = b at *; generalize Lib.popAux w (2 ^ w - 1 - n) = a at *; clear hmw e1 e4 e5 hp1; omega
  have b3 : Lib.popAux w (2 ^ t * (2 * m)) = Lib.popAux w n - 1 := by generalize Lib.popAux w (2 ^ t * (2 * m)) = a at *; generalize Lib.popAux w n = b at *; clear hmw e1 e4 e5; omega
  have b4 : Lib.popAux w (2 ^ w - 1 - n) = w - Lib.popAux w n := by generalize Lib.popAux w n = b at *; generalize Lib.popAux w (2 ^ w - 1 - n) = a at *; clear hmw e1 e4 e5 hp1; omega
  exact ⟨l1, hLw, htL, b1, b2, f1, f2, f3, b3, b4, b3⟩
theorem or_split {w} (x y : BitVec w) : x ||| y = x + (y &&& ~~~x) := by
  rw [BitVec.add_eq_or_of_and_eq_zero]
  · ext i; simp; cases x[i] <;> cases y[i] <;> simp
  · ext i; simp; cases x[i] <;> cases y[i] <;> simp
theorem and_split {w} (x y : BitVec w) : y = (x &&& y) + (y &&& ~~~x) := by
  rw [BitVec.add_eq_or_of_and_eq_zero]
  · ext i; simp; cases x[i] <;> cases y[i] <;> simp
  · ext i; simp; cases x[i] <;> cases y[i] <;> simp
theorem and_add_or {w} (x y : BitVec w) : (x &&& y) + (x ||| y) = x + y := by
  rw [or_split]
  have := and_split x y
  generalize hp : x &&& y = p at *
  generalize hq : y &&& ~~~x = q at *
  rw [this]; grind
theorem xor_split {w} (x y : BitVec w) : x ||| y = (x &&& y) + (x ^^^ y) := by
  rw [BitVec.add_eq_or_of_and_eq_zero]
  · ext i; simp; cases x[i] <;> cases y[i] <;> simp
  · ext i; simp; cases x[i] <;> cases y[i] <;> simp
theorem or_sub_and {w} (x y : BitVec w) : (x ||| y) - (x &&& y) = x ^^^ y := by
  rw [xor_split]; grind
theorem xor_back {w} (x y : BitVec w) : (x ^^^ y) ^^^ y = x := by
  rw [BitVec.xor_assoc]; simp
theorem sub_not {w} (x y : BitVec w) : x - y = (x + (y ^^^ BitVec.allOnes w)) + 1 := by
  rw [BitVec.xor_allOnes, BitVec.not_eq_neg_add]; grind
end Nm
