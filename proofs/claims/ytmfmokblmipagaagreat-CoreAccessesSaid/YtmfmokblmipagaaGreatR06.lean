/-
  Texts NumLaws, NumRL.
-/
import Derived.Test.YtmfmokblmipagaaGreatR00
import Derived.Lib.BitFns
import Derived.Lib.TrailingZeros
set_option linter.unusedSimpArgs false
set_option linter.unusedVariables false
set_option maxHeartbeats 8000000
open Pl
section
open Go
namespace Nm
abbrev B64 := BitVec 64
abbrev B32 := BitVec 32
def tru (b : Bool) : B64 := if b then 1 else 0
def lo (x : B64) : B32 := x.setWidth 32
def up (x : B32) : B64 := x.setWidth 64
def sx (x : B64) : B64 := (lo x).signExtend 64
def rotl {w : Nat} (x : BitVec w) (n : Nat) : BitVec w := x <<< n ||| x >>> (w - n)
def cmpB (k : Int) (x y : B64) : B64 :=
 if k = 0 then tru (decide (x = y)) else if k = 1 then tru (!decide (x = y)) else if k = 2 then tru (x.slt y) else if k = 3 then tru (x.ult y)
 else if k = 4 then tru (y.slt x) else if k = 5 then tru (y.ult x) else if k = 6 then tru (!(y.slt x)) else if k = 7 then tru (!(y.ult x))
 else if k = 8 then tru (!(x.slt y)) else tru (!(x.ult y))
def opB {w : Nat} (k : Int) (x y : BitVec w) : BitVec w × Int :=
 if 3 ≤ k ∧ k ≤ 6 ∧ y = 0 then (0, 21)
 else if k = 0 then (x + y, 0) else if k = 1 then (x - y, 0) else if k = 2 then (x * y, 0)
 else if k = 3 then (if x = BitVec.intMin w ∧ y = BitVec.allOnes w then (0, 22) else (x.sdiv y, 0))
 else if k = 4 then (x / y, 0)
 else if k = 5 then (x.srem y, 0)
 else if k = 6 then (x % y, 0)
 else if k = 7 then (x &&& y, 0) else if k = 8 then (x ||| y, 0) else if k = 9 then (x ^^^ y, 0)
 else if k = 10 then (x <<< (y.toNat % w), 0)
 else if k = 11 then (x.sshiftRight (y.toNat % w), 0)
 else if k = 12 then (x >>> (y.toNat % w), 0)
 else if k = 13 then (rotl x (y.toNat % w), 0)
 else (rotl x ((w - y.toNat % w) % w), 0)
def binB (op : Int) (x y : B64) : B64 × Int :=
 if 70 ≤ op ∧ op ≤ 79 then (cmpB (op - 70) (sx x) (sx y), 0)
 else if 81 ≤ op ∧ op ≤ 90 then (cmpB (op - 81) x y, 0)
 else if 106 ≤ op ∧ op ≤ 120 then (up (opB (op - 106) (lo x) (lo y)).1, (opB (op - 106) (lo x) (lo y)).2)
 else if 124 ≤ op ∧ op ≤ 138 then opB (op - 124) x y
 else (0, 1)
theorem sar_or {w : Nat} (x : BitVec w) (k : Nat) (hk : k < w) : x.sshiftRight k = x >>> k ||| (if x >>> (w - 1) = 1 ∧ 0 < k then BitVec.allOnes w <<< (w - k) else 0) := by
 apply BitVec.eq_of_getLsbD_eq
 intro i hi
 have hw : 0 < w := by omega
 have hm : (x >>> (w - 1) = 1) ↔ x.msb = true := by
  rw [BitVec.msb_eq_getLsbD_last]
  constructor
  ·intro h
   have := congrArg (fun y => y.getLsbD 0) h
   simpa [hw] using this
  ·intro h
   apply BitVec.eq_of_getLsbD_eq
   intro j hj
   rw [BitVec.getLsbD_ushiftRight]
   by_cases j0 : j = 0
   ·subst j0; simp [h, hw]
   ·rw [BitVec.getLsbD_of_ge _ _ (by omega)]
    simp [BitVec.getLsbD_one, j0]
 rw [BitVec.getLsbD_sshiftRight, BitVec.getLsbD_or, BitVec.getLsbD_ushiftRight]
 simp only [hm]
 by_cases h1 : k + i < w
 ·have : (if x.msb = true ∧ 0 < k then BitVec.allOnes w <<< (w - k) else 0#w).getLsbD i = false := by
   split
   ·rw [BitVec.getLsbD_shiftLeft]; simp; omega
   ·simp
  rw [show (0 : BitVec w) = 0#w from rfl, this]
  simp [h1, hi]
 ·rw [if_neg h1]
  by_cases h2 : x.msb = true
  ·have h3 : 0 < k := by omega
   have e : (if x.msb = true ∧ 0 < k then BitVec.allOnes w <<< (w - k) else 0) = BitVec.allOnes w <<< (w - k) := if_pos ⟨h2, h3⟩
   rw [e, BitVec.getLsbD_shiftLeft]
   simp [hi, h2, show ¬ i < w - k by omega, show i - (w - k) < w by omega]
  ·have e : (if x.msb = true ∧ 0 < k then BitVec.allOnes w <<< (w - k) else 0) = 0 := if_neg (fun h => h2 h.1)
   rw [e, BitVec.getLsbD_of_ge x (k + i) (by omega)]
   simp [h2]
theorem toInt_cases64 (x : B64) : x.toInt = if x.toNat < 9223372036854775808 then (x.toNat : Int) else x.toNat - 18446744073709551616 := by
 rw [BitVec.toInt_eq_toNat_cond]; split <;> split <;> omega
def c (k : Int) (x y : B64) : Int := ((cmpB k x y).toNat : Int)
theorem tru_toNat (b : Bool) : ((tru b).toNat : Int) = if b = true then 1 else 0 := by cases b <;> rfl
theorem c0 (x y : B64) : c 0 x y = if x.toNat = y.toNat then 1 else 0 := by
 show ((tru (decide (x = y))).toNat : Int) = _
 rw [tru_toNat]; simp only [decide_eq_true_eq, BitVec.toNat_inj]
theorem c1 (x y : B64) : c 1 x y = if x.toNat = y.toNat then 0 else 1 := by
 show ((tru (!decide (x = y))).toNat : Int) = _
 rw [tru_toNat]
 by_cases h : x = y
 ·subst h; simp
 ·have h2 : x.toNat ≠ y.toNat := fun hh => h (BitVec.eq_of_toNat_eq hh)
  simp [h, h2]
theorem c2 (x y : B64) : c 2 x y = if x.toInt < y.toInt then 1 else 0 := by
 show ((tru (x.slt y)).toNat : Int) = _
 rw [tru_toNat, BitVec.slt_eq_decide]; simp
theorem c3 (x y : B64) : c 3 x y = if x.toNat < y.toNat then 1 else 0 := by
 show ((tru (x.ult y)).toNat : Int) = _
 rw [tru_toNat, BitVec.ult_eq_decide]; simp
theorem c4 (x y : B64) : c 4 x y = if y.toInt < x.toInt then 1 else 0 := by
 show ((tru (y.slt x)).toNat : Int) = _
 rw [tru_toNat, BitVec.slt_eq_decide]; simp
theorem c5 (x y : B64) : c 5 x y = if y.toNat < x.toNat then 1 else 0 := by
 show ((tru (y.ult x)).toNat : Int) = _
 rw [tru_toNat, BitVec.ult_eq_decide]; simp
theorem c6 (x y : B64) : c 6 x y = if y.toInt < x.toInt then 0 else 1 := by
 show ((tru (!y.slt x)).toNat : Int) = _
 rw [tru_toNat, BitVec.slt_eq_decide]; by_cases h : y.toInt < x.toInt <;> simp [h]
theorem c7 (x y : B64) : c 7 x y = if y.toNat < x.toNat then 0 else 1 := by
 show ((tru (!y.ult x)).toNat : Int) = _
 rw [tru_toNat, BitVec.ult_eq_decide]; by_cases h : y.toNat < x.toNat <;> simp [h]
theorem c8 (x y : B64) : c 8 x y = if x.toInt < y.toInt then 0 else 1 := by
 show ((tru (!x.slt y)).toNat : Int) = _
 rw [tru_toNat, BitVec.slt_eq_decide]; by_cases h : x.toInt < y.toInt <;> simp [h]
theorem c9 (x y : B64) : c 9 x y = if x.toNat < y.toNat then 0 else 1 := by
 show ((tru (!x.ult y)).toNat : Int) = _
 rw [tru_toNat, BitVec.ult_eq_decide]; by_cases h : x.toNat < y.toNat <;> simp [h]
structure Orders (x y : B64) : Prop where
 e01 : c 0 x y = 0 ∨ c 0 x y = 1
 ne : c 1 x y = 1 - c 0 x y
 s1 : c 2 x y + c 0 x y + c 4 x y = 1
 u1 : c 3 x y + c 0 x y + c 5 x y = 1
 s01 : 0 ≤ c 2 x y ∧ 0 ≤ c 4 x y
 u01 : 0 ≤ c 3 x y ∧ 0 ≤ c 5 x y
 s6 : c 6 x y = 1 - c 4 x y
 u7 : c 7 x y = 1 - c 5 x y
 s8 : c 8 x y = 1 - c 2 x y
 u9 : c 9 x y = 1 - c 3 x y
 st : c 2 y x = c 4 x y
 ut : c 3 y x = c 5 x y
 same : c 0 x x = 1
theorem orders (x y : B64) : Orders x y := by
 have hx := toInt_cases64 x
 have hy := toInt_cases64 y
 have bx := x.isLt
 have bY := y.isLt
 constructor
 all_goals simp only [c0, c1, c2, c3, c4, c5, c6, c7, c8, c9]
 all_goals first | rfl | ((repeat split) <;> omega) | (split at hx <;> split at hy <;> (repeat split) <;> omega)
end Nm
end
section
open Go
namespace Nm
theorem div_step (x y n q r b : Nat) (hy : 0 < y) (hq : q = x / 2 ^ (n + 1) / y) (hr : r = x / 2 ^ (n + 1) % y) (hb : b = x / 2 ^ n % 2) :
 r < y ∧ b < 2 ∧ (2 * r + b < y → x / 2 ^ n / y = 2 * q ∧ x / 2 ^ n % y = 2 * r + b) ∧ (y ≤ 2 * r + b → x / 2 ^ n / y = 2 * q + 1 ∧ x / 2 ^ n % y = 2 * r + b - y) := by
 have hX : x / 2 ^ n = 2 * (x / 2 ^ (n + 1)) + b := by
  rw [hb, Nat.pow_succ, ← Nat.div_div_eq_div_mul]; omega
 have hry : r < y := by rw [hr]; exact Nat.mod_lt _ hy
 have hd := Nat.div_add_mod (x / 2 ^ (n + 1)) y
 rw [← hq, ← hr] at hd
 refine ⟨hry, by omega, fun h => (Nat.div_mod_unique hy).2 ⟨?_, h⟩, fun h => (Nat.div_mod_unique hy).2 ⟨?_, by omega⟩⟩
 ·rw [hX, ← hd, Nat.mul_left_comm y 2 q]
  generalize y * q = m
  omega
 ·rw [hX, ← hd, Nat.mul_add, Nat.mul_left_comm y 2 q, Nat.mul_one]
  generalize y * q = m
  omega
theorem srem_sub {w : Nat} (x y : BitVec w) : x - x.sdiv y * y = x.srem y := by
 have h1 : x.srem y = BitVec.ofInt w (x.toInt.tmod y.toInt) := by rw [← BitVec.toInt_srem, BitVec.ofInt_toInt]
 have h2 : x.sdiv y = BitVec.ofInt w (x.toInt.tdiv y.toInt) := by
  apply BitVec.eq_of_toInt_eq
  rw [BitVec.toInt_sdiv, BitVec.toInt_ofInt]
 have h3 : x = BitVec.ofInt w x.toInt := (BitVec.ofInt_toInt).symm
 have h4 : y = BitVec.ofInt w y.toInt := (BitVec.ofInt_toInt).symm
 have h5 : x.toInt.tmod y.toInt = x.toInt - x.toInt.tdiv y.toInt * y.toInt := by
  have := Int.tmod_add_tdiv_mul x.toInt y.toInt; omega
 rw [h1, h5, Int.sub_eq_add_neg, BitVec.ofInt_add, BitVec.ofInt_neg, BitVec.ofInt_mul, ← h2, ← h3, ← h4, BitVec.sub_eq_add_neg]
end Nm
end
