/-
  What package widen computes, by lanes: plain functions, no program in sight.
-/
import Derived.Test.YtcpfabkokgiepaaCells
set_option linter.unusedSimpArgs false
set_option linter.unusedVariables false
namespace Pl

/-- Lane i of the low or high half, with or without its sign, as 64 bits. -/
def extN (v : Vec) (w k i : Nat) : Nat := if k < 2 then u64 (sgn w (getN v w (i + k % 2 * (64 / w)))) else getN v w (i + k % 2 * (64 / w))

theorem ret_u64z {a : Int} {b : Nat} (h : a = b) : Go.Ending.returned (.int .u64 a) = Go.Ending.returned (.int .u64 (b : Int)) := by rw [h]
theorem ret_pair {a b c d : Int} (h : a = c) (k : b = d) : Go.Ending.returned (.tuple #[.int .i64 a, .int .i64 b]) = Go.Ending.returned (.tuple #[.int .i64 c, .int .i64 d]) := by rw [h, k]
end Pl
namespace Pl
open Go
/-- The sum of the lanes 2i and 2i + 1, with or without their signs, as 64 bits. -/
def pairN (s : Bool) (w : Nat) (v : Vec) (i : Nat) : Nat := if s then u64 (sgn w (getN v w (2 * i)) + sgn w (getN v w (2 * i + 1))) else getN v w (2 * i) + getN v w (2 * i + 1)
theorem sgn_bd (w n : Nat) (hw : w ≤ 32) (hw0 : 0 < w) (h : n < 2 ^ w) : -2147483648 ≤ sgn w n ∧ sgn w n ≤ 2147483647 := by
  have e : 2 ^ w = 2 * 2 ^ (w - 1) := by rw [← Nat.pow_succ']; congr 1; omega
  have hp : 2 ^ (w - 1) ≤ 2147483648 := Nat.pow_le_pow_right (show 0 < 2 by decide) (show w - 1 ≤ 31 by omega)
  unfold sgn
  have e' : (2 : Int) ^ w = ((2 ^ w : Nat) : Int) := by simp
  rw [e']
  split <;> omega
theorem get_bd (v : Vec) (w i : Nat) (hw : w ≤ 32) : getN v w i ≤ 4294967295 := by
  have := getN_lt v w i
  have hp : 2 ^ w ≤ 4294967296 := Nat.pow_le_pow_right (show 0 < 2 by decide) hw
  omega
theorem pair_s (w : Nat) (v : Vec) (k : Nat) (hw : w ≤ 32) (hw0 : 0 < w) : IntKind.u64.wrap (Go.RowKit.wrap64 (sgn w (getN v w (2 * k)) + sgn w (getN v w (2 * k + 1)))) = ((pairN true w v k : Nat) : Int) := by
  have h1 := sgn_bd w _ hw hw0 (getN_lt v w (2 * k))
  have h2 := sgn_bd w _ hw hw0 (getN_lt v w (2 * k + 1))
  rw [IntWalk.wrap64_in _ (by omega), wrap_u64]
  rfl
theorem pair_u (w : Nat) (v : Vec) (k : Nat) (hw : w ≤ 32) : IntKind.u64.wrap ((getN v w (2 * k) : Int) + (getN v w (2 * k + 1) : Int)) = ((pairN false w v k : Nat) : Int) := by
  have h1 := get_bd v w (2 * k) hw
  have h2 := get_bd v w (2 * k + 1) hw
  rw [IntWalk.u64_in _ (by omega)]
  simp [pairN]
/-- Instructions on one vector: the result and the error's number. -/
def unW (op : Int) (v : Vec) : Vec × Int :=
  if 64903 ≤ op ∧ op < 64907 then (buildOn 0 16 (extN v 8 (op - 64903).toNat) 8, 0)
  else if 64935 ≤ op ∧ op < 64939 then (buildOn 0 32 (extN v 16 (op - 64935).toNat) 4, 0)
  else if 64967 ≤ op ∧ op < 64971 then (buildOn 0 64 (extN v 32 (op - 64967).toNat) 2, 0)
  else if op = 64892 then (buildOn 0 16 (pairN true 8 v) 8, 0)
  else if op = 64893 then (buildOn 0 16 (pairN false 8 v) 8, 0)
  else if op = 64894 then (buildOn 0 32 (pairN true 16 v) 4, 0)
  else if op = 64895 then (buildOn 0 32 (pairN false 16 v) 4, 0)
  else (0, 1)
end Pl
namespace Pl
open Go
/-- A lane as a whole number, with or without its sign. -/
def laneI (s : Bool) (w : Nat) (v : Vec) (i : Nat) : Int := if s then sgn w (getN v w i) else (getN v w i : Int)
theorem lane_u (w : Nat) (v : Vec) (i : Nat) (hw : w ≤ 32) : RowKit.wrap64 (getN v w i : Int) = laneI false w v i := by
  have := get_bd v w i hw
  rw [IntWalk.wrap64_in _ (by omega)]
  rfl
theorem u64_lane (w : Nat) (v : Vec) (i k : Nat) (hw : w ≤ 32) : u64 (laneI (decide (k < 2)) w v (i + k % 2 * (64 / w))) = extN v w k i := by
  unfold laneI extN
  by_cases h : k < 2
  · simp [h]
  · have := get_bd v w (i + k % 2 * (64 / w)) hw
    simp only [h, decide_false, if_false, Bool.false_eq_true]
    exact u64_nat _ (by omega)
end Pl
namespace Pl
open Go
theorem ext_lt (v : Vec) (w k i : Nat) (hw : w ≤ 32) : extN v w k i < 2 ^ 64 := by
  rw [← u64_lane w v i k hw]; exact u64_lt _
theorem u64_lanet (w : Nat) (v : Vec) (i k : Nat) (hw : w ≤ 32) (hk : k < 2) (j : Nat) (hj : j = i + k % 2 * (64 / w)) : u64 (laneI true w v j) = extN v w k i := by
  subst hj; have := u64_lane w v i k hw; rwa [decide_eq_true hk] at this
theorem u64_lanef (w : Nat) (v : Vec) (i k : Nat) (hw : w ≤ 32) (hk : ¬ k < 2) (j : Nat) (hj : j = i + k % 2 * (64 / w)) : u64 (laneI false w v j) = extN v w k i := by
  subst hj; have := u64_lane w v i k hw; rwa [decide_eq_false hk] at this
end Pl
namespace Pl
open Go
theorem lane_bd (s : Bool) (w : Nat) (v : Vec) (i : Nat) (hw : w ≤ 32) (hw0 : 0 < w) : -2147483648 ≤ laneI s w v i ∧ laneI s w v i ≤ 4294967295 := by
  have h1 := sgn_bd w _ hw hw0 (getN_lt v w i)
  have h2 := get_bd v w i hw
  unfold laneI
  split <;> omega
theorem rpair (w : Nat) (v : Vec) (k : Nat) (s : Bool) (hw : w ≤ 32) (hw0 : 0 < w) : IntKind.u64.wrap (IntKind.i64.wrap (laneI s w v (2 * k) + laneI s w v (2 * k + 1))) = ((pairN s w v k : Nat) : Int) := by
  have h1 := lane_bd s w v (2 * k) hw hw0
  have h2 := lane_bd s w v (2 * k + 1) hw hw0
  rw [IntWalk.i64_in _ (by omega), wrap_u64]
  unfold laneI pairN
  cases s
  · have h3 := get_bd v w (2 * k) hw
    have h4 := get_bd v w (2 * k + 1) hw
    simp only [Bool.false_eq_true, if_false]
    unfold u64
    omega
  · rfl
theorem pair_lt (w : Nat) (v : Vec) (k : Nat) (s : Bool) (hw : w ≤ 32) : pairN s w v k < 2 ^ 64 := by
  have h3 := get_bd v w (2 * k) hw
  have h4 := get_bd v w (2 * k + 1) hw
  unfold pairN
  split
  · exact u64_lt _
  · omega
end Pl
