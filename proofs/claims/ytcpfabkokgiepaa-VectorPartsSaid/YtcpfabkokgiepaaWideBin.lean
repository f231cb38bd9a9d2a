/-
  What package widen computes of two vectors, by lanes: plain functions, no program in sight.
-/
import Derived.Test.YtcpfabkokgiepaaWideSpec
set_option linter.unusedSimpArgs false
set_option linter.unusedVariables false
namespace Pl
open Go
/-- A signed lane held to lo and hi, as 64 bits. -/
def holdN (lo hi : Int) (w : Nat) (v : Vec) (i : Nat) : Nat := u64 (min (max (sgn w (getN v w i)) lo) hi)
/-- Lanes k of both halves, written in turn. -/
def nbuild (w n : Nat) (fa fb : Nat → Nat) : Nat → Vec
  | 0 => 0
  | k + 1 => setN (setN (nbuild w n fa fb k) w k (fa k)) w (n + k) (fb k)
theorem getN_nbuild (w n : Nat) (fa fb : Nat → Nat) (h : 2 * n = 128 / w) (k j : Nat) (hk : k ≤ n) :
    getN (nbuild w n fa fb k) w j = if j < k then fa j % 2 ^ w else if n ≤ j ∧ j < n + k then fb (j - n) % 2 ^ w else getN 0 w j := by
  induction k with
  | zero => simp only [nbuild, Nat.not_lt_zero, if_false]; rw [if_neg (by omega)]
  | succ k ih =>
    rw [nbuild, getN_setN _ _ _ _ _ (by omega), getN_setN _ _ _ _ _ (by omega), ih (by omega)]
    by_cases h1 : j = n + k
    · rw [if_pos h1, if_neg (by omega), if_pos (by omega), h1, Nat.add_sub_cancel_left]
    · rw [if_neg h1]
      by_cases h2 : j = k
      · rw [if_pos h2, if_pos (by omega), h2]
      · rw [if_neg h2]
        by_cases h3 : j < k
        · rw [if_pos h3, if_pos (by omega)]
        · rw [if_neg h3, if_neg (show ¬ j < k + 1 by omega)]
          by_cases h4 : n ≤ j ∧ j < n + k
          · rw [if_pos h4, if_pos (by omega)]
          · rw [if_neg h4, if_neg (by omega)]
theorem hold_wrap (lo hi x : Int) : IntKind.u64.wrap (if hi < if x < lo then lo else x then hi else if x < lo then lo else x) = ((u64 (min (max x lo) hi) : Nat) : Int) := by
  rw [wrap_u64]
  congr 2
  rw [Int.min_def, Int.max_def]
  split <;> split <;> split <;> split <;> omega
/-- Go's max and min of two integers, folded: so that a walk does not part on them. -/
def maxI (x lo : Int) : Int := if x < lo then lo else x
def minI (hi y : Int) : Int := if hi < y then hi else y
theorem fold_max (x lo : Int) [d : Decidable (x < lo)] : @ite Int (x < lo) d lo x = maxI x lo := by unfold maxI; split <;> rfl
theorem fold_min (hi y : Int) [d : Decidable (hi < y)] : @ite Int (hi < y) d hi y = minI hi y := by unfold minI; split <;> rfl
end Pl
namespace Pl
open Go
/-- The product of two lanes, made wide. -/
def mulN (w c : Nat) (a b : Vec) (i : Nat) : Nat := extN a w c i * extN b w c i % 2 ^ 64
theorem wrap_mul (x y : Nat) : IntKind.u64.wrap ((x : Int) * (y : Int)) = ((x * y % 2 ^ 64 : Nat) : Int) := by
  rw [wrap_u64]
  unfold u64
  have h1 : ((x : Int) * (y : Int)) = ((x * y : Nat) : Int) := by simp
  rw [h1]
  omega
theorem mul_lt (w c : Nat) (a b : Vec) (i : Nat) : mulN w c a b i < 2 ^ 64 := Nat.mod_lt _ (by decide)
end Pl
namespace Pl
open Go
/-- A product of fractions of 15 bits, rounded, held to the greatest. -/
def q15N (a b : Vec) (i : Nat) : Nat := u64 (min ((sgn 16 (getN a 16 i) * sgn 16 (getN b 16 i) + 16384) / 32768) 32767)
/-- The sum of two products. -/
def dotN (a b : Vec) (i : Nat) : Nat := u64 (sgn 16 (getN a 16 (2 * i)) * sgn 16 (getN b 16 (2 * i)) + sgn 16 (getN a 16 (2 * i + 1)) * sgn 16 (getN b 16 (2 * i + 1)))
end Pl
namespace Pl
theorem sgn_bd16 (n : Nat) (h : n < 2 ^ 16) : -32768 ≤ sgn 16 n ∧ sgn 16 n ≤ 32767 := by
  unfold sgn
  have e : (2 : Int) ^ 16 = 65536 := by decide
  have e2 : (2 : Nat) ^ 16 = 65536 := by decide
  have e3 : (2 : Nat) ^ (16 - 1) = 32768 := by decide
  rw [e, e3]
  rw [e2] at h
  split <;> omega
theorem mul_bd16 (x y : Int) (hx : -32768 ≤ x ∧ x ≤ 32767) (hy : -32768 ≤ y ∧ y ≤ 32767) : -1073741824 ≤ x * y ∧ x * y ≤ 1073741824 := by
  have h1 : (x * y).natAbs = x.natAbs * y.natAbs := Int.natAbs_mul x y
  have h2 : x.natAbs * y.natAbs ≤ 32768 * 32768 := Nat.mul_le_mul (by omega) (by omega)
  omega
end Pl
namespace Pl
open Go
theorem q15_hi (a b : Vec) (k : Nat) (p : Int) (hp : p = sgn 16 (getN a 16 k) * sgn 16 (getN b 16 k)) (h : 32767 < (p + 16384) / 32768) : (32767 : Int) = ((q15N a b k : Nat) : Int) := by
  unfold q15N
  rw [← hp, Int.min_def, if_neg (by omega)]
  rfl
theorem q15_lo (a b : Vec) (k : Nat) (p : Int) (hp : p = sgn 16 (getN a 16 k) * sgn 16 (getN b 16 k)) (h : ¬ 32767 < (p + 16384) / 32768) : IntKind.u64.wrap ((p + 16384) / 32768) = ((q15N a b k : Nat) : Int) := by
  unfold q15N
  rw [← hp, Int.min_def, if_pos (by omega), wrap_u64]
theorem dot_wrap (a b : Vec) (k : Nat) : IntKind.u64.wrap (RowKit.wrap64 (RowKit.wrap64 (sgn 16 (getN a 16 (2 * k)) * sgn 16 (getN b 16 (2 * k))) + RowKit.wrap64 (sgn 16 (getN a 16 (2 * k + 1)) * sgn 16 (getN b 16 (2 * k + 1))))) = ((dotN a b k : Nat) : Int) := by
  have h1 := mul_bd16 _ _ (sgn_bd16 _ (getN_lt a 16 (2 * k))) (sgn_bd16 _ (getN_lt b 16 (2 * k)))
  have h2 := mul_bd16 _ _ (sgn_bd16 _ (getN_lt a 16 (2 * k + 1))) (sgn_bd16 _ (getN_lt b 16 (2 * k + 1)))
  rw [IntWalk.wrap64_in (sgn 16 (getN a 16 (2 * k)) * _) (by omega), IntWalk.wrap64_in (sgn 16 (getN a 16 (2 * k + 1)) * _) (by omega), IntWalk.wrap64_in _ (by omega), wrap_u64]
  rfl
end Pl
namespace Pl
/-- Instructions on two vectors: the result and the error's number. -/
def binW (op : Int) (a b : Vec) : Vec × Int :=
  if 64924 ≤ op ∧ op < 64928 then (buildOn 0 16 (mulN 8 (op - 64924).toNat a b) 8, 0)
  else if 64956 ≤ op ∧ op < 64960 then (buildOn 0 32 (mulN 16 (op - 64956).toNat a b) 4, 0)
  else if 64988 ≤ op ∧ op < 64992 then (buildOn 0 64 (mulN 32 (op - 64988).toNat a b) 2, 0)
  else if op = 64869 then (nbuild 8 8 (holdN (-128) 127 16 a) (holdN (-128) 127 16 b) 8, 0)
  else if op = 64870 then (nbuild 8 8 (holdN 0 255 16 a) (holdN 0 255 16 b) 8, 0)
  else if op = 64901 then (nbuild 16 4 (holdN (-32768) 32767 32 a) (holdN (-32768) 32767 32 b) 4, 0)
  else if op = 64902 then (nbuild 16 4 (holdN 0 65535 32 a) (holdN 0 65535 32 b) 4, 0)
  else if op = 64898 then (buildOn 0 16 (q15N a b) 8, 0)
  else if op = 64954 then (buildOn 0 32 (dotN a b) 4, 0)
  else (0, 1)
end Pl
namespace Pl
/-- Lane i of what is narrowed: of the first vector, then of the second. -/
def rnarN (w n : Nat) (lo hi : Int) (a b : Vec) (i : Nat) : Nat := u64 (min (max (if i < n then sgn (2 * w) (getN a (2 * w) i) else sgn (2 * w) (getN b (2 * w) (i - n))) lo) hi)
end Pl
namespace Pl
theorem rnar_a (w n : Nat) (lo hi : Int) (a b : Vec) (i : Nat) (h : i < n) : rnarN w n lo hi a b i = u64 (min (max (sgn (2 * w) (getN a (2 * w) i)) lo) hi) := by
  unfold rnarN; rw [if_pos h]
theorem rnar_b (w n : Nat) (lo hi : Int) (a b : Vec) (i : Nat) (h : n ≤ i) : rnarN w n lo hi a b i = u64 (min (max (sgn (2 * w) (getN b (2 * w) (i - n))) lo) hi) := by
  unfold rnarN; rw [if_neg (by omega)]
end Pl
namespace Pl
open Go
/-- The rounded product held to both ends. -/
def rq15N (a b : Vec) (i : Nat) : Nat := u64 (min (max ((sgn 16 (getN a 16 i) * sgn 16 (getN b 16 i) + 16384) / 32768) (-32768)) 32767)
end Pl
namespace Pl
open Go
theorem tdiv_floor (s : Int) : s.tdiv 32768 = if 0 ≤ s ∨ s % 32768 = 0 then s / 32768 else s / 32768 + 1 := by
  rw [Int.tdiv_eq_ediv]
  by_cases h : 0 ≤ s
  · rw [if_pos (Or.inl h), if_pos (Or.inl h)]; omega
  · by_cases h2 : s % 32768 = 0
    · rw [if_pos (Or.inr (Int.dvd_of_emod_eq_zero h2)), if_pos (Or.inr h2)]; omega
    · rw [if_neg (fun hh => hh.elim h (fun hd => h2 (Int.emod_eq_zero_of_dvd hd))), if_neg (fun hh => hh.elim h h2)]; rfl
theorem tmod_zero (s : Int) : s.tmod 32768 = 0 ↔ s % 32768 = 0 := by
  rw [Int.tmod_def, tdiv_floor]
  split <;> omega
theorem rq_neg (s : Int) (hs : -2147483648 ≤ s ∧ s ≤ 2147483648) (hm : s < 0) (ht : (s.tmod 32768 != 0) = true) : RowKit.wrap64 (s.tdiv 32768 - 1) = s / 32768 := by
  have h2 : ¬ s % 32768 = 0 := fun h => by rw [(tmod_zero s).2 h] at ht; exact absurd ht (by decide)
  rw [tdiv_floor, if_neg (by omega), IntWalk.wrap64_in _ (by omega)]
  omega
theorem rq_neg0 (s : Int) (ht : (s.tmod 32768 != 0) = false) : s.tdiv 32768 = s / 32768 := by
  have h2 : s % 32768 = 0 := (tmod_zero s).1 (by simpa using ht)
  rw [tdiv_floor, if_pos (Or.inr h2)]
theorem rq_pos (s : Int) (hm : ¬ s < 0) : s.tdiv 32768 = s / 32768 := by
  rw [tdiv_floor, if_pos (Or.inl (by omega))]
theorem rq_fold (a b : Vec) (k : Nat) (p : Int) (hp : p = sgn 16 (getN a 16 k) * sgn 16 (getN b 16 k)) : rq15N a b k = u64 (min (max ((p + 16384) / 32768) (-32768)) 32767) := by
  subst hp; rfl
end Pl
namespace Pl
open Go
/-- The lanes' sums, product after product. -/
def rdot (a b : Vec) : Nat → Vec
  | 0 => 0
  | k + 1 => setN (rdot a b k) 32 (k / 2) (rdN a b (rdot a b k) k)
where rdN (a b o : Vec) (k : Nat) : Nat := (getN o 32 (k / 2) + u64 (sgn 16 (getN a 16 k) * sgn 16 (getN b 16 k))) % 2 ^ 64
end Pl
namespace Pl
open Go
theorem rdot_wrap (a b o : Vec) (k : Nat) : IntKind.u64.wrap ((getN o 32 (k / 2) : Int) + IntKind.u64.wrap (RowKit.wrap64 (sgn 16 (getN a 16 k) * sgn 16 (getN b 16 k)))) = ((rdot.rdN a b o k : Nat) : Int) := by
  have h1 := mul_bd16 _ _ (sgn_bd16 _ (getN_lt a 16 k)) (sgn_bd16 _ (getN_lt b 16 k))
  rw [IntWalk.wrap64_in _ (by omega), wrap_u64, wrap_u64]
  unfold rdot.rdN
  unfold u64
  omega
end Pl
namespace Pl
/-- The product of two lanes. -/
def rmulN (w : Nat) (x y : Vec) (i : Nat) : Nat := getN x w i * getN y w i % 2 ^ 64
end Pl
namespace Pl
open Go Go.RowKit
theorem heap_alloc6 (w : World) (A B C D E F : Obj) : ∃ W, W = ((((((w.alloc A).alloc B).alloc C).alloc D).alloc E).alloc F) ∧ W.heap[w.heap.size]? = some A ∧ W.heap[w.heap.size + 1]? = some B ∧ W.heap[w.heap.size + 2]? = some C ∧ W.heap[w.heap.size + 3]? = some D ∧ W.heap[w.heap.size + 4]? = some E ∧ W.heap[w.heap.size + 5]? = some F ∧ Below w.heap.size w W := by
  refine ⟨_, rfl, ?_, ?_, ?_, ?_, ?_, ?_, ?_⟩
  · rw [heap_alloc_old _ _ (by simp; omega), heap_alloc_old _ _ (by simp; omega), heap_alloc4_0]
  · rw [heap_alloc_old _ _ (by simp), heap_alloc_old _ _ (by simp), heap_alloc4_1]
  · rw [heap_alloc_old _ _ (by simp), heap_alloc_old _ _ (by simp), heap_alloc4_2]
  · rw [heap_alloc_old _ _ (by simp), heap_alloc_old _ _ (by simp), heap_alloc4_3]
  · rw [heap_alloc_old _ _ (by simp)]
    have := heap_alloc_new ((((w.alloc A).alloc B).alloc C).alloc D) E
    simpa using this
  · have := heap_alloc_new (((((w.alloc A).alloc B).alloc C).alloc D).alloc E) F
    simpa using this
  · exact ((below_alloc4 w A B C D).alloc (by simp; omega) _).alloc (by simp; omega) _
end Pl
