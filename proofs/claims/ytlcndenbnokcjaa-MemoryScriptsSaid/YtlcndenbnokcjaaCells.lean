/-
  How a vector lies in memory: its sixteen cells; the laws of a load and a store of a whole vector, and of one byte.
-/
import Derived.Test.YtlcndenbnokcjaaRows
import Derived.Test.YtlcndenbnokcjaaVec
import Derived.WalkKit
import Derived.WalkSpells
import Derived.WalkLawsBesides
import Derived.Deep.MidRow
import Derived.Lib.Hide
import Derived.Handy
set_option linter.unusedSimpArgs false
set_option linter.unusedVariables false
namespace Pl
open Go

/-- The byte at place j, as a value. -/
def byteV (v : Vec) (j : Nat) : Value := .int .u8 (bitsAt v (8 * j) 8 : Nat)
/-- The sixteen cells of a vector. -/
def cells (v : Vec) : Array Value := ((List.range 16).map (byteV v)).toArray

@[simp] theorem size_cells (v : Vec) : (cells v).size = 16 := by simp [cells]
theorem getElem?_cells (v : Vec) (j : Nat) (h : j < 16) : (cells v)[j]? = some (byteV v j) := by simp [cells, h]
theorem all_cells (v : Vec) : (cells v).all (·.oneCell') = true := by
  simp [cells, byteV, Value.oneCell']
theorem set_cells (v : Vec) (j n : Nat) (h : j < 16) : (cells v).setIfInBounds j (.int .u8 ((n % 256 : Nat) : Int)) = cells (putAt v (8 * j) 8 n) := by
  apply Array.ext_getElem?
  intro k
  by_cases hk : k < 16
  · rw [getElem?_cells _ _ hk, Array.getElem?_setIfInBounds]
    by_cases e : j = k
    · subst e
      rw [if_pos rfl, if_pos (by simpa using h)]
      unfold byteV
      rw [bitsAt_putAt_same _ _ _ _ (by omega)]
    · rw [if_neg e, getElem?_cells _ _ hk]
      unfold byteV
      rw [bitsAt_putAt_other _ _ _ _ _ _ (by omega) (by omega)]
  · rw [Array.getElem?_eq_none (by simp; omega), Array.getElem?_eq_none (by simp; omega)]

theorem cells_inj {u v : Vec} (h : cells u = cells v) : u = v := by
  refine lanes_ext 8 16 (by decide) (by decide) fun i hi => ?_
  have := congrArg (fun a => a[i]?) h
  simp only [getElem?_cells _ _ hi, byteV, Option.some.injEq, Value.int.injEq, true_and] at this
  exact_mod_cast this

theorem cells_zero : cells 0 = #[.int .u8 0, .int .u8 0, .int .u8 0, .int .u8 0, .int .u8 0, .int .u8 0, .int .u8 0, .int .u8 0, .int .u8 0, .int .u8 0, .int .u8 0, .int .u8 0, .int .u8 0, .int .u8 0, .int .u8 0, .int .u8 0] := by
  simp [cells, byteV, bitsAt, List.range, List.range.loop]

theorem or_step (v : Vec) (s k : Nat) (hk : k < 8) : bits BinOp.or IntKind.u64 (↑(bitsAt v (8 * s) (8 * k)))
    (IntKind.u64.wrap (IntKind.u64.wrap ↑(bitsAt v (8 * (s + k)) 8) * 2 ^ (8 * k))) = ((bitsAt v (8 * s) (8 * (k + 1)) : Nat) : Int) := by
  have h1 := bitsAt_lt v (8 * (s + k)) 8
  have h2 := bitsAt_lt v (8 * s) (8 * k)
  have hp : (2 : Nat) ^ (8 * k) * 256 ≤ 18446744073709551616 := by
    have := Nat.pow_le_pow_right (show 0 < 2 by decide) (show 8 * k + 8 ≤ 64 by omega)
    rw [Nat.pow_add] at this
    simpa using this
  have h3 : bitsAt v (8 * (s + k)) 8 * 2 ^ (8 * k) < 18446744073709551616 := by
    have := Nat.mul_le_mul_right (2 ^ (8 * k)) (show bitsAt v (8 * (s + k)) 8 ≤ 255 by omega)
    have h0 : 0 < 2 ^ (8 * k) := Nat.two_pow_pos _
    omega
  have e1 : IntKind.u64.wrap ((bitsAt v (8 * (s + k)) 8 : Nat) : Int) = ((bitsAt v (8 * (s + k)) 8 : Nat) : Int) := IntWalk.u64_in _ (by omega)
  have e2 : ((bitsAt v (8 * (s + k)) 8 : Nat) : Int) * 2 ^ (8 * k) = ((bitsAt v (8 * (s + k)) 8 * 2 ^ (8 * k) : Nat) : Int) := by simp
  rw [e1, e2, IntWalk.u64_in _ (by omega), u64_or_nat _ _ (by have : 0 < 2 ^ (8 * k) := Nat.two_pow_pos _; omega) h3]
  congr 1
  apply Nat.eq_of_testBit_eq
  intro j
  rw [← Nat.shiftLeft_eq, Nat.testBit_or, Nat.testBit_shiftLeft, testBit_bitsAt, testBit_bitsAt, testBit_bitsAt]
  by_cases hj : 8 * k ≤ j
  · have e : 8 * (s + k) + (j - 8 * k) = 8 * s + j := by omega
    rw [e]
    by_cases hj2 : j < 8 * (k + 1)
    · simp [hj, hj2, show j - 8 * k < 8 by omega]
    · simp [hj2, show ¬ j - 8 * k < 8 by omega, show ¬ j < 8 * k by omega]
  · simp [hj, show j < 8 * (k + 1) by omega, show j < 8 * k by omega]

/-- How many lanes of a width there are. -/
def lanesOf (w : Int) : Int := if w = 8 then 16 else if w = 16 then 8 else if w = 32 then 4 else if w = 64 then 2 else 0
open Go.RowKit
theorem sgn_8 (n : Nat) (h : n < 2 ^ 8) : wrap64 (wrap64 ↑n * 72057594037927936) / 72057594037927936 = sgn 8 n := by unfold wrap64 sgn; simp at h; simp; split <;> omega
theorem sgn_16 (n : Nat) (h : n < 2 ^ 16) : wrap64 (wrap64 ↑n * 281474976710656) / 281474976710656 = sgn 16 n := by unfold wrap64 sgn; simp at h; simp; split <;> omega
theorem sgn_32 (n : Nat) (h : n < 2 ^ 32) : wrap64 (wrap64 ↑n * 4294967296) / 4294967296 = sgn 32 n := by unfold wrap64 sgn; simp at h; simp; split <;> omega
theorem sgn_64 (n : Nat) (h : n < 2 ^ 64) : wrap64 (wrap64 ↑n) = sgn 64 n := by unfold wrap64 sgn; simp at h; simp; split <;> omega
theorem get_step (X c : Nat) (hc : c < 2 ^ 8) (h : X * 256 + 256 ≤ 18446744073709551616) :
    Value.int IntKind.u64 (IntKind.u64.wrap (IntKind.u64.wrap ((X : Int) * 256) + IntKind.u64.wrap (c : Int))) = .int .u64 ((X * 256 + c : Nat) : Int) := by
  rw [IntWalk.u64_in ((X : Int) * 256) (by omega), IntWalk.u64_in (c : Int) (by omega), IntWalk.u64_in _ (by omega)]
  simp
theorem u64_div (X d : Nat) (h : X < 2 ^ 64) : IntKind.u64.wrap ((X : Int) / (d : Int)) = ((X / d : Nat) : Int) := by
  have h1 : X / d < 2 ^ 64 := Nat.lt_of_le_of_lt (Nat.div_le_self X d) h
  have e : (X : Int) / (d : Int) = ((X / d : Nat) : Int) := by simp
  rw [e]
  generalize X / d = q at *
  exact IntWalk.u64_in _ (by omega)
theorem u64_div256 (X : Nat) (h : X < 2 ^ 64) : IntKind.u64.wrap ((X : Int) / 256) = ((X / 256 : Nat) : Int) := u64_div X 256 h
/-- An integer as an unsigned number of 64 bits. -/
def u64 (z : Int) : Nat := (z % 18446744073709551616).toNat
theorem wrap_u64 (z : Int) : IntKind.u64.wrap z = (u64 z : Int) := by rw [IntKind.wrap_u64]; unfold u64; omega
theorem u64_lt (z : Int) : u64 z < 2 ^ 64 := by unfold u64; omega
theorem u64_nat (n : Nat) (h : n < 2 ^ 64) : u64 (n : Int) = n := by unfold u64; omega
theorem heap_alloc3_0 (w : World) (A B C : Obj) : (((w.alloc A).alloc B).alloc C).heap[w.heap.size]? = some A := by
  rw [heap_alloc_old _ _ (by simp; omega), heap_alloc2_old]
theorem heap_alloc3_1 (w : World) (A B C : Obj) : (((w.alloc A).alloc B).alloc C).heap[w.heap.size + 1]? = some B := by
  rw [heap_alloc_old _ _ (by simp), heap_alloc2_new]
theorem heap_alloc3_2 (w : World) (A B C : Obj) : (((w.alloc A).alloc B).alloc C).heap[w.heap.size + 2]? = some C := by
  have := heap_alloc_new ((w.alloc A).alloc B) C
  simpa using this
theorem heap_alloc4_0 (w : World) (A B C D : Obj) : ((((w.alloc A).alloc B).alloc C).alloc D).heap[w.heap.size]? = some A := by
  rw [heap_alloc_old _ _ (by simp; omega), heap_alloc3_0]
theorem heap_alloc4_1 (w : World) (A B C D : Obj) : ((((w.alloc A).alloc B).alloc C).alloc D).heap[w.heap.size + 1]? = some B := by
  rw [heap_alloc_old _ _ (by simp), heap_alloc3_1]
theorem heap_alloc4_2 (w : World) (A B C D : Obj) : ((((w.alloc A).alloc B).alloc C).alloc D).heap[w.heap.size + 2]? = some C := by
  rw [heap_alloc_old _ _ (by simp), heap_alloc3_2]
theorem heap_alloc4_3 (w : World) (A B C D : Obj) : ((((w.alloc A).alloc B).alloc C).alloc D).heap[w.heap.size + 3]? = some D := by
  have := heap_alloc_new (((w.alloc A).alloc B).alloc C) D
  simpa using this
theorem below_alloc3 (w : World) (A B C : Obj) : Below w.heap.size w (((w.alloc A).alloc B).alloc C) := (((Below.refl _ _).alloc (Nat.le_refl _) _).alloc (by simp) _).alloc (by simp; omega) _
theorem below_alloc4 (w : World) (A B C D : Obj) : Below w.heap.size w ((((w.alloc A).alloc B).alloc C).alloc D) := (below_alloc3 w A B C).alloc (by simp; omega) _
end Pl
