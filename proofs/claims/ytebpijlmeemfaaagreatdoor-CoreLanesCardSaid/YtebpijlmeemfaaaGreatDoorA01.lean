/- A part of the proof that plaittop.CoreLanes returns true. -/
import Derived.Test.YtebpijlmeemfaaaGreatDoorRows
import Derived.WalkKit
import Derived.WalkSpells
import Derived.WalkLawsBesides
import Derived.Deep.MidRow
import Derived.Lib.Hide
import Derived.Handy
import Derived.StillTail
set_option linter.all false
set_option linter.unusedSectionVars false
set_option linter.unusedSimpArgs false
set_option linter.unusedVariables false
theorem zqA {α : Type _} {l : List α} {i : Nat} {a : α} : l.toArray.setIfInBounds i a = (l.set i a).toArray := List.setIfInBounds_toArray ..
theorem zqB {α : Type _} {a b : α} {l : List α} : (a :: l).set 0 b = b :: l := List.set_cons_zero
theorem zqC {α : Type _} {a b : α} {n : Nat} {l : List α} : (a :: l).set (n + 1) b = a :: l.set n b := List.set_cons_succ
section
namespace Pl
abbrev Vec := BitVec 128
def bitsAt (v : Vec) (s l : Nat) : Nat := v.toNat / 2 ^ s % 2 ^ l
def putAt (v : Vec) (s l x : Nat) : Vec := BitVec.ofNat 128 (v.toNat ^^^ ((bitsAt v s l ^^^ x % 2 ^ l) <<< s))
theorem testBit_bitsAt (v : Vec) (s l j : Nat) : (bitsAt v s l).testBit j = (decide (j < l) && v.toNat.testBit (s + j)) := by
 unfold bitsAt
 rw [Nat.testBit_mod_two_pow, Nat.testBit_div_two_pow, Nat.add_comm]
theorem testBit_high (v : Vec) (j : Nat) (h : 128 ≤ j) : v.toNat.testBit j = false :=
 Nat.testBit_lt_two_pow (Nat.lt_of_lt_of_le v.isLt (Nat.pow_le_pow_right (by decide) h))
theorem testBit_putAt (v : Vec) (s l x j : Nat) (h : s + l ≤ 128) :
  (putAt v s l x).toNat.testBit j = if s ≤ j ∧ j < s + l then x.testBit (j - s) else v.toNat.testBit j := by
 unfold putAt
 rw [BitVec.toNat_ofNat, Nat.testBit_mod_two_pow, Nat.testBit_xor, Nat.testBit_shiftLeft, Nat.testBit_xor, testBit_bitsAt, Nat.testBit_mod_two_pow]
 by_cases h1 : s ≤ j
 ·have e : s + (j - s) = j := by omega
  rw [e]
  by_cases h2 : j < s + l
  ·have h3 : j - s < l := by omega
   have h4 : j < 128 := by omega
   simp [h1, h2, h3, h4]
  ·have h3 : ¬ (j - s < l) := by omega
   by_cases h4 : j < 128
   ·simp [h1, h2, h3, h4]
   ·simp [h1, h2, h3, h4, testBit_high v j (by omega)]
 ·by_cases h4 : j < 128
  ·simp [h1, h4]
  ·omega
theorem vec_ext {u v : Vec} (h : ∀ j, j < 128 → u.toNat.testBit j = v.toNat.testBit j) : u = v := by
 apply BitVec.eq_of_toNat_eq
 apply Nat.eq_of_testBit_eq
 intro j
 by_cases hj : j < 128
 ·exact h j hj
 ·rw [testBit_high u j (by omega), testBit_high v j (by omega)]
theorem bitsAt_lt (v : Vec) (s l : Nat) : bitsAt v s l < 2 ^ l := Nat.mod_lt _ (Nat.two_pow_pos _)
theorem bitsAt_putAt_same (v : Vec) (s l x : Nat) (h : s + l ≤ 128) : bitsAt (putAt v s l x) s l = x % 2 ^ l := by
 apply Nat.eq_of_testBit_eq
 intro j
 rw [testBit_bitsAt, testBit_putAt _ _ _ _ _ h, Nat.testBit_mod_two_pow]
 by_cases hj : j < l
 ·rw [if_pos ⟨by omega, by omega⟩]
  simp [hj, show s + j - s = j by omega]
 ·simp [hj]
theorem bitsAt_putAt_other (v : Vec) (s l x s' l' : Nat) (h : s + l ≤ 128) (hd : s' + l' ≤ s ∨ s + l ≤ s') : bitsAt (putAt v s l x) s' l' = bitsAt v s' l' := by
 apply Nat.eq_of_testBit_eq
 intro j
 rw [testBit_bitsAt, testBit_bitsAt, testBit_putAt _ _ _ _ _ h]
 by_cases hj : j < l'
 ·rw [if_neg (by omega)]
 ·simp [hj]
theorem putAt_zero (v : Vec) (s x : Nat) (h : s ≤ 128) : putAt v s 0 x = v := by
 apply vec_ext
 intro j _
 rw [testBit_putAt _ _ _ _ _ (by omega), if_neg (by omega)]
theorem putAt_more (v : Vec) (s l m x : Nat) (h : s + l + m ≤ 128) : putAt (putAt v s l x) (s + l) m (x / 2 ^ l) = putAt v s (l + m) x := by
 apply vec_ext
 intro j _
 rw [testBit_putAt _ _ _ _ _ h, testBit_putAt _ _ _ _ _ (by omega), testBit_putAt _ _ _ _ _ (by omega), Nat.testBit_div_two_pow]
 by_cases h1 : s + l ≤ j ∧ j < s + l + m
 ·rw [if_pos h1, if_pos ⟨by omega, by omega⟩, show j - (s + l) + l = j - s by omega]
 ·rw [if_neg h1]
  by_cases h2 : s ≤ j ∧ j < s + l
  ·rw [if_pos h2, if_pos ⟨by omega, by omega⟩]
  ·rw [if_neg h2, if_neg (by omega)]
def getN (v : Vec) (w i : Nat) : Nat := bitsAt v (w * i) w
def setN (v : Vec) (w i x : Nat) : Vec := putAt v (w * i) w x
theorem getN_lt (v : Vec) (w i : Nat) : getN v w i < 2 ^ w := bitsAt_lt _ _ _
theorem lane_in {w i : Nat} (h : i < 128 / w) : w * i + w ≤ 128 := by
 have h1 : i + 1 ≤ 128 / w := h
 have h2 := Nat.mul_le_mul_left w h1
 have h3 := Nat.mul_div_le 128 w
 rw [Nat.mul_add, Nat.mul_one] at h2
 omega
theorem getN_setN_same (v : Vec) (w i x : Nat) (h : i < 128 / w) : getN (setN v w i x) w i = x % 2 ^ w :=
 bitsAt_putAt_same _ _ _ _ (lane_in h)
theorem getN_setN_other (v : Vec) (w i j x : Nat) (h : i < 128 / w) (hij : j ≠ i) : getN (setN v w i x) w j = getN v w j := by
 unfold getN setN
 refine bitsAt_putAt_other _ _ _ _ _ _ (lane_in h) ?_
 rcases Nat.lt_or_gt_of_ne hij with h1 | h1
 ·left
  have := Nat.mul_le_mul_left w (show j + 1 ≤ i from h1)
  rw [Nat.mul_add, Nat.mul_one] at this
  exact this
 ·right
  have := Nat.mul_le_mul_left w (show i + 1 ≤ j from h1)
  rw [Nat.mul_add, Nat.mul_one] at this
  exact this
theorem getN_setN (v : Vec) (w i j x : Nat) (h : i < 128 / w) : getN (setN v w i x) w j = if j = i then x % 2 ^ w else getN v w j := by
 split
 ·subst j; exact getN_setN_same v w i x h
 ·exact getN_setN_other v w i j x h ‹_›
theorem lanes_ext {u v : Vec} (w n : Nat) (hw : 0 < w) (hn : w * n = 128) (h : ∀ i, i < n → getN u w i = getN v w i) : u = v := by
 apply vec_ext
 intro j hj
 have hi : j / w < n := by
  rw [Nat.div_lt_iff_lt_mul hw, Nat.mul_comm]; omega
 have e := congrArg (fun n => n.testBit (j % w)) (h (j / w) hi)
 simp only [getN, testBit_bitsAt, Nat.div_add_mod] at e
 simpa [Nat.mod_lt j hw] using e
def buildOn (v : Vec) (w : Nat) (f : Nat → Nat) : Nat → Vec
 | 0 => v
 | n + 1 => setN (buildOn v w f n) w n (f n)
theorem getN_buildOn (v : Vec) (w : Nat) (f : Nat → Nat) (n j : Nat) (h : n ≤ 128 / w) : getN (buildOn v w f n) w j = if j < n then f j % 2 ^ w else getN v w j := by
 induction n with
 | zero => simp [buildOn]
 | succ n ih =>
  rw [buildOn, getN_setN _ _ _ _ _ (by omega), ih (by omega)]
  by_cases h1 : j = n
  ·subst h1; simp
  ·rw [if_neg h1]
   by_cases h2 : j < n
   ·rw [if_pos h2, if_pos (by omega)]
   ·rw [if_neg h2, if_neg (by omega)]
def sgn (w n : Nat) : Int := if n < 2 ^ (w - 1) then n else (n : Int) - 2 ^ w
end Pl
end
section
namespace Pl
open Go
def byteV (v : Vec) (j : Nat) : Value := .int .u8 (bitsAt v (8 * j) 8 : Nat)
def cells (v : Vec) : Array Value := ((List.range 16).map (byteV v)).toArray
@[simp] theorem size_cells (v : Vec) : (cells v).size = 16 := by simp [cells]
theorem getElem?_cells (v : Vec) (j : Nat) (h : j < 16) : (cells v)[j]? = some (byteV v j) := by simp [cells, h]
theorem all_cells (v : Vec) : (cells v).all (·.oneCell') = true := by
 simp [cells, byteV, Value.oneCell']
theorem set_cells (v : Vec) (j n : Nat) (h : j < 16) : (cells v).setIfInBounds j (.int .u8 ((n % 256 : Nat) : Int)) = cells (putAt v (8 * j) 8 n) := by
 apply Array.ext_getElem?
 intro k
 by_cases hk : k < 16
 ·rw [getElem?_cells _ _ hk, Array.getElem?_setIfInBounds]
  by_cases e : j = k
  ·subst e
   rw [if_pos rfl, if_pos (by simpa using h)]
   unfold byteV
   rw [bitsAt_putAt_same _ _ _ _ (by omega)]
  ·rw [if_neg e, getElem?_cells _ _ hk]
   unfold byteV
   rw [bitsAt_putAt_other _ _ _ _ _ _ (by omega) (by omega)]
 ·rw [Array.getElem?_eq_none (by simp; omega), Array.getElem?_eq_none (by simp; omega)]
theorem cells_zero : cells 0 = #[.int .u8 0, .int .u8 0, .int .u8 0, .int .u8 0, .int .u8 0, .int .u8 0, .int .u8 0, .int .u8 0, .int .u8 0, .int .u8 0, .int .u8 0, .int .u8 0, .int .u8 0, .int .u8 0, .int .u8 0, .int .u8 0] := by
 simp [cells, byteV, bitsAt, List.range, List.range.loop]
theorem or_step (v : Vec) (s k : Nat) (hk : k < 8) : bits BinOp.or IntKind.u64 (↑(bitsAt v (8 * s) (8 * k)))
  (IntKind.u64.wrap (IntKind.u64.wrap ↑(bitsAt v (8 * (s + k)) 8) * 2 ^ (8 * k))) = ((bitsAt v (8 * s) (8 * (k + 1)) : Nat) : Int) := by
 have h1 := bitsAt_lt v (8 * (s + k)) 8
 have h2 := bitsAt_lt v (8 * s) (8 * k)
 have hp : (2 : Nat) ^ (8 * k) * 256 ≤ 18446744073709551616 := by
  have := Nat.pow_le_pow_right (show 0 < 2 by decide) (show 8 * k + 8 ≤ 64 by omega)
  rw [Nat.pow_add] at this
  simpa using this
 have h3 : bitsAt v (8 * (s + k)) 8 * 2 ^ (8 * k) < 18446744073709551616 := by
  have := Nat.mul_le_mul_right (2 ^ (8 * k)) (show bitsAt v (8 * (s + k)) 8 ≤ 255 by omega)
  have h0 : 0 < 2 ^ (8 * k) := Nat.two_pow_pos _
  omega
 have e1 : IntKind.u64.wrap ((bitsAt v (8 * (s + k)) 8 : Nat) : Int) = ((bitsAt v (8 * (s + k)) 8 : Nat) : Int) := IntWalk.u64_in _ (by omega)
 have e2 : ((bitsAt v (8 * (s + k)) 8 : Nat) : Int) * 2 ^ (8 * k) = ((bitsAt v (8 * (s + k)) 8 * 2 ^ (8 * k) : Nat) : Int) := by simp
 rw [e1, e2, IntWalk.u64_in _ (by omega), u64_or_nat _ _ (by have : 0 < 2 ^ (8 * k) := Nat.two_pow_pos _; omega) h3]
 congr 1
 apply Nat.eq_of_testBit_eq
 intro j
 rw [← Nat.shiftLeft_eq, Nat.testBit_or, Nat.testBit_shiftLeft, testBit_bitsAt, testBit_bitsAt, testBit_bitsAt]
 by_cases hj : 8 * k ≤ j
 ·have e : 8 * (s + k) + (j - 8 * k) = 8 * s + j := by omega
  rw [e]
  by_cases hj2 : j < 8 * (k + 1)
  ·simp [hj, hj2, show j - 8 * k < 8 by omega]
  ·simp [hj2, show ¬ j - 8 * k < 8 by omega, show ¬ j < 8 * k by omega]
 ·simp [hj, show j < 8 * (k + 1) by omega, show j < 8 * k by omega]
def lanesOf (w : Int) : Int := if w = 8 then 16 else if w = 16 then 8 else if w = 32 then 4 else if w = 64 then 2 else 0
open Go.RowKit
theorem sgn_8 (n : Nat) (h : n < 2 ^ 8) : wrap64 (wrap64 ↑n * 72057594037927936) / 72057594037927936 = sgn 8 n := by unfold wrap64 sgn; simp at h; simp; split <;> omega
theorem sgn_16 (n : Nat) (h : n < 2 ^ 16) : wrap64 (wrap64 ↑n * 281474976710656) / 281474976710656 = sgn 16 n := by unfold wrap64 sgn; simp at h; simp; split <;> omega
theorem sgn_32 (n : Nat) (h : n < 2 ^ 32) : wrap64 (wrap64 ↑n * 4294967296) / 4294967296 = sgn 32 n := by unfold wrap64 sgn; simp at h; simp; split <;> omega
theorem sgn_64 (n : Nat) (h : n < 2 ^ 64) : wrap64 (wrap64 ↑n) = sgn 64 n := by unfold wrap64 sgn; simp at h; simp; split <;> omega
def u64 (z : Int) : Nat := (z % 18446744073709551616).toNat
theorem wrap_u64 (z : Int) : IntKind.u64.wrap z = (u64 z : Int) := by rw [IntKind.wrap_u64]; unfold u64; omega
theorem heap_alloc3_0 (w : World) (A B C : Obj) : (((w.alloc A).alloc B).alloc C).heap[w.heap.size]? = some A := by
 rw [heap_alloc_old _ _ (by simp; omega), heap_alloc2_old]
theorem heap_alloc3_1 (w : World) (A B C : Obj) : (((w.alloc A).alloc B).alloc C).heap[w.heap.size + 1]? = some B := by
 rw [heap_alloc_old _ _ (by simp), heap_alloc2_new]
theorem heap_alloc3_2 (w : World) (A B C : Obj) : (((w.alloc A).alloc B).alloc C).heap[w.heap.size + 2]? = some C := by
 have := heap_alloc_new ((w.alloc A).alloc B) C
 simpa using this
theorem heap_alloc4_0 (w : World) (A B C D : Obj) : ((((w.alloc A).alloc B).alloc C).alloc D).heap[w.heap.size]? = some A := by
 rw [heap_alloc_old _ _ (by simp; omega), heap_alloc3_0]
theorem heap_alloc4_1 (w : World) (A B C D : Obj) : ((((w.alloc A).alloc B).alloc C).alloc D).heap[w.heap.size + 1]? = some B := by
 rw [heap_alloc_old _ _ (by simp), heap_alloc3_1]
theorem heap_alloc4_2 (w : World) (A B C D : Obj) : ((((w.alloc A).alloc B).alloc C).alloc D).heap[w.heap.size + 2]? = some C := by
 rw [heap_alloc_old _ _ (by simp), heap_alloc3_2]
theorem heap_alloc4_3 (w : World) (A B C D : Obj) : ((((w.alloc A).alloc B).alloc C).alloc D).heap[w.heap.size + 3]? = some D := by
 have := heap_alloc_new (((w.alloc A).alloc B).alloc C) D
 simpa using this
theorem below_alloc3 (w : World) (A B C : Obj) : Below w.heap.size w (((w.alloc A).alloc B).alloc C) := (((Below.refl _ _).alloc (Nat.le_refl _) _).alloc (by simp) _).alloc (by simp; omega) _
theorem below_alloc4 (w : World) (A B C D : Obj) : Below w.heap.size w ((((w.alloc A).alloc B).alloc C).alloc D) := (below_alloc3 w A B C).alloc (by simp; omega) _
end Pl
end
section
namespace Pl
open Go
section
variable {P : Program} {ops : Array Oper} {md : Region.Mode} {S : World → Prop}
def Does (P : Program) (ops : Array Oper) (S : World → Prop) (o : Oper) (v : Value) (a : Act) : Prop :=
 (Region.wanted o (yielded ops a.tmps) = true ∧ ∀ w, S w → ∃ w1,
  ((execOp a.eval o).run P w = .ok (.value v) w1 ∧ S w1) ∨ ((execOp a.eval o).run P w = .ok .skip w1 ∧ v = undef ∧ S w1) ∨
  ∃ f args, (execOp a.eval o).run P w = .ok (.enter f args) w1 ∧ Calls P f args w1 (fun e w2 => e = .returned v ∧ S w2)) ∨
 (Region.wanted o (yielded ops a.tmps) = false ∧ v = undef)
theorem Does.same {o : Oper} {v : Value} {a b : Act} (h : Does P ops S o v a) (he : execOp b.eval o = execOp a.eval o)
  (hw : Region.wanted o (yielded ops b.tmps) = Region.wanted o (yielded ops a.tmps)) : Does P ops S o v b := by
 unfold Does at *
 rw [he, hw]
 exact h
theorem Does.op {i : Nat} {o : Oper} {v : Value} {a : Act} {w : World} {K : Act → World → Prop} {Q : Exit → Act → World → Prop} (hi : ops[i]? = some o) (h : Does P ops S o v a) (hS : S w)
  (hk : ∀ w2, S w2 → K (a.put o.dst v) w2) : wpOp P ops Q i K a w := by
 unfold wpOp
 simp only [hi]
 rcases h with ⟨hw, hv⟩ | ⟨hw, rfl⟩
 ·rw [if_pos hw]
  refine .inl ?_
  unfold Oper.wp
  obtain ⟨w1, h1 | h1 | ⟨f, args, h1, h2⟩⟩ := hv w hS
  ·rw [h1.1]; exact hk _ h1.2
  ·rw [h1.1]; have := hk _ h1.2.2; rw [h1.2.1] at this; exact this
  ·rw [h1]
   exact h2.mono fun e w2 ⟨he, hs⟩ => by subst he; exact hk _ hs
 ·rw [if_neg (by rw [hw]; decide)]
  exact hk _ hS
def doOp (P : Program) (ops : Array Oper) (S : World → Prop) (i : Nat) (K : Act → Prop) (a : Act) : Prop := ∃ o v, ops[i]? = some o ∧ Does P ops S o v a ∧ K (a.put o.dst v)
theorem doOp_mono {i : Nat} {a : Act} {K K' : Act → Prop} (h : ∀ a, K a → K' a) (hh : doOp P ops S i K a) : doOp P ops S i K' a := by
 obtain ⟨o, v, h1, h2, h3⟩ := hh
 exact ⟨o, v, h1, h2, h _ h3⟩
theorem doOp_put {j : Nat} {oi oj : Oper} {v : Value} (hj : ops[j]? = some oj) (hap : oi.apart ops oj = true)
  (hsi : ∀ cs b, oi.op ≠ .select cs b) (hsj : ∀ cs b, oj.op ≠ .select cs b) {K : Act → Prop} {a : Act}
  (hy : Does P ops S oi v a) (h : doOp P ops S j K (a.put oi.dst v)) :
  doOp P ops S j (fun b => Does P ops S oi v b ∧ K (b.put oi.dst v)) a := by
 obtain ⟨h1, h2, h3⟩ := Oper.apart_spec hap
 obtain ⟨o, u, ho, hu, hK⟩ := h
 have : o = oj := Option.some.inj (ho.symm.trans hj)
 subst this
 refine ⟨o, u, ho, hu.same (execOp_put o hsj a oi.dst v h1).symm (wanted_put o a oi.dst v h1).symm, hy.same (execOp_put oi hsi a o.dst u h3) (wanted_put oi a o.dst u h3), ?_⟩
 rw [← Act.put_comm a v u h2]
 exact hK
def wpHead (P : Program) (md : Region.Mode) (ops : Array Oper) (S : World → Prop) (n : Nat) (L : Array Bool → Act → Prop) : Nat → Array Bool → Act → Prop
 | 0, listed, a => L listed a
 | f + 1, listed, a => Region.ready md ops listed ≠ [] ∧ ∀ i ∈ Region.ready md ops listed, i < n ∧ doOp P ops S i (wpHead P md ops S n L f (listed.setIfInBounds i true)) a
theorem any_of_head {n g : Nat} {L : Array Bool → Act → Prop} {Q : Exit → Act → World → Prop} (hL : ∀ listed a, L listed a → ∀ w, S w → wpAny P md ops Q g listed a w) :
  ∀ (f : Nat) (listed : Array Bool) (a : Act), wpHead P md ops S n L f listed a → ∀ w, S w → wpAny P md ops Q (f + g) listed a w
 | 0, listed, a, h, w, hS => by rw [Nat.zero_add]; exact hL _ _ h w hS
 | f + 1, listed, a, h, w, hS => by
  rw [show f + 1 + g = (f + g) + 1 by omega]
  refine ⟨fun h0 => absurd h0 h.1, fun i hi => ?_⟩
  obtain ⟨_, o, v, ho, hd, hk⟩ := h.2 i hi
  exact hd.op ho hS fun w2 hS2 => any_of_head hL f _ _ hk w2 hS2
theorem head_first {n i : Nat} {oi : Oper} {v : Value} {L : Array Bool → Act → Prop} (hi : ops[i]? = some oi) (hsel : ∀ (j : Nat) (o : Oper) cs b, ops[j]? = some o → o.op ≠ .select cs b)
  (hs : Region.sinkB md ops n = true) (hc : Region.chainB md ops n = true) (hn : n < ops.size) (hin : i < n)
  (hdone : ∀ listed a, L listed a → ∀ j ∈ Region.ready md ops listed, n ≤ j) :
  ∀ (f : Nat) (listed : Array Bool) (a : Act), HeadInv md ops n listed →
   (∀ j oj, ops[j]? = some oj → j ≠ i → listed.getD j true = false → (∀ e ∈ oj.after, Region.binds md e = true → e.on ≠ i) → oi.apart ops oj = true) →
   i ∈ Region.ready md ops listed → Does P ops S oi v a →
   wpHead P md ops S n L f (listed.setIfInBounds i true) (a.put oi.dst v) → wpHead P md ops S n L (f + 1) listed a := by
 intro f
 induction f with
 | zero =>
  intro listed a inv _ hr hy H
  have hun := (mem_ready.1 hr).1
  refine ⟨fun h => (by rw [h] at hr; cases hr), fun j hj => ?_⟩
  have hjn : j < n := by
   rcases Nat.lt_or_ge j n with h | h
   ·exact h
   ·exact absurd hj (tail_waits hs hc hn inv _ i rfl hin hun j h)
  refine ⟨hjn, ?_⟩
  by_cases hji : j = i
  ·subst hji; exact ⟨oi, v, hi, hy, H⟩
  ·have := hdone _ _ H j (ready_mono hj hji)
   omega
 | succ f ih =>
  intro listed a inv hfree hr hy H
  have hun := (mem_ready.1 hr).1
  refine ⟨fun h => (by rw [h] at hr; cases hr), fun j hj => ?_⟩
  have hjn : j < n := by
   rcases Nat.lt_or_ge j n with h | h
   ·exact h
   ·exact absurd hj (tail_waits hs hc hn inv _ i rfl hin hun j h)
  refine ⟨hjn, ?_⟩
  by_cases hji : j = i
  ·subst hji; exact ⟨oi, v, hi, hy, H⟩
  ·have h1 := (H.2 j (ready_mono hj hji)).2
   obtain ⟨hjun, oj, hoj, hall⟩ := mem_ready.1 hj
   have hnot : ∀ e ∈ oj.after, Region.binds md e = true → e.on ≠ i := fun e he hb heq => by
    have h1 := hall e he hb
    rw [heq, getD_both hun] at h1
    cases h1
   have h2 := doOp_put hoj (hfree j oj hoj hji hjun hnot) (fun cs b => hsel i oi cs b hi) (fun cs b => hsel j oj cs b hoj) hy h1
   have hfree' : ∀ k ok, ops[k]? = some ok → k ≠ i → (listed.setIfInBounds j true).getD k true = false →
     (∀ e ∈ ok.after, Region.binds md e = true → e.on ≠ i) → oi.apart ops ok = true := fun k ok hk hki hun hno => by
    refine hfree k ok hk hki ?_ hno
    by_cases hjk : j = k
    ·subst hjk; exact hjun
    ·rw [getD_set_ne true hjk] at hun; exact hun
   refine doOp_mono (fun b h3 => ih (listed.setIfInBounds j true) b (inv.set hj hjn) hfree' (ready_mono hr (Ne.symm hji)) h3.1 ?_) h2
   rw [Array.setIfInBounds_comm _ _ hji]
   exact h3.2
def wpD (P : Program) (ops : Array Oper) (S : World → Prop) (L : Act → Prop) : List Oper → Act → Prop
 | [], a => L a
 | o :: rest, a => ∃ v, Does P ops S o v a ∧ wpD P ops S L rest (a.put o.dst v)
theorem head_lex {n g : Nat} {Lq : Act → Prop} (hsel : Region.noSelect ops = true) (hs : Region.sinkB md ops n = true) (hc : Region.chainB md ops n = true) (hn : n < ops.size) :
  ∀ (l : List Oper) (k : Nat) (listed : Array Bool) (a : Act), (∀ j, j < l.length → l[j]? = ops[k + j]?) → k + l.length = n → HeadInv md ops n listed →
  Region.lexHead md ops g l.length k listed = true → wpD P ops S Lq l a →
  wpHead P md ops S n (fun listed' a' => Region.seqB md ops g n listed' = true ∧ Lq a') l.length listed a
 | [], k, listed, a, _, hk, _, hB, h => by
  have : k = n := by simpa using hk
  subst this
  exact ⟨by simpa [Region.lexHead] using hB, h⟩
 | o :: l, k, listed, a, hl, hk, inv, hB, h => by
  have h0 : ops[k]? = some o := by simpa using (hl 0 (by simp)).symm
  simp only [List.length_cons, Region.lexHead, Bool.and_eq_true] at hB
  obtain ⟨⟨hr, hf⟩, hB'⟩ := hB
  have hkn : k < n := by simp only [List.length_cons] at hk; omega
  have hr' : k ∈ Region.ready md ops listed := by simpa using hr
  obtain ⟨v, hy, hK⟩ := h
  exact head_first h0 (Region.noSelect_spec hsel) hs hc hn hkn (fun listed' a' hL => seqB_ready hL.1) l.length listed a inv (Region.free_spec h0 hf) hr' hy
   (head_lex hsel hs hc hn l (k + 1) _ _ (fun j hj => by have := hl (j + 1) (by simp; omega); simpa [Nat.add_assoc, Nat.add_comm 1 j] using this) (by simp only [List.length_cons] at hk; omega) (inv.set hr' hkn) hB' hK)
theorem region_do {id : Nat} {Q : Exit → Act → World → Prop} {a : Act} {w : World} {l : List Oper} (S : World → Prop) (n : Nat) (hm : P.follows .mixedOrders = true) (hB : Region.lexTailB .any l.toArray n = true)
  (hS : S w.drew)
  (h : wpD P l.toArray S (fun a' => ∀ w', S w' → wpList P l.toArray Q (l.drop n) a' w') (l.take n) a) : (Code.region id l.toArray true).wp P Q a w := by
 simp only [Region.lexTailB, Bool.and_eq_true, decide_eq_true_eq] at hB
 obtain ⟨⟨⟨⟨hsel, hn⟩, hs⟩, hc⟩, hlex⟩ := hB
 have hn' : n < l.length := by simpa using hn
 have htl : (l.take n).length = n := by simp; omega
 have hdl : (l.drop n).length = l.toArray.size - n := by simp
 have inv0 : HeadInv .any l.toArray n (Array.replicate l.toArray.size false) :=
  ⟨by simp, fun j oj _ hl => (by rw [getD_replicate_false] at hl; cases hl), fun t _ ht => getD_in (by simpa using ht) (getD_replicate_false _ _)⟩
 have H := head_lex (md := .any) (g := l.toArray.size - n) hsel hs hc hn (l.take n) 0 _ a (fun j hj => by
  have hj' : j < n := by rw [htl] at hj; exact hj
  simp [hj']) (by simpa using htl) inv0 (by rw [htl]; exact hlex) h
 refine wp_region_any hm ?_
 have := any_of_head (Q := Q) (g := l.toArray.size - n) (fun listed a' hL w' hS' => by
  have := wpAny_of_seq (md := .any) (Q' := Q) (l.drop n) n listed a' w' (fun j => by simp [List.getElem?_drop]) (by rw [hdl]; exact hL.1) (hL.2 w' hS')
  rwa [hdl] at this) _ _ _ H w.drew hS
 rw [htl, show n + (l.toArray.size - n) = l.toArray.size by omega] at this
 exact this
theorem wpD_nil {L : Act → Prop} {a : Act} (h : L a) : wpD P ops S L [] a := h
theorem wpD_pure {L : Act → Prop} {o : Oper} {rest : List Oper} {v : Value} {a : Act} (hg : o.guard = none) (h : ∀ w, (execOp a.eval o).run P w = .ok (.value v) w)
  (hr : wpD P ops S L rest (a.put o.dst v)) : wpD P ops S L (o :: rest) a :=
 ⟨v, .inl ⟨by unfold Region.wanted; rw [hg], fun w hS => ⟨w, .inl ⟨h w, hS⟩⟩⟩, hr⟩
theorem wpD_here {L : Act → Prop} {o : Oper} {rest : List Oper} {v : Value} {a : Act} (hg : o.guard = none) (h : ∀ w, S w → (execOp a.eval o).run P w = .ok (.value v) w)
  (hr : wpD P ops S L rest (a.put o.dst v)) : wpD P ops S L (o :: rest) a :=
 ⟨v, .inl ⟨by unfold Region.wanted; rw [hg], fun w hS => ⟨w, .inl ⟨h w hS, hS⟩⟩⟩, hr⟩
theorem wpD_call {L : Act → Prop} {o : Oper} {rest : List Oper} {v : Value} {a : Act} (hg : o.guard = none) (f : FuncId) (args : Array Value)
  (h : ∀ w, (execOp a.eval o).run P w = .ok (.enter f args) w) (hc : ∀ w, S w → Calls P f args w (fun e w2 => e = .returned v ∧ S w2))
  (hr : wpD P ops S L rest (a.put o.dst v)) : wpD P ops S L (o :: rest) a :=
 ⟨v, .inl ⟨by unfold Region.wanted; rw [hg], fun w hS => ⟨w, .inr (.inr ⟨f, args, h w, hc w hS⟩)⟩⟩, hr⟩
end
end Pl
end
