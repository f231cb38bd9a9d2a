/-
  Texts VmH, VmRL, Tf.
-/
import Derived.Test.YtmfmokblmipagaaGreatR03
import Derived.Test.YtmfmokblmipagaaGreatR14
import Derived.Test.YtmfmokblmipagaaGreatR23
import Derived.Deep.RegionHeld3
import Derived.Laws.BitsAllLaws
set_option linter.unusedSimpArgs false
set_option linter.unusedVariables false
set_option maxHeartbeats 8000000
open Pl
section
namespace Go.Proofs.YtmfmokblmipagaaGreat
open Go.RowKit Pl
structure MV (w0 : World) (o : MObj) (l : List (Nat × Vec)) (u : World) : Prop where
 ms : MS w0 [o] u
 hold : ∀ q ∈ l, u.heap[q.1]? = some (.cells (cells q.2) 28 (0, 0))
 off : ∀ q ∈ l, ¬ o.has q.1
theorem MV.mem {w0 u : World} {o : MObj} {l : List (Nat × Vec)} (h : MV w0 o l u) : MemAt u o := h.ms.get 0 rfl
theorem MV.start {w0 u : World} {o : MObj} (h : MS w0 [o] u) : MV w0 o [] u := ⟨h, fun _ h => (by cases h), fun _ h => (by cases h)⟩
theorem MV.below {w0 u u1 : World} {o : MObj} {l : List (Nat × Vec)} (h : MV w0 o l u) (hb : Below u.heap.size u u1) : MV w0 o l u1 :=
 ⟨h.ms.below hb, fun q hq => blk_keep (h.hold q hq) hb, h.off⟩
theorem MV.alloc {w0 u : World} {o : MObj} {l : List (Nat × Vec)} (h : MV w0 o l u) (x : Obj) : MV w0 o l (u.alloc x) := h.below ((Below.refl _ _).alloc (Nat.le_refl _) _)
theorem MV.drew {w0 u : World} {o : MObj} {l : List (Nat × Vec)} (h : MV w0 o l u) : MV w0 o l u.drew := h.below (Below.refl _ _).drew
theorem MV.add {w0 u : World} {o : MObj} {l : List (Nat × Vec)} (h : MV w0 o l u) (b : Nat) (v : Vec) (hb : u.heap[b]? = some (.cells (cells v) 28 (0, 0))) (hn : ¬ o.has b) : MV w0 o ((b, v) :: l) u := by
 refine ⟨h.ms, fun q hq => ?_, fun q hq => ?_⟩
 ·rcases List.mem_cons.1 hq with rfl | hq
  ·exact hb
  ·exact h.hold q hq
 ·rcases List.mem_cons.1 hq with rfl | hq
  ·exact hn
  ·exact h.off q hq
theorem MV.push {w0 u u1 : World} {o : MObj} {l : List (Nat × Vec)} {v : Vec} {x : Obj} (h : MV w0 o l u) (hs : Sets (u.alloc x) u.heap.size v u1) : MV w0 o ((u.heap.size, v) :: l) u1 := by
 have hb : Below u.heap.size u u1 := ((Below.refl _ _).alloc (Nat.le_refl _) x).trans hs.below
 exact (h.below hb).add _ v hs.this (fun e => Nat.lt_irrefl _ (h.mem.has_lt e))
theorem bits_byte (v : Vec) (s n j : Nat) (hj : j < n) : bitsAt v (8 * s + 8 * j) 8 = bitsAt v (8 * s) (8 * n) / 2 ^ (8 * j) % 256 := by
 apply Nat.eq_of_testBit_eq
 intro t
 show _ = (bitsAt v (8 * s) (8 * n) / 2 ^ (8 * j) % 2 ^ 8).testBit t
 rw [testBit_bitsAt, Nat.testBit_mod_two_pow, Nat.testBit_div_two_pow, testBit_bitsAt]
 by_cases ht : t < 8
 ·have h1 : t + 8 * j < 8 * n := by omega
  simp [ht, h1, show 8 * s + 8 * j + t = 8 * s + (t + 8 * j) by omega]
 ·simp [ht]
theorem byte_of_lane (v : Vec) (n i j : Nat) (hj : j < n) : getN v 8 (n * i + j) = getN v (8 * n) i / 2 ^ (8 * j) % 256 := by
 unfold getN
 rw [Nat.mul_add, Nat.mul_assoc 8 n i]
 exact bits_byte v (n * i) n j hj
theorem stored_bytes (β : Nat → Nat) (v : Vec) (A : Nat) : ∀ k, k < 16 → storeN (storeN β (A + 8) (getN v 64 1) 8) A (getN v 64 0) 8 (A + k) = getN v 8 k := by
 intro k hk
 rw [storeN_get]
 by_cases h : k < 8
 ·rw [if_pos (by omega), Nat.add_sub_cancel_left]
  have := byte_of_lane v 8 0 k h
  rw [Nat.mul_zero, Nat.zero_add] at this
  exact this.symm
 ·rw [if_neg (by omega), storeN_get, if_pos (by omega)]
  have := byte_of_lane v 8 1 (k - 8) (by omega)
  rw [show 8 * 1 + (k - 8) = k by omega] at this
  rw [show A + k - (A + 8) = k - 8 by omega]
  exact this.symm
end Go.Proofs.YtmfmokblmipagaaGreat
end
section
namespace Go.Proofs.YtmfmokblmipagaaGreat
open Go.RowKit Pl
theorem loadN_add (β : Nat → Nat) (s a : Nat) : ∀ b, loadN β s (a + b) = loadN β s a + loadN β (s + a) b * 2 ^ (8 * a)
 | 0 => by simp [loadN]
 | b + 1 => by
   show loadN β s (a + b) + β (s + (a + b)) * 2 ^ (8 * (a + b)) = _
   rw [loadN_add β s a b, loadN, Nat.add_mul, Nat.mul_assoc, ← Nat.pow_add, show 8 * b + 8 * a = 8 * (a + b) by omega, Nat.add_assoc s a b, Nat.add_assoc]
theorem loadN_byte (β : Nat → Nat) (s n k : Nat) (hk : k < n) (h : ∀ i, i < n → β (s + i) < 256) : loadN β s n / 2 ^ (8 * k) % 256 = β (s + k) := by
 have h1 := loadN_lt β s k (fun i hi => h i (by omega))
 obtain ⟨m, rfl⟩ : ∃ m, n = k + (m + 1) := ⟨n - k - 1, by omega⟩
 rw [loadN_add, Nat.add_mul_div_right _ _ (Nat.two_pow_pos _), Nat.div_eq_of_lt h1, Nat.zero_add]
 rw [show m + 1 = 1 + m by omega, loadN_add]
 show (loadN β (s + k) 0 + β (s + k + 0) * 2 ^ (8 * 0) + _) % 256 = _
 rw [show 2 ^ (8 * 1) = 256 from rfl, Nat.add_mul_mod_self_right]
 simp [loadN]
 have := h k (by omega)
 omega
theorem raw_step (X k : Nat) (hk : k < 16) : putAt (putAt 0 0 (8 * k) X) (8 * k) 8 (X / 2 ^ (8 * k)) = putAt 0 0 (8 * (k + 1)) X := by
 have := putAt_more 0 0 (8 * k) 8 X (by omega)
 rw [Nat.zero_add] at this
 rw [this, show 8 * k + 8 = 8 * (k + 1) by omega]
theorem raw_zero (X : Nat) : putAt 0 0 (8 * 0) X = (0 : Vec) := putAt_zero 0 0 X (by decide)
theorem raw_16 (β : Nat → Nat) (A : Nat) (h : ∀ i, i < 16 → β (A + i) < 256) : putAt 0 0 (8 * 16) (loadN β A 16) = setN (setN 0 64 0 (loadN β A 8)) 64 1 (loadN β (A + 8) 8) := by
 have h1 := loadN_lt β A 8 (fun i hi => h i (by omega))
 have h2 := loadN_lt β (A + 8) 8 (fun i hi => by rw [Nat.add_assoc]; exact h (8 + i) (by omega))
 have e := loadN_add β A 8 8
 have e1 : loadN β A 16 % 2 ^ 64 = loadN β A 8 := by rw [show (16 : Nat) = 8 + 8 from rfl, e, Nat.add_mul_mod_self_right]; exact Nat.mod_eq_of_lt h1
 have e2 : loadN β A 16 / 2 ^ 64 = loadN β (A + 8) 8 := by rw [show (16 : Nat) = 8 + 8 from rfl, e, Nat.add_mul_div_right _ _ (Nat.two_pow_pos _), Nat.div_eq_of_lt h1, Nat.zero_add]
 have := putAt_more 0 0 64 64 (loadN β A 16) (by decide)
 rw [show 8 * 16 = 64 + 64 from rfl, ← this, e2, ← putAt_mod 0 0 64, e1]
 rfl
theorem raw_low (X n : Nat) (hn : n ≤ 8) (h : X < 2 ^ (8 * n)) : putAt 0 0 (8 * n) X = lowV X := by
 apply vec_ext
 intro j hj
 show _ = (putAt 0 (64 * 0) 64 X).toNat.testBit j
 rw [testBit_putAt _ _ _ _ _ (by omega), testBit_putAt _ _ _ _ _ (by decide)]
 by_cases h1 : j < 8 * n
 ·rw [if_pos (by omega), if_pos (by omega)]
 ·rw [if_neg (by omega)]
  by_cases h2 : j < 64
  ·rw [if_pos (by omega), Nat.testBit_lt_two_pow (Nat.lt_of_lt_of_le h (Nat.pow_le_pow_right (by decide) (by omega)))]
   simp
  ·rw [if_neg (by omega)]
theorem raw_splat (X n : Nat) (hn : n = 1 ∨ n = 2 ∨ n = 4 ∨ n = 8) : buildOn 0 8 (fun i => getN (putAt 0 0 (8 * n) X) 8 (i % n)) 16 = buildOn 0 (8 * n) (fun _ => X) (16 / n) := by
 have hn0 : 0 < n := by omega
 refine lanes_ext 8 16 (by decide) (by decide) fun i hi => ?_
 rw [getN_buildOn _ _ _ _ _ (by decide), if_pos hi]
 have hb : 16 / n ≤ 128 / (8 * n) := by rcases hn with rfl | rfl | rfl | rfl <;> decide
 have hq : i / n < 16 / n := by rcases hn with rfl | rfl | rfl | rfl <;> omega
 have hm := Nat.mod_lt i hn0
 conv => rhs; rw [← Nat.div_add_mod i n]
 rw [byte_of_lane _ n (i / n) (i % n) hm, getN_buildOn _ _ _ _ _ hb, if_pos hq]
 have h0 := byte_of_lane (putAt 0 0 (8 * n) X) n 0 (i % n) hm
 rw [Nat.mul_zero, Nat.zero_add] at h0
 rw [h0, show putAt 0 0 (8 * n) X = setN 0 (8 * n) 0 X from rfl, getN_setN _ _ _ _ _ (by rcases hn with rfl | rfl | rfl | rfl <;> decide), if_pos rfl]
 exact Nat.mod_eq_of_lt (Nat.lt_of_lt_of_le (Nat.mod_lt _ (by decide)) (by decide))
theorem lane_step (old : Vec) (X lo n k : Nat) (hk : k < n) (hl : n * lo + n ≤ 16) : putAt (putAt old (8 * (n * lo)) (8 * k) X) (8 * (n * lo + k)) 8 (X / 2 ^ (8 * k)) = putAt old (8 * (n * lo)) (8 * (k + 1)) X := by
 have := putAt_more old (8 * (n * lo)) (8 * k) 8 X (by omega)
 rw [show 8 * (n * lo + k) = 8 * (n * lo) + 8 * k by omega, this, show 8 * k + 8 = 8 * (k + 1) by omega]
theorem lane_all (old : Vec) (X lo n : Nat) : putAt old (8 * (n * lo)) (8 * n) X = setN old (8 * n) lo X := by
 unfold setN; rw [Nat.mul_assoc]
theorem store16 (β : Nat → Nat) (v : Vec) (A : Nat) : storeN (storeN β (A + 8) (getN v 64 1) 8) A (getN v 64 0) 8 = storeN β A v.toNat 16 := by
 funext k
 rw [storeN_get β A v.toNat 16 k]
 by_cases h : A ≤ k ∧ k < A + 16
 ·rw [if_pos h]
  obtain ⟨j, rfl⟩ : ∃ j, k = A + j := ⟨k - A, by omega⟩
  rw [stored_bytes β v A j (by omega), Nat.add_sub_cancel_left]
  rfl
 ·rw [if_neg h, storeN_get, if_neg (by omega), storeN_get, if_neg (by omega)]
theorem lane_byte (v : Vec) (n lo k : Nat) (hk : k < n) : getN v 8 (n * lo + k) = getN v (8 * n) lo / 2 ^ (8 * k) % 256 := byte_of_lane v n lo k hk
theorem spread_is_8_1 (X : Nat) : buildOn 0 16 (fun i => Pl.u64 (sgn 8 (getN (lowV X) 8 i))) 8 = spreadV X 8 true := by unfold spreadV; simp only [if_true]
theorem spread_is_8_0 (X : Nat) : buildOn 0 16 (fun i => getN (lowV X) 8 i) 8 = spreadV X 8 false := by unfold spreadV; simp only [Bool.false_eq_true, if_false]
theorem spread_is_16_1 (X : Nat) : buildOn 0 32 (fun i => Pl.u64 (sgn 16 (getN (lowV X) 16 i))) 4 = spreadV X 16 true := by unfold spreadV; simp only [if_true]
theorem spread_is_16_0 (X : Nat) : buildOn 0 32 (fun i => getN (lowV X) 16 i) 4 = spreadV X 16 false := by unfold spreadV; simp only [Bool.false_eq_true, if_false]
theorem spread_is_32_1 (X : Nat) : buildOn 0 64 (fun i => Pl.u64 (sgn 32 (getN (lowV X) 32 i))) 2 = spreadV X 32 true := by unfold spreadV; simp only [if_true]
theorem spread_is_32_0 (X : Nat) : buildOn 0 64 (fun i => getN (lowV X) 32 i) 2 = spreadV X 32 false := by unfold spreadV; simp only [Bool.false_eq_true, if_false]
theorem do_ldb {ops : Array Oper} {S : World → Prop} {L : Act → Prop} {o : Oper} {rest : List Oper} {a : Act} (hg : Region.wanted o (yielded ops a.tmps) = true) (x : Operand) (ho : o.op = .load 5 x) (g j : Nat)
 (hx : a.eval x = .pointer (some ⟨g, j, none⟩)) (z : Value) (h : ∀ w, S w → w.cell? ⟨g, j, none⟩ = some z)
 (hr : wpD Tryz.prog ops S L rest (a.put o.dst z)) : wpD Tryz.prog ops S L (o :: rest) a :=
 wpD_hereg hg (fun w hS => by
  have ha : (isAgg 5).run Tryz.prog w = .ok false w := by kernel_rfl
  unfold execOp
  simp only [ho, hx, Instr.loadAt, Instr.sureAddr, Sem.run_bind, Sem.run_pure, Result.andThen_ok]
  simp [loadVar, Sem.run_bind, ha, h w hS, go_sem]) hr
theorem do_ixv {ops : Array Oper} {S : World → Prop} {L : Act → Prop} {o : Oper} {rest : List Oper} {a : Act} (hg : Region.wanted o (yielded ops a.tmps) = true) (x i : Operand) (ho : o.op = .indexAddr 28 x i) (g j : Nat)
 (hx : a.eval x = .pointer (some ⟨g, 0, none⟩)) (z : Int) (hi : a.eval i = .int .i64 z) (hz : z = j) (hj : j < 16)
 (hr : wpD Tryz.prog ops S L rest (a.put o.dst (.pointer (some ⟨g, j, none⟩)))) : wpD Tryz.prog ops S L (o :: rest) a :=
 wpD_hereg hg (fun w hS => by
  have hl : Tryz.prog.arrayLen 28 = 16 := by kernel_rfl
  have hs : ∀ u, (sizeOf (Tryz.prog.elem 28)).run Tryz.prog u = .ok 1 u := fun u => by kernel_rfl
  have hu : Tryz.prog.underlying 28 = some (.array (Tryz.prog.arrayLen 28) (Tryz.prog.elem 28)) := by kernel_rfl
  have h2 : (0 ≤ z ∧ z < (16 : Nat)) := by omega
  unfold execOp
  simp only [ho, hx, hi, Sem.run_bind, run_indexAt_array (h := hu), hl]
  rw [if_pos h2, hs]
  subst hz
  simp [Addr.add, go_sem]
  exact fun h => h.symm) hr
end Go.Proofs.YtmfmokblmipagaaGreat
end
section
namespace Go.Proofs.YtmfmokblmipagaaGreat
open Go.RowKit Pl
set_option maxRecDepth 100000 in
theorem iunder2 : ∃ fs, Tryz.prog.underlying 25 = some (.struct fs) := ⟨_, rfl⟩
theorem isize2 (a b c d e f : Value) : (Tryz.prog.info? 25).map (·.size) = some (#[a, b, c, d, e, f] : Array Value).size := by kernel_rfl
theorem load_ins {ops : Array Oper} {rest : List Oper} {o : Oper} {a : Act} {w : World} {Q : Exit → Act → World → Prop} (hw : Region.wanted o (yielded ops a.tmps) = true) (x : Operand) (ho : o.op = .load 25 x)
 (g : Nat) (hx : a.eval x = .pointer (some ⟨g, 0, none⟩)) (c0 c1 c2 c3 c4 c5 : Value) (hg : w.heap[g]? = some (.cells #[c0, c1, c2, c3, c4, c5] 25 (0, 0)))
 (h : wpList Tryz.prog ops Q rest (a.put o.dst (.agg #[c0, c1, c2, c3, c4, c5])) w) : wpList Tryz.prog ops Q (o :: rest) a w :=
 wpList_step fun K hK => by
  rw [if_pos hw]
  obtain ⟨fs, hf⟩ := iunder2
  exact wp_load_row _ x ho g hx _ _ _ _ hg hf rfl (isize2 _ _ _ _ _ _) (hK _ _ h)
def patB (i : Nat) : Nat := (i % 256) ^^^ (i / 256 % 256)
theorem patB_lt (i : Nat) : patB i < 256 := Nat.xor_lt_two_pow (n := 8) (by omega) (by omega)
theorem patB_bits (i : Nat) : bits BinOp.xor IntKind.u8 ((i : Int) % 256) ((i : Int) / 256 % 256) = ((patB i : Nat) : Int) := by
 have := u8_xor_nat (i % 256) (i / 256 % 256) (by omega) (by omega)
 rw [show ((i : Int) % 256) = ((i % 256 : Nat) : Int) by simp, show ((i : Int) / 256 % 256) = ((i / 256 % 256 : Nat) : Int) by simp, this]
 rfl
end Go.Proofs.YtmfmokblmipagaaGreat
end
