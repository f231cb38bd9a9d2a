/-
  Texts TaU, TaW, TaV5, SwA.
-/
import Derived.Test.YtmfmokblmipagaaGreatR19
import Derived.Test.YtmfmokblmipagaaGreatR21
import Derived.Test.YtmfmokblmipagaaGreatR22
import Derived.Test.YtmfmokblmipagaaGreatR25
import Derived.Deep.QuietTactic
import Derived.BigQuiet
set_option linter.unusedSimpArgs false
set_option linter.unusedVariables false
set_option maxHeartbeats 8000000
open Pl
section
namespace Go.Proofs.YtmfmokblmipagaaGreat
open Go.RowKit Pl
theorem mat_z (M A n off b k op more : Nat) (zo zm : Int) (ho : zo = op) (hm : zm = more) (l : List Cel) (R : Option Nat) (u : World) (h : TA A l b k R u) (hM : MA M A n off R u) (h1 : l.length + 1 ≤ 1000) (h2 : off + more < 18446744073709551616) :
 Calls Tryz.prog 39 #[.pointer (some ⟨M, 0, none⟩), .int .i64 zo, .int .u64 zm] u fun e u' => e = .returned (.tuple #[]) ∧ TR A R u (l ++ [atc op (off + more)]) b k u' := by
 subst ho hm
 exact mat_k M A n off b k op more l R u h hM h1 h2
structure SS (W0 : World) (b n off : Nat) (D : List Value) (w : World) : Prop where
 bel : Below W0.heap.size W0 w
 d1 : ∀ p, D = [p] → ∃ A, p = .pointer (some ⟨A, 0, none⟩) ∧ W0.heap.size ≤ A ∧ TA A [] b 0 none w
 d2 : ∀ m p, D = [m, p] → ∃ A M, p = .pointer (some ⟨A, 0, none⟩) ∧ m = .pointer (some ⟨M, 0, none⟩) ∧ W0.heap.size ≤ A ∧ W0.heap.size ≤ M ∧ TA A [] b 0 none w ∧ MA M A n off none w
theorem SS.start {W0 : World} {b n off : Nat} : SS W0 b n off [] W0.drew := ⟨(Below.refl _ _).drew, fun p h => by simp at h, fun m p h => by simp at h⟩
theorem SS.get {W0 w : World} {b n off : Nat} {D : List Value} (h : SS W0 b n off D w) {g : Nat} {o : Obj} (hg : W0.heap[g]? = some o) : w.heap[g]? = some o := blk_keep hg h.bel
theorem run_boxM {o : Oper} {a : Act} {w : World} (x : Operand) (A n off : Nat) (z1 z2 : Int) (h1 : z1 = n) (h2 : z2 = off) (ho : o.op = .box 100 x) (hx : a.eval x = .agg #[.pointer (some ⟨A, 0, none⟩), .int .i64 z1, .int .u64 z2]) :
 (execOp a.eval o).run Tryz.prog w = .ok (.value (.pointer (some ⟨w.heap.size, 0, none⟩))) (w.alloc (.cells #[.pointer (some ⟨A, 0, none⟩), .int .i64 (n : Int), .int .u64 (off : Int)] 100)) := by
 subst h1 h2
 unfold execOp
 simp only [ho, hx]
 kernel_rfl
theorem SS.box {W0 w : World} {b n off : Nat} {p : Value} (h : SS W0 b n off [p] w) : ∃ A, p = .pointer (some ⟨A, 0, none⟩) ∧ SS W0 b n off [.pointer (some ⟨w.heap.size, 0, none⟩), p] (w.alloc (.cells #[.pointer (some ⟨A, 0, none⟩), .int .i64 (n : Int), .int .u64 (off : Int)] 100)) := by
 obtain ⟨A, rfl, hA, hT⟩ := h.d1 p rfl
 refine ⟨A, rfl, h.bel.alloc h.bel.size _, fun p h => by simp at h, fun m p hh => ?_⟩
 obtain ⟨rfl, rfl⟩ : _ = m ∧ _ = p := by simpa using hh
 exact ⟨A, w.heap.size, rfl, rfl, hA, h.bel.size, hT.alloc _, ⟨heap_alloc_new _ _, fun e => by have := hT.lt.1; omega, by simp⟩⟩
structure SQ (w : World) (cs : List Cel) (v : Value) (w2 : World) : Prop where
 bel : Below w.heap.size w w2
 own : w2.ownsRow w.heap.size 130 3 v cs.length (celsR cs)
theorem TR.cast {A : Nat} {R : Option Nat} {l : List Cel} {b k : Nat} {u u2 : World} (T : TR A R u l b k u2) (l2 : List Cel) (k2 : Nat) (h : l = l2) (hk : k = k2) : TR A R u l2 b k2 u2 := by subst h hk; exact T
theorem SQ.mono {w u u2 : World} {cs : List Cel} {v : Value} (h : SQ w cs v u) (hb : Below u.heap.size u u2) : SQ w cs v u2 := ⟨h.bel.trans (hb.mono h.bel.size), own_below h.own hb⟩
theorem TR.done {A M b k n off : Nat} {l : List Cel} {w u u2 : World} (T : TR A none u l b k u2) (hb : Below w.heap.size w u) (hA : w.heap.size ≤ A) (hM : MA M A n off none u) :
 ∃ v, SQ w l v u2 ∧ u2.cell? ⟨M, 0, none⟩ = some (.pointer (some ⟨A, 0, none⟩)) ∧ u2.cell? ⟨A, 0, none⟩ = some v ∧ u2.cell? ⟨A, 2, none⟩ = some (.int .i64 (k : Int)) := by
 obtain ⟨R2, h1, h2, h3⟩ := T.ex
 obtain ⟨v, h4, h5, h6, h7⟩ := h1.ex
 have hB := T.get hM.blk hM.ne hM.nr
 refine ⟨v, ⟨h2.to_below hb hb.size hA (fun n hn => by cases hn), ?_⟩, by rw [cell_of_row u2 M 0 _ _ _ hB]; rfl, by rw [cell_of_row u2 A 0 _ _ _ h4]; rfl, by rw [cell_of_row u2 A 2 _ _ _ h4]; rfl⟩
 refine ⟨h5.1, h5.2.imp id fun ⟨g, cap, cur, e, hz, hr⟩ => ⟨g, cap, cur, e, ?_, hr⟩⟩
 have hg : R2 = some g := by rw [← h6, e]; rfl
 rcases h3 g hg with h8 | h8
 ·cases h8
 ·exact Nat.le_trans hb.size h8
end Go.Proofs.YtmfmokblmipagaaGreat
end
section
namespace Go.Proofs.YtmfmokblmipagaaGreat
open Go.RowKit Pl
def ldN (n : Nat) : Nat := if n = 1 then 49 else if n = 2 then 51 else if n = 4 then 53 else 41
def stN (n : Nat) : Nat := if n = 1 then 60 else if n = 2 then 61 else if n = 4 then 62 else 55
def maskN (n a : Nat) : Nat := 18446744073709551615 - (2 ^ (8 * n) - 1) * 2 ^ (8 * n * a)
def laneLdC (n r off i : Nat) : List Cel := [r + 2, r + 1, r].map setc ++ [getc r, atc (ldN n) off, numc (8 * n * (i % (8 / n))), opc 134, getc (r + (1 + i / (8 / n))), numc (maskN n (i % (8 / n))), opc 131, opc 132, setc (r + (1 + i / (8 / n))), getc (r + 1), getc (r + 2)]
def laneStC (n r off i : Nat) : List Cel := [r + 2, r + 1, r].map setc ++ getc r :: (laneC (r + (1 + i / (8 / n))) (8 * n) (i % (8 / n)) false ++ [atc (stN n) off])
theorem maskb_1 (a : Nat) (h : a < 8) : bits BinOp.xor IntKind.u64 (if IntKind.u64.signed = true then -1 else IntKind.u64.max) (IntKind.u64.wrap (255 * 2 ^ min (8 * a) 64)) = (maskN 1 a : Int) := by
 rcases (show a = 0 ∨ a = 1 ∨ a = 2 ∨ a = 3 ∨ a = 4 ∨ a = 5 ∨ a = 6 ∨ a = 7 by omega) with rfl | rfl | rfl | rfl | rfl | rfl | rfl | rfl
 all_goals kernel_rfl
theorem lane_ld_1 (M A off b k i : Nat) (z : Int) (hz : z = i) (hi : i < 16) (l : List Cel) (R : Option Nat) (u : World) (h : TA A l b k R u) (hM : MA M A 1 off R u) (h1 : l.length + 100 ≤ 1000) (h2 : off < 4294967296) (hb : b + k ≤ 1000) :
 Calls Tryz.prog 42 #[.pointer (some ⟨M, 0, none⟩), .bool true, .int .i64 z] u fun e u' => e = .returned (.tuple #[]) ∧ TR A R u (l ++ laneLdC 1 (b + k) off i) b (k + 3) u' := by
 subst hz
 by_cases c : i < 8
 ·have e1 : i / 8 = 0 := by omega
  have e2 : i % 8 = i := by omega
  have := laneld_1_0 M A off b k i i (maskN 1 i) (8 * i) l R u h hM h1 h2 hb (by omega) c rfl (maskb_1 i c)
  simpa [laneLdC, ldN, e1, e2] using this
 ·have e1 : i / 8 = 1 := by omega
  have e2 : i % 8 = i - 8 := by omega
  have := laneld_1_1 M A off b k i (i - 8) (maskN 1 (i - 8)) (8 * (i - 8)) l R u h hM h1 h2 hb (by omega) (by omega) rfl (maskb_1 (i - 8) (by omega))
  simpa [laneLdC, ldN, e1, e2] using this
theorem lane_st_1 (M A off b k i : Nat) (z : Int) (hz : z = i) (hi : i < 16) (l : List Cel) (R : Option Nat) (u : World) (h : TA A l b k R u) (hM : MA M A 1 off R u) (h1 : l.length + 100 ≤ 1000) (h2 : off < 4294967296) (hb : b + k ≤ 1000) :
 Calls Tryz.prog 42 #[.pointer (some ⟨M, 0, none⟩), .bool false, .int .i64 z] u fun e u' => e = .returned (.tuple #[]) ∧ TR A R u (l ++ laneStC 1 (b + k) off i) b (k + 3) u' := by
 subst hz
 by_cases c : i < 8
 ·have e1 : i / 8 = 0 := by omega
  have e2 : i % 8 = i := by omega
  have := lanest_1_0 M A off b k i i l R u h hM h1 h2 hb (by omega) c
  simpa [laneStC, stN, e1, e2] using this
 ·have e1 : i / 8 = 1 := by omega
  have e2 : i % 8 = i - 8 := by omega
  have := lanest_1_1 M A off b k i (i - 8) l R u h hM h1 h2 hb (by omega) (by omega)
  simpa [laneStC, stN, e1, e2] using this
theorem maskb_2 (a : Nat) (h : a < 4) : bits BinOp.xor IntKind.u64 (if IntKind.u64.signed = true then -1 else IntKind.u64.max) (IntKind.u64.wrap (65535 * 2 ^ min (16 * a) 64)) = (maskN 2 a : Int) := by
 rcases (show a = 0 ∨ a = 1 ∨ a = 2 ∨ a = 3 by omega) with rfl | rfl | rfl | rfl
 all_goals kernel_rfl
theorem lane_ld_2 (M A off b k i : Nat) (z : Int) (hz : z = i) (hi : i < 8) (l : List Cel) (R : Option Nat) (u : World) (h : TA A l b k R u) (hM : MA M A 2 off R u) (h1 : l.length + 100 ≤ 1000) (h2 : off < 4294967296) (hb : b + k ≤ 1000) :
 Calls Tryz.prog 42 #[.pointer (some ⟨M, 0, none⟩), .bool true, .int .i64 z] u fun e u' => e = .returned (.tuple #[]) ∧ TR A R u (l ++ laneLdC 2 (b + k) off i) b (k + 3) u' := by
 subst hz
 by_cases c : i < 4
 ·have e1 : i / 4 = 0 := by omega
  have e2 : i % 4 = i := by omega
  have := laneld_2_0 M A off b k i i (maskN 2 i) (16 * i) l R u h hM h1 h2 hb (by omega) c rfl (maskb_2 i c)
  simpa [laneLdC, ldN, e1, e2] using this
 ·have e1 : i / 4 = 1 := by omega
  have e2 : i % 4 = i - 4 := by omega
  have := laneld_2_1 M A off b k i (i - 4) (maskN 2 (i - 4)) (16 * (i - 4)) l R u h hM h1 h2 hb (by omega) (by omega) rfl (maskb_2 (i - 4) (by omega))
  simpa [laneLdC, ldN, e1, e2] using this
theorem lane_st_2 (M A off b k i : Nat) (z : Int) (hz : z = i) (hi : i < 8) (l : List Cel) (R : Option Nat) (u : World) (h : TA A l b k R u) (hM : MA M A 2 off R u) (h1 : l.length + 100 ≤ 1000) (h2 : off < 4294967296) (hb : b + k ≤ 1000) :
 Calls Tryz.prog 42 #[.pointer (some ⟨M, 0, none⟩), .bool false, .int .i64 z] u fun e u' => e = .returned (.tuple #[]) ∧ TR A R u (l ++ laneStC 2 (b + k) off i) b (k + 3) u' := by
 subst hz
 by_cases c : i < 4
 ·have e1 : i / 4 = 0 := by omega
  have e2 : i % 4 = i := by omega
  have := lanest_2_0 M A off b k i i l R u h hM h1 h2 hb (by omega) c
  simpa [laneStC, stN, e1, e2] using this
 ·have e1 : i / 4 = 1 := by omega
  have e2 : i % 4 = i - 4 := by omega
  have := lanest_2_1 M A off b k i (i - 4) l R u h hM h1 h2 hb (by omega) (by omega)
  simpa [laneStC, stN, e1, e2] using this
theorem maskb_4 (a : Nat) (h : a < 2) : bits BinOp.xor IntKind.u64 (if IntKind.u64.signed = true then -1 else IntKind.u64.max) (IntKind.u64.wrap (4294967295 * 2 ^ min (32 * a) 64)) = (maskN 4 a : Int) := by
 rcases (show a = 0 ∨ a = 1 by omega) with rfl | rfl
 all_goals kernel_rfl
theorem lane_ld_4 (M A off b k i : Nat) (z : Int) (hz : z = i) (hi : i < 4) (l : List Cel) (R : Option Nat) (u : World) (h : TA A l b k R u) (hM : MA M A 4 off R u) (h1 : l.length + 100 ≤ 1000) (h2 : off < 4294967296) (hb : b + k ≤ 1000) :
 Calls Tryz.prog 42 #[.pointer (some ⟨M, 0, none⟩), .bool true, .int .i64 z] u fun e u' => e = .returned (.tuple #[]) ∧ TR A R u (l ++ laneLdC 4 (b + k) off i) b (k + 3) u' := by
 subst hz
 by_cases c : i < 2
 ·have e1 : i / 2 = 0 := by omega
  have e2 : i % 2 = i := by omega
  have := laneld_4_0 M A off b k i i (maskN 4 i) (32 * i) l R u h hM h1 h2 hb (by omega) c rfl (maskb_4 i c)
  simpa [laneLdC, ldN, e1, e2] using this
 ·have e1 : i / 2 = 1 := by omega
  have e2 : i % 2 = i - 2 := by omega
  have := laneld_4_1 M A off b k i (i - 2) (maskN 4 (i - 2)) (32 * (i - 2)) l R u h hM h1 h2 hb (by omega) (by omega) rfl (maskb_4 (i - 2) (by omega))
  simpa [laneLdC, ldN, e1, e2] using this
theorem lane_st_4 (M A off b k i : Nat) (z : Int) (hz : z = i) (hi : i < 4) (l : List Cel) (R : Option Nat) (u : World) (h : TA A l b k R u) (hM : MA M A 4 off R u) (h1 : l.length + 100 ≤ 1000) (h2 : off < 4294967296) (hb : b + k ≤ 1000) :
 Calls Tryz.prog 42 #[.pointer (some ⟨M, 0, none⟩), .bool false, .int .i64 z] u fun e u' => e = .returned (.tuple #[]) ∧ TR A R u (l ++ laneStC 4 (b + k) off i) b (k + 3) u' := by
 subst hz
 by_cases c : i < 2
 ·have e1 : i / 2 = 0 := by omega
  have e2 : i % 2 = i := by omega
  have := lanest_4_0 M A off b k i i l R u h hM h1 h2 hb (by omega) c
  simpa [laneStC, stN, e1, e2] using this
 ·have e1 : i / 2 = 1 := by omega
  have e2 : i % 2 = i - 2 := by omega
  have := lanest_4_1 M A off b k i (i - 2) l R u h hM h1 h2 hb (by omega) (by omega)
  simpa [laneStC, stN, e1, e2] using this
theorem lane_ld_8 (M A off b k i : Nat) (z : Int) (hz : z = i) (hi : i < 2) (l : List Cel) (R : Option Nat) (u : World) (h : TA A l b k R u) (hM : MA M A 8 off R u) (h1 : l.length + 100 ≤ 1000) (h2 : off < 4294967296) (hb : b + k ≤ 1000) :
 Calls Tryz.prog 42 #[.pointer (some ⟨M, 0, none⟩), .bool true, .int .i64 z] u fun e u' => e = .returned (.tuple #[]) ∧ TR A R u (l ++ laneLdC 8 (b + k) off i) b (k + 3) u' := by
 subst hz
 obtain rfl | rfl : i = 0 ∨ i = 1 := by omega
 ·exact laneld_8_0 M A off b k l R u h hM h1 h2 hb
 ·exact laneld_8_1 M A off b k l R u h hM h1 h2 hb
theorem lane_st_8 (M A off b k i : Nat) (z : Int) (hz : z = i) (hi : i < 2) (l : List Cel) (R : Option Nat) (u : World) (h : TA A l b k R u) (hM : MA M A 8 off R u) (h1 : l.length + 100 ≤ 1000) (h2 : off < 4294967296) (hb : b + k ≤ 1000) :
 Calls Tryz.prog 42 #[.pointer (some ⟨M, 0, none⟩), .bool false, .int .i64 z] u fun e u' => e = .returned (.tuple #[]) ∧ TR A R u (l ++ laneStC 8 (b + k) off i) b (k + 3) u' := by
 subst hz
 obtain rfl | rfl : i = 0 ∨ i = 1 := by omega
 ·exact lanest_8_0 M A off b k l R u h hM h1 h2 hb
 ·exact lanest_8_1 M A off b k l R u h hM h1 h2 hb
end Go.Proofs.YtmfmokblmipagaaGreat
end
section
namespace Go.Proofs.YtmfmokblmipagaaGreat
open Go.RowKit Pl
set_option maxRecDepth 100000 in
theorem seq_neg (op κ n a off lo hi b : Int) (L : Value) (w : World) (hκ : IntKind.i64.wrap (op - 64768) = κ) (hZ : ∀ W, Calls Tryz.prog 13 #[.int .i64 op] W fun e w' => e = .returned (.int .i64 n) ∧ w' = W) (hn : n ≠ 0) (hb : 0 ≤ b ∧ b ≤ 1000) (ho : off < 0) :
 Calls Tryz.prog 11 #[inV op a off lo hi L, .int .i64 b] w fun e w' => e = .returned (.tuple #[.slice none 0 0, .int .i64 0, .int .i64 1]) ∧ Below w.heap.size w w' := by
 have HZ := Lib.hid hZ
 clear hZ
 unfold inV
 have tn : (n == 0) = false := beq_eq_false_iff_ne.2 hn
 have d1 : decide (b < 0) = false := decide_eq_false (by omega)
 have d2 : decide (4032 < b) = false := decide_eq_false (by omega)
 have d3 : decide (off < 0) = true := decide_eq_true ho
 clear ho
 go_enter Tryz.func11, Tryz.ntmps11
 go_wp2_with fail
 go_quiet ((go_at_call 13; exact Calls.quiet_of_same (HZ.out _)))
 have hs : IB w w.heap.size (.cells #[.int .i64 op, .int .i64 a, .int .i64 off, .int .u64 lo, .int .u64 hi, L] 25 (0, 0)) ((w.alloc (.cells #[.int .i64 op, .int .i64 a, .int .i64 off, .int .u64 lo, .int .u64 hi, L] 25)).drewN nq) := ⟨((Below.refl _ _).alloc (Nat.le_refl _) _).trans ⟨rfl, rfl, rfl, Nat.le_refl _, fun _ _ => rfl⟩, heap_alloc_new _ _⟩
 generalize ((w.alloc (.cells #[.int .i64 op, .int .i64 a, .int .i64 off, .int .u64 lo, .int .u64 hi, L] 25)).drewN nq) = W at *
 simp only [Exit.then]
 go_at_K
 go_wp2_with fail
 all_goals
  refine region_do (IB w w.heap.size (.cells #[.int .i64 op, .int .i64 a, .int .i64 off, .int .u64 lo, .int .u64 hi, L] 25 (0, 0))) 30 (by kernel_rfl) (by kernel_rfl) hs.drew ?_
  simp only [zF, zE, zD, zC]
  repeat (first | (refine do_ldi rfl _ rfl _ 0 rfl (.int .i64 op) (fun u hS => hS.cell 0 rfl) ?_; simp only [Act.put, z5, z6, z7]) | (refine do_ldi rfl _ rfl _ 2 rfl (.int .i64 off) (fun u hS => hS.cell 2 rfl) ?_; simp only [Act.put, z5, z6, z7]) | (refine do_ldu rfl _ rfl _ 3 rfl (.int .u64 lo) (fun u hS => hS.cell 3 rfl) ?_; simp only [Act.put, z5, z6, z7]) | (refine wpD_pure (v := ?_) rfl (fun u => ?_) ?_; rotate_left; (focus (go_simp; (try with_reducible rfl); done)); simp only [Act.put, z5, z6, z7]) | (refine wpD_pureg (v := ?_) rfl (fun u => ?_) ?_; rotate_left; (focus (go_simp; (try with_reducible rfl); done)); simp only [Act.put, z5, z6, z7]) | (refine wpD_skip rfl ?_; simp only [Act.put, z5, z6, z7]))
  apply wpD_nil
  intro wq hq
  go_wp2_with fail
  go_ret3
  exact ⟨rfl, hq.bel⟩
set_option maxRecDepth 100000 in
theorem seq_big (op κ n a off lo hi b : Int) (L : Value) (w : World) (hκ : IntKind.i64.wrap (op - 64768) = κ) (hZ : ∀ W, Calls Tryz.prog 13 #[.int .i64 op] W fun e w' => e = .returned (.int .i64 n) ∧ w' = W) (hn : n ≠ 0) (hb : 0 ≤ b ∧ b ≤ 1000) (ho : 4294967296 ≤ off) :
 Calls Tryz.prog 11 #[inV op a off lo hi L, .int .i64 b] w fun e w' => e = .returned (.tuple #[.slice none 0 0, .int .i64 0, .int .i64 1]) ∧ Below w.heap.size w w' := by
 have HZ := Lib.hid hZ
 clear hZ
 unfold inV
 have tn : (n == 0) = false := beq_eq_false_iff_ne.2 hn
 have d1 : decide (b < 0) = false := decide_eq_false (by omega)
 have d2 : decide (4032 < b) = false := decide_eq_false (by omega)
 have d3 : decide (off < 0) = false := decide_eq_false (by omega)
 have d4 : decide (4294967296 ≤ off) = true := decide_eq_true ho
 clear ho
 go_enter Tryz.func11, Tryz.ntmps11
 go_wp2_with fail
 go_quiet ((go_at_call 13; exact Calls.quiet_of_same (HZ.out _)))
 have hs : IB w w.heap.size (.cells #[.int .i64 op, .int .i64 a, .int .i64 off, .int .u64 lo, .int .u64 hi, L] 25 (0, 0)) ((w.alloc (.cells #[.int .i64 op, .int .i64 a, .int .i64 off, .int .u64 lo, .int .u64 hi, L] 25)).drewN nq) := ⟨((Below.refl _ _).alloc (Nat.le_refl _) _).trans ⟨rfl, rfl, rfl, Nat.le_refl _, fun _ _ => rfl⟩, heap_alloc_new _ _⟩
 generalize ((w.alloc (.cells #[.int .i64 op, .int .i64 a, .int .i64 off, .int .u64 lo, .int .u64 hi, L] 25)).drewN nq) = W at *
 simp only [Exit.then]
 go_at_K
 go_wp2_with fail
 all_goals
  refine region_do (IB w w.heap.size (.cells #[.int .i64 op, .int .i64 a, .int .i64 off, .int .u64 lo, .int .u64 hi, L] 25 (0, 0))) 30 (by kernel_rfl) (by kernel_rfl) hs.drew ?_
  simp only [zF, zE, zD, zC]
  repeat (first | (refine do_ldi rfl _ rfl _ 0 rfl (.int .i64 op) (fun u hS => hS.cell 0 rfl) ?_; simp only [Act.put, z5, z6, z7]) | (refine do_ldi rfl _ rfl _ 2 rfl (.int .i64 off) (fun u hS => hS.cell 2 rfl) ?_; simp only [Act.put, z5, z6, z7]) | (refine do_ldu rfl _ rfl _ 3 rfl (.int .u64 lo) (fun u hS => hS.cell 3 rfl) ?_; simp only [Act.put, z5, z6, z7]) | (refine wpD_pure (v := ?_) rfl (fun u => ?_) ?_; rotate_left; (focus (go_simp; (try with_reducible rfl); done)); simp only [Act.put, z5, z6, z7]) | (refine wpD_pureg (v := ?_) rfl (fun u => ?_) ?_; rotate_left; (focus (go_simp; (try with_reducible rfl); done)); simp only [Act.put, z5, z6, z7]) | (refine wpD_skip rfl ?_; simp only [Act.put, z5, z6, z7]))
  apply wpD_nil
  intro wq hq
  go_wp2_with fail
  go_ret3
  exact ⟨rfl, hq.bel⟩
set_option maxRecDepth 100000 in
theorem seq_lo_1 (op κ n a off lo hi b : Int) (L : Value) (w : World) (hκ : IntKind.i64.wrap (op - 64768) = κ) (hZ : ∀ W, Calls Tryz.prog 13 #[.int .i64 op] W fun e w' => e = .returned (.int .i64 n) ∧ w' = W) (hn : n ≠ 0) (hb : 0 ≤ b ∧ b ≤ 1000) (ho : 0 ≤ off ∧ off < 4294967296) (hl : 84 ≤ κ ∧ κ ≤ 91) (h9 : n = 1) (hlo : 16 ≤ lo) :
 Calls Tryz.prog 11 #[inV op a off lo hi L, .int .i64 b] w fun e w' => e = .returned (.tuple #[.slice none 0 0, .int .i64 0, .int .i64 1]) ∧ Below w.heap.size w w' := by
 have HZ := Lib.hid hZ
 clear hZ
 unfold inV
 have tn : (n == 0) = false := beq_eq_false_iff_ne.2 hn
 have d1 : decide (b < 0) = false := decide_eq_false (by omega)
 have d2 : decide (4032 < b) = false := decide_eq_false (by omega)
 have d3 : decide (off < 0) = false := decide_eq_false (by omega)
 have d4 : decide (4294967296 ≤ off) = false := decide_eq_false (by omega)
 have l1 : decide (84 ≤ κ) = true := decide_eq_true hl.1
 have l2 : decide (κ ≤ 91) = true := decide_eq_true hl.2
 have d5 : decide (16 ≤ lo) = true := decide_eq_true hlo
 have ew : IntKind.i64.wrap 16 = 16 := IntWalk.i64_in _ (by decide)
 have eu : IntKind.u64.wrap 16 = 16 := by rw [IntKind.wrap_u64]; rfl
 subst h9
 clear ho hlo
 go_enter Tryz.func11, Tryz.ntmps11
 go_wp2_with fail
 go_quiet ((go_at_call 13; exact Calls.quiet_of_same (HZ.out _)))
 have hs : IB w w.heap.size (.cells #[.int .i64 op, .int .i64 a, .int .i64 off, .int .u64 lo, .int .u64 hi, L] 25 (0, 0)) ((w.alloc (.cells #[.int .i64 op, .int .i64 a, .int .i64 off, .int .u64 lo, .int .u64 hi, L] 25)).drewN nq) := ⟨((Below.refl _ _).alloc (Nat.le_refl _) _).trans ⟨rfl, rfl, rfl, Nat.le_refl _, fun _ _ => rfl⟩, heap_alloc_new _ _⟩
 generalize ((w.alloc (.cells #[.int .i64 op, .int .i64 a, .int .i64 off, .int .u64 lo, .int .u64 hi, L] 25)).drewN nq) = W at *
 simp only [Exit.then]
 go_at_K
 go_wp2_with fail
 all_goals
  refine region_do (IB w w.heap.size (.cells #[.int .i64 op, .int .i64 a, .int .i64 off, .int .u64 lo, .int .u64 hi, L] 25 (0, 0))) 30 (by kernel_rfl) (by kernel_rfl) hs.drew ?_
  simp only [zF, zE, zD, zC]
  repeat (first | (refine do_ldi rfl _ rfl _ 0 rfl (.int .i64 op) (fun u hS => hS.cell 0 rfl) ?_; simp only [Act.put, z5, z6, z7]) | (refine do_ldi rfl _ rfl _ 2 rfl (.int .i64 off) (fun u hS => hS.cell 2 rfl) ?_; simp only [Act.put, z5, z6, z7]) | (refine do_ldu rfl _ rfl _ 3 rfl (.int .u64 lo) (fun u hS => hS.cell 3 rfl) ?_; simp only [Act.put, z5, z6, z7]) | (refine wpD_pure (v := ?_) rfl (fun u => ?_) ?_; rotate_left; (focus (go_simp; (try with_reducible rfl); done)); simp only [Act.put, z5, z6, z7]) | (refine wpD_pureg (v := ?_) rfl (fun u => ?_) ?_; rotate_left; (focus (go_simp; (try with_reducible rfl); done)); simp only [Act.put, z5, z6, z7]) | (refine wpD_skip rfl ?_; simp only [Act.put, z5, z6, z7]))
  apply wpD_nil
  intro wq hq
  go_wp2_with fail
  go_ret3
  exact ⟨rfl, hq.bel⟩
set_option maxRecDepth 100000 in
theorem seq_lo_2 (op κ n a off lo hi b : Int) (L : Value) (w : World) (hκ : IntKind.i64.wrap (op - 64768) = κ) (hZ : ∀ W, Calls Tryz.prog 13 #[.int .i64 op] W fun e w' => e = .returned (.int .i64 n) ∧ w' = W) (hn : n ≠ 0) (hb : 0 ≤ b ∧ b ≤ 1000) (ho : 0 ≤ off ∧ off < 4294967296) (hl : 84 ≤ κ ∧ κ ≤ 91) (h9 : n = 2) (hlo : 8 ≤ lo) :
 Calls Tryz.prog 11 #[inV op a off lo hi L, .int .i64 b] w fun e w' => e = .returned (.tuple #[.slice none 0 0, .int .i64 0, .int .i64 1]) ∧ Below w.heap.size w w' := by
 have HZ := Lib.hid hZ
 clear hZ
 unfold inV
 have tn : (n == 0) = false := beq_eq_false_iff_ne.2 hn
 have d1 : decide (b < 0) = false := decide_eq_false (by omega)
 have d2 : decide (4032 < b) = false := decide_eq_false (by omega)
 have d3 : decide (off < 0) = false := decide_eq_false (by omega)
 have d4 : decide (4294967296 ≤ off) = false := decide_eq_false (by omega)
 have l1 : decide (84 ≤ κ) = true := decide_eq_true hl.1
 have l2 : decide (κ ≤ 91) = true := decide_eq_true hl.2
 have d5 : decide (8 ≤ lo) = true := decide_eq_true hlo
 have ew : IntKind.i64.wrap 8 = 8 := IntWalk.i64_in _ (by decide)
 have eu : IntKind.u64.wrap 8 = 8 := by rw [IntKind.wrap_u64]; rfl
 subst h9
 clear ho hlo
 go_enter Tryz.func11, Tryz.ntmps11
 go_wp2_with fail
 go_quiet ((go_at_call 13; exact Calls.quiet_of_same (HZ.out _)))
 have hs : IB w w.heap.size (.cells #[.int .i64 op, .int .i64 a, .int .i64 off, .int .u64 lo, .int .u64 hi, L] 25 (0, 0)) ((w.alloc (.cells #[.int .i64 op, .int .i64 a, .int .i64 off, .int .u64 lo, .int .u64 hi, L] 25)).drewN nq) := ⟨((Below.refl _ _).alloc (Nat.le_refl _) _).trans ⟨rfl, rfl, rfl, Nat.le_refl _, fun _ _ => rfl⟩, heap_alloc_new _ _⟩
 generalize ((w.alloc (.cells #[.int .i64 op, .int .i64 a, .int .i64 off, .int .u64 lo, .int .u64 hi, L] 25)).drewN nq) = W at *
 simp only [Exit.then]
 go_at_K
 go_wp2_with fail
 all_goals
  refine region_do (IB w w.heap.size (.cells #[.int .i64 op, .int .i64 a, .int .i64 off, .int .u64 lo, .int .u64 hi, L] 25 (0, 0))) 30 (by kernel_rfl) (by kernel_rfl) hs.drew ?_
  simp only [zF, zE, zD, zC]
  repeat (first | (refine do_ldi rfl _ rfl _ 0 rfl (.int .i64 op) (fun u hS => hS.cell 0 rfl) ?_; simp only [Act.put, z5, z6, z7]) | (refine do_ldi rfl _ rfl _ 2 rfl (.int .i64 off) (fun u hS => hS.cell 2 rfl) ?_; simp only [Act.put, z5, z6, z7]) | (refine do_ldu rfl _ rfl _ 3 rfl (.int .u64 lo) (fun u hS => hS.cell 3 rfl) ?_; simp only [Act.put, z5, z6, z7]) | (refine wpD_pure (v := ?_) rfl (fun u => ?_) ?_; rotate_left; (focus (go_simp; (try with_reducible rfl); done)); simp only [Act.put, z5, z6, z7]) | (refine wpD_pureg (v := ?_) rfl (fun u => ?_) ?_; rotate_left; (focus (go_simp; (try with_reducible rfl); done)); simp only [Act.put, z5, z6, z7]) | (refine wpD_skip rfl ?_; simp only [Act.put, z5, z6, z7]))
  apply wpD_nil
  intro wq hq
  go_wp2_with fail
  go_ret3
  exact ⟨rfl, hq.bel⟩
set_option maxRecDepth 100000 in
theorem seq_lo_4 (op κ n a off lo hi b : Int) (L : Value) (w : World) (hκ : IntKind.i64.wrap (op - 64768) = κ) (hZ : ∀ W, Calls Tryz.prog 13 #[.int .i64 op] W fun e w' => e = .returned (.int .i64 n) ∧ w' = W) (hn : n ≠ 0) (hb : 0 ≤ b ∧ b ≤ 1000) (ho : 0 ≤ off ∧ off < 4294967296) (hl : 84 ≤ κ ∧ κ ≤ 91) (h9 : n = 4) (hlo : 4 ≤ lo) :
 Calls Tryz.prog 11 #[inV op a off lo hi L, .int .i64 b] w fun e w' => e = .returned (.tuple #[.slice none 0 0, .int .i64 0, .int .i64 1]) ∧ Below w.heap.size w w' := by
 have HZ := Lib.hid hZ
 clear hZ
 unfold inV
 have tn : (n == 0) = false := beq_eq_false_iff_ne.2 hn
 have d1 : decide (b < 0) = false := decide_eq_false (by omega)
 have d2 : decide (4032 < b) = false := decide_eq_false (by omega)
 have d3 : decide (off < 0) = false := decide_eq_false (by omega)
 have d4 : decide (4294967296 ≤ off) = false := decide_eq_false (by omega)
 have l1 : decide (84 ≤ κ) = true := decide_eq_true hl.1
 have l2 : decide (κ ≤ 91) = true := decide_eq_true hl.2
 have d5 : decide (4 ≤ lo) = true := decide_eq_true hlo
 have ew : IntKind.i64.wrap 4 = 4 := IntWalk.i64_in _ (by decide)
 have eu : IntKind.u64.wrap 4 = 4 := by rw [IntKind.wrap_u64]; rfl
 subst h9
 clear ho hlo
 go_enter Tryz.func11, Tryz.ntmps11
 go_wp2_with fail
 go_quiet ((go_at_call 13; exact Calls.quiet_of_same (HZ.out _)))
 have hs : IB w w.heap.size (.cells #[.int .i64 op, .int .i64 a, .int .i64 off, .int .u64 lo, .int .u64 hi, L] 25 (0, 0)) ((w.alloc (.cells #[.int .i64 op, .int .i64 a, .int .i64 off, .int .u64 lo, .int .u64 hi, L] 25)).drewN nq) := ⟨((Below.refl _ _).alloc (Nat.le_refl _) _).trans ⟨rfl, rfl, rfl, Nat.le_refl _, fun _ _ => rfl⟩, heap_alloc_new _ _⟩
 generalize ((w.alloc (.cells #[.int .i64 op, .int .i64 a, .int .i64 off, .int .u64 lo, .int .u64 hi, L] 25)).drewN nq) = W at *
 simp only [Exit.then]
 go_at_K
 go_wp2_with fail
 all_goals
  refine region_do (IB w w.heap.size (.cells #[.int .i64 op, .int .i64 a, .int .i64 off, .int .u64 lo, .int .u64 hi, L] 25 (0, 0))) 30 (by kernel_rfl) (by kernel_rfl) hs.drew ?_
  simp only [zF, zE, zD, zC]
  repeat (first | (refine do_ldi rfl _ rfl _ 0 rfl (.int .i64 op) (fun u hS => hS.cell 0 rfl) ?_; simp only [Act.put, z5, z6, z7]) | (refine do_ldi rfl _ rfl _ 2 rfl (.int .i64 off) (fun u hS => hS.cell 2 rfl) ?_; simp only [Act.put, z5, z6, z7]) | (refine do_ldu rfl _ rfl _ 3 rfl (.int .u64 lo) (fun u hS => hS.cell 3 rfl) ?_; simp only [Act.put, z5, z6, z7]) | (refine wpD_pure (v := ?_) rfl (fun u => ?_) ?_; rotate_left; (focus (go_simp; (try with_reducible rfl); done)); simp only [Act.put, z5, z6, z7]) | (refine wpD_pureg (v := ?_) rfl (fun u => ?_) ?_; rotate_left; (focus (go_simp; (try with_reducible rfl); done)); simp only [Act.put, z5, z6, z7]) | (refine wpD_skip rfl ?_; simp only [Act.put, z5, z6, z7]))
  apply wpD_nil
  intro wq hq
  go_wp2_with fail
  go_ret3
  exact ⟨rfl, hq.bel⟩
set_option maxRecDepth 100000 in
theorem seq_lo_8 (op κ n a off lo hi b : Int) (L : Value) (w : World) (hκ : IntKind.i64.wrap (op - 64768) = κ) (hZ : ∀ W, Calls Tryz.prog 13 #[.int .i64 op] W fun e w' => e = .returned (.int .i64 n) ∧ w' = W) (hn : n ≠ 0) (hb : 0 ≤ b ∧ b ≤ 1000) (ho : 0 ≤ off ∧ off < 4294967296) (hl : 84 ≤ κ ∧ κ ≤ 91) (h9 : n = 8) (hlo : 2 ≤ lo) :
 Calls Tryz.prog 11 #[inV op a off lo hi L, .int .i64 b] w fun e w' => e = .returned (.tuple #[.slice none 0 0, .int .i64 0, .int .i64 1]) ∧ Below w.heap.size w w' := by
 have HZ := Lib.hid hZ
 clear hZ
 unfold inV
 have tn : (n == 0) = false := beq_eq_false_iff_ne.2 hn
 have d1 : decide (b < 0) = false := decide_eq_false (by omega)
 have d2 : decide (4032 < b) = false := decide_eq_false (by omega)
 have d3 : decide (off < 0) = false := decide_eq_false (by omega)
 have d4 : decide (4294967296 ≤ off) = false := decide_eq_false (by omega)
 have l1 : decide (84 ≤ κ) = true := decide_eq_true hl.1
 have l2 : decide (κ ≤ 91) = true := decide_eq_true hl.2
 have d5 : decide (2 ≤ lo) = true := decide_eq_true hlo
 have ew : IntKind.i64.wrap 2 = 2 := IntWalk.i64_in _ (by decide)
 have eu : IntKind.u64.wrap 2 = 2 := by rw [IntKind.wrap_u64]; rfl
 subst h9
 clear ho hlo
 go_enter Tryz.func11, Tryz.ntmps11
 go_wp2_with fail
 go_quiet ((go_at_call 13; exact Calls.quiet_of_same (HZ.out _)))
 have hs : IB w w.heap.size (.cells #[.int .i64 op, .int .i64 a, .int .i64 off, .int .u64 lo, .int .u64 hi, L] 25 (0, 0)) ((w.alloc (.cells #[.int .i64 op, .int .i64 a, .int .i64 off, .int .u64 lo, .int .u64 hi, L] 25)).drewN nq) := ⟨((Below.refl _ _).alloc (Nat.le_refl _) _).trans ⟨rfl, rfl, rfl, Nat.le_refl _, fun _ _ => rfl⟩, heap_alloc_new _ _⟩
 generalize ((w.alloc (.cells #[.int .i64 op, .int .i64 a, .int .i64 off, .int .u64 lo, .int .u64 hi, L] 25)).drewN nq) = W at *
 simp only [Exit.then]
 go_at_K
 go_wp2_with fail
 all_goals
  refine region_do (IB w w.heap.size (.cells #[.int .i64 op, .int .i64 a, .int .i64 off, .int .u64 lo, .int .u64 hi, L] 25 (0, 0))) 30 (by kernel_rfl) (by kernel_rfl) hs.drew ?_
  simp only [zF, zE, zD, zC]
  repeat (first | (refine do_ldi rfl _ rfl _ 0 rfl (.int .i64 op) (fun u hS => hS.cell 0 rfl) ?_; simp only [Act.put, z5, z6, z7]) | (refine do_ldi rfl _ rfl _ 2 rfl (.int .i64 off) (fun u hS => hS.cell 2 rfl) ?_; simp only [Act.put, z5, z6, z7]) | (refine do_ldu rfl _ rfl _ 3 rfl (.int .u64 lo) (fun u hS => hS.cell 3 rfl) ?_; simp only [Act.put, z5, z6, z7]) | (refine wpD_pure (v := ?_) rfl (fun u => ?_) ?_; rotate_left; (focus (go_simp; (try with_reducible rfl); done)); simp only [Act.put, z5, z6, z7]) | (refine wpD_pureg (v := ?_) rfl (fun u => ?_) ?_; rotate_left; (focus (go_simp; (try with_reducible rfl); done)); simp only [Act.put, z5, z6, z7]) | (refine wpD_skip rfl ?_; simp only [Act.put, z5, z6, z7]))
  apply wpD_nil
  intro wq hq
  go_wp2_with fail
  go_ret3
  exact ⟨rfl, hq.bel⟩
end Go.Proofs.YtmfmokblmipagaaGreat
end
section
namespace Go.Proofs.YtmfmokblmipagaaGreat
open Go.RowKit Pl
structure XA (M A : Nat) (T : TypeId) (C : Array Value) (R : Option Nat) (u : World) : Prop where
 blk : u.heap[M]? = some (.cells C T (0, 0))
 ne : M ≠ A
 nr : some M ≠ R
theorem XA.to {M A : Nat} {T : TypeId} {C : Array Value} {R R2 : Option Nat} {u u2 : World} (h : XA M A T C R u) (c : Chg A R u u2) (f : Frsh u R R2) : XA M A T C R2 u2 :=
 ⟨(c.block M (block_lt h.blk) h.ne h.nr).trans h.blk, h.ne, fun e => by
   rcases f M e.symm with h4 | h4
   ·exact h.nr h4.symm
   ·exact absurd (block_lt h.blk) (by omega)⟩
theorem XA.below {M A : Nat} {T : TypeId} {C : Array Value} {R : Option Nat} {u u2 : World} (h : XA M A T C R u) (hb : Below u.heap.size u u2) : XA M A T C R u2 := ⟨blk_keep h.blk hb, h.ne, h.nr⟩
theorem TR.doneX {A b k : Nat} {l : List Cel} {w u u2 : World} (T : TR A none u l b k u2) (hb : Below w.heap.size w u) (hA : w.heap.size ≤ A) :
 ∃ v, SQ w l v u2 ∧ u2.cell? ⟨A, 0, none⟩ = some v ∧ u2.cell? ⟨A, 2, none⟩ = some (.int .i64 (k : Int)) := by
 obtain ⟨R2, h1, h2, h3⟩ := T.ex
 obtain ⟨v, h4, h5, h6, h7⟩ := h1.ex
 refine ⟨v, ⟨h2.to_below hb hb.size hA (fun n hn => by cases hn), ?_⟩, by rw [cell_of_row u2 A 0 _ _ _ h4]; rfl, by rw [cell_of_row u2 A 2 _ _ _ h4]; rfl⟩
 refine ⟨h5.1, h5.2.imp id fun ⟨g, cap, cur, e, hz, hr⟩ => ⟨g, cap, cur, e, ?_, hr⟩⟩
 have hg : R2 = some g := by rw [← h6, e]; rfl
 rcases h3 g hg with h8 | h8
 ·cases h8
 ·exact Nat.le_trans hb.size h8
abbrev swC (A w tops rest : Nat) : Array Value := #[.pointer (some ⟨A, 0, none⟩), .int .i64 (w : Int), .int .u64 (tops : Int), .int .u64 (rest : Int)]
abbrev SWA (M A w tops rest : Nat) (R : Option Nat) (u : World) : Prop := XA M A 81 (swC A w tops rest) R u
def addC (w tops rest x y : Nat) : List Cel := if w = 64 then [getc x, getc y, opc 124] else [getc x, numc rest, opc 131, getc y, numc rest, opc 131, opc 124, getc x, getc y, opc 133, numc tops, opc 131, opc 133]
set_option maxRecDepth 100000 in
theorem swadd_k (M A w tops rest b k x y : Nat) (l : List Cel) (R : Option Nat) (u : World) (h : TA A l b k R u) (hM : SWA M A w tops rest R u) (h1 : l.length + 30 ≤ 1000) (hw : w ≤ 64) :
 Calls Tryz.prog 68 #[.pointer (some ⟨M, 0, none⟩), .int .i64 (x : Int), .int .i64 (y : Int)] u fun e u' => e = .returned (.tuple #[]) ∧ TR A R u (l ++ addC w tops rest x y) b k u' := by
 have T := h.start
 clear h
 have hB := hM.blk
 unfold addC
 by_cases c : w = 64
 ·have tw : ((w : Int) == 64) = true := by rw [c]; rfl
  rw [if_pos c]
  clear c hw
  go_enter Tryz.func68, Tryz.ntmps68
  go_wp2_with (first | ((with_reducible refine load_w ?_ 3 isAgg_int _ rfl _ 1 rfl _ _ (T.get hB hM.ne hM.nr) _ rfl ?_); (focus rfl)) | ((with_reducible refine load_w ?_ 77 isAgg_asm _ rfl _ _ rfl _ _ (T.get hB hM.ne hM.nr) _ rfl ?_); (focus rfl)) | (go_at_call 38; refine Calls.mono (TR.stepA T fun R2 h => get_k A b _ _ _ [x, y] R2 _ (h.alloc _) (IL.two h _ _) (by (try simp only [zP, zN, zM, zL, zH, regs_len]); omega)) ?_; rintro e u2 ⟨rfl, T⟩) | (go_at_call 57; refine Calls.mono (TR.stepA T fun R2 h => op_k A b _ _ _ [124] R2 _ (h.alloc _) (IL.one h _) (by (try simp only [zP, zN, zM, zL, zH, regs_len]); omega)) ?_; rintro e u2 ⟨rfl, T⟩))
  first | go_end0 | ((try simp only [Exit.inBlock, Exit.then]); refine bodyPost_ret (results_none rfl _ _ _) rfl ?_)
  exact ⟨rfl, by simpa [List.append_assoc] using T⟩
 ·have tw : ((w : Int) == 64) = false := by rw [beq_eq_false_iff_ne]; omega
  rw [if_neg c]
  clear c hw
  go_enter Tryz.func68, Tryz.ntmps68
  go_wp2_with (first | ((with_reducible refine load_w ?_ 3 isAgg_int _ rfl _ 1 rfl _ _ (T.get hB hM.ne hM.nr) _ rfl ?_); (focus rfl)) | ((with_reducible refine load_w ?_ 77 isAgg_asm _ rfl _ _ rfl _ _ (T.get hB hM.ne hM.nr) _ rfl ?_); (focus rfl)) | (go_at_call 38; refine Calls.mono (TR.stepA T fun R2 h => get_k A b _ _ _ [x] R2 _ (h.alloc _) (IL.one h _) (by (try simp only [zP, zN, zM, zL, zH, regs_len]); omega)) ?_; rintro e u2 ⟨rfl, T⟩))
  have hB4 := T.get hB hM.ne hM.nr
  refine region_sp1 (LS _ #[.int .i64 131] 3 1) 11 10 [0, 1, 2, 3, 4, 5, 6, 7, 8, 9] rfl (by kernel_rfl) rfl rfl LS.start ?_
  simp only [opsAt, List.getElem?_cons_zero, List.getElem?_cons_succ, List.drop_succ_cons, List.drop_zero]
  repeat (first | (refine wpDA_here rfl (fun D w hS => run_ldq _ isAgg_asm _ rfl M 0 rfl (.pointer (some ⟨A, 0, none⟩)) (by rw [cell_of_row w M 0 _ _ _ (hS.get hB4)]; rfl)) ?_; simp only [Act.put, z5, z6, z7]) | (refine wpDA_here rfl (fun D w hS => run_ldq _ isAgg_u6 _ rfl M 3 rfl (.int .u64 (rest : Int)) (by rw [cell_of_row w M 3 _ _ _ (hS.get hB4)]; rfl)) ?_; simp only [Act.put, z5, z6, z7]) | (refine wpDA_pure (v := ?_) rfl (fun u => ?_) ?_; rotate_left; (focus (go_simp; (try with_reducible rfl); done)); simp only [Act.put, z5, z6, z7]))
  refine wpDA_nil ⟨fun w hS => ⟨_, _, hS.mk1, run_bi1_op _ _ rfl rfl⟩, fun s w1 hS => ?_⟩
  obtain ⟨x0, rfl, hx1, hx2⟩ := hS.new s rfl
  have hb1 := hS.bel
  clear hS hB4
  go_wp2_with (first | (go_at_call 44; refine Calls.mono (TR.stepB T hb1 fun R2 h => num_k A b _ rest _ _ [131] R2 _ (h.below hb1) (IL.far h x0 hx1 _ _ hx2 _ _ _ rfl (vals1 131)) (by (try simp only [zP, zN, zM, zL, zH, regs_len]); omega)) ?_; clear hb1; rintro e u2 ⟨rfl, T⟩) | ((with_reducible refine load_w ?_ 77 isAgg_asm _ rfl _ _ rfl _ _ (T.get hB hM.ne hM.nr) _ rfl ?_); (focus rfl)) | (go_at_call 38; refine Calls.mono (TR.stepA T fun R2 h => get_k A b _ _ _ [y] R2 _ (h.alloc _) (IL.one h _) (by (try simp only [zP, zN, zM, zL, zH, regs_len]); omega)) ?_; rintro e u2 ⟨rfl, T⟩))
  have hB4 := T.get hB hM.ne hM.nr
  refine region_sp1 (LS _ #[.int .i64 131, .int .i64 124] 3 2) 11 10 [0, 1, 2, 3, 4, 5, 6, 7, 8, 9] rfl (by kernel_rfl) rfl rfl LS.start ?_
  simp only [opsAt, List.getElem?_cons_zero, List.getElem?_cons_succ, List.drop_succ_cons, List.drop_zero]
  repeat (first | (refine wpDA_here rfl (fun D w hS => run_ldq _ isAgg_asm _ rfl M 0 rfl (.pointer (some ⟨A, 0, none⟩)) (by rw [cell_of_row w M 0 _ _ _ (hS.get hB4)]; rfl)) ?_; simp only [Act.put, z5, z6, z7]) | (refine wpDA_here rfl (fun D w hS => run_ldq _ isAgg_u6 _ rfl M 3 rfl (.int .u64 (rest : Int)) (by rw [cell_of_row w M 3 _ _ _ (hS.get hB4)]; rfl)) ?_; simp only [Act.put, z5, z6, z7]) | (refine wpDA_pure (v := ?_) rfl (fun u => ?_) ?_; rotate_left; (focus (go_simp; (try with_reducible rfl); done)); simp only [Act.put, z5, z6, z7]))
  refine wpDA_nil ⟨fun w hS => ⟨_, _, hS.mk1, run_bi2_op _ _ _ _ rfl rfl rfl⟩, fun s w1 hS => ?_⟩
  obtain ⟨x0, rfl, hx1, hx2⟩ := hS.new s rfl
  have hb1 := hS.bel
  clear hS hB4
  go_wp2_with (first | (go_at_call 44; refine Calls.mono (TR.stepB T hb1 fun R2 h => num_k A b _ rest _ _ [131, 124] R2 _ (h.below hb1) (IL.far h x0 hx1 _ _ hx2 _ _ _ rfl (vals2 131 124)) (by (try simp only [zP, zN, zM, zL, zH, regs_len]); omega)) ?_; clear hb1; rintro e u2 ⟨rfl, T⟩) | ((with_reducible refine load_w ?_ 77 isAgg_asm _ rfl _ _ rfl _ _ (T.get hB hM.ne hM.nr) _ rfl ?_); (focus rfl)) | (go_at_call 38; refine Calls.mono (TR.stepA T fun R2 h => get_k A b _ _ _ [x, y] R2 _ (h.alloc _) (IL.two h _ _) (by (try simp only [zP, zN, zM, zL, zH, regs_len]); omega)) ?_; rintro e u2 ⟨rfl, T⟩) | (go_at_call 57; refine Calls.mono (TR.stepA T fun R2 h => op_k A b _ _ _ [133] R2 _ (h.alloc _) (IL.one h _) (by (try simp only [zP, zN, zM, zL, zH, regs_len]); omega)) ?_; rintro e u2 ⟨rfl, T⟩))
  have hB4 := T.get hB hM.ne hM.nr
  refine region_sp1 (LS _ #[.int .i64 131, .int .i64 133] 3 2) 11 10 [0, 1, 2, 3, 4, 5, 6, 7, 8, 9] rfl (by kernel_rfl) rfl rfl LS.start ?_
  simp only [opsAt, List.getElem?_cons_zero, List.getElem?_cons_succ, List.drop_succ_cons, List.drop_zero]
  repeat (first | (refine wpDA_here rfl (fun D w hS => run_ldq _ isAgg_asm _ rfl M 0 rfl (.pointer (some ⟨A, 0, none⟩)) (by rw [cell_of_row w M 0 _ _ _ (hS.get hB4)]; rfl)) ?_; simp only [Act.put, z5, z6, z7]) | (refine wpDA_here rfl (fun D w hS => run_ldq _ isAgg_u6 _ rfl M 2 rfl (.int .u64 (tops : Int)) (by rw [cell_of_row w M 2 _ _ _ (hS.get hB4)]; rfl)) ?_; simp only [Act.put, z5, z6, z7]) | (refine wpDA_pure (v := ?_) rfl (fun u => ?_) ?_; rotate_left; (focus (go_simp; (try with_reducible rfl); done)); simp only [Act.put, z5, z6, z7]))
  refine wpDA_nil ⟨fun w hS => ⟨_, _, hS.mk1, run_bi2_op _ _ _ _ rfl rfl rfl⟩, fun s w1 hS => ?_⟩
  obtain ⟨x0, rfl, hx1, hx2⟩ := hS.new s rfl
  have hb1 := hS.bel
  clear hS hB4
  go_wp2_with (first | (go_at_call 44; refine Calls.mono (TR.stepB T hb1 fun R2 h => num_k A b _ tops _ _ [131, 133] R2 _ (h.below hb1) (IL.far h x0 hx1 _ _ hx2 _ _ _ rfl (vals2 131 133)) (by (try simp only [zP, zN, zM, zL, zH, regs_len]); omega)) ?_; clear hb1; rintro e u2 ⟨rfl, T⟩))
  go_end0
  exact ⟨rfl, by simpa [List.append_assoc] using T⟩
set_option maxRecDepth 100000 in
theorem swarith14_k (M A w tops rest b k x y : Nat) (l : List Cel) (R : Option Nat) (u : World) (h : TA A l b k R u) (hM : SWA M A w tops rest R u) (h1 : l.length + 30 ≤ 1000) (hw : w ≤ 64) :
 Calls Tryz.prog 33 #[.pointer (some ⟨M, 0, none⟩), .int .i64 14, .int .i64 (x : Int), .int .i64 (y : Int)] u fun e u' => e = .returned (.tuple #[]) ∧ TR A R u (l ++ addC w tops rest x y) b k u' := by
 have HA := Lib.hid (swadd_k M A w tops rest b k x y l R u h hM h1 hw)
 clear h hM
 go_enter Tryz.func33, Tryz.ntmps33
 go_wp2_with (go_at_call 68; refine HA.out.mono ?_; rintro e u2 ⟨rfl, T⟩)
 first | go_end0 | ((try simp only [Exit.inBlock, Exit.then]); refine bodyPost_ret (results_none rfl _ _ _) rfl ?_)
 exact ⟨rfl, T⟩
abbrev VarA (G A : Nat) (T : TypeId) (v : Value) (R : Option Nat) (u : World) : Prop := XA G A T #[v] R u
def HalfC (fn : FuncId) (M A w tops rest b G K kv : Nat) (c : Nat) (g : Nat → Nat → Nat → List Cel) (B : Nat) : Prop :=
 ∀ (l : List Cel) (R : Option Nat) (u : World) (k x y : Nat), TA A l b k R u → SWA M A w tops rest R u → VarA G A 76 (.pointer (some ⟨M, 0, none⟩)) R u → VarA K A 3 (.int .i64 (kv : Int)) R u → l.length + B ≤ 1000 → b + k ≤ 9000 →
  Calls Tryz.prog fn #[.int .i64 (x : Int), .int .i64 (y : Int), .pointer (some ⟨G, 0, none⟩), .pointer (some ⟨K, 0, none⟩)] u fun e u' => e = .returned (.tuple #[]) ∧ TR A R u (l ++ g k x y) b (k + c) u'
theorem isAgg_swp (w : World) : (isAgg 76).run Tryz.prog w = .ok false w := by kernel_rfl
set_option maxRecDepth 100000 in
theorem sw_half2 (M A w tops rest b G K : Nat) (hw : w ≤ 64) : HalfC 32 M A w tops rest b G K 14 0 (fun _ x y => addC w tops rest x y) 30 := by
 intro l R u k x y h hM hG hK h1 hb
 have HA := Lib.hid (swarith14_k M A w tops rest b k x y l R u h hM h1 hw)
 have cG : u.cell? ⟨G, 0, none⟩ = some (.pointer (some ⟨M, 0, none⟩)) := by rw [cell_of_row u G 0 _ _ _ hG.blk]; rfl
 have cK : u.cell? ⟨K, 0, none⟩ = some (.int .i64 14) := by rw [cell_of_row u K 0 _ _ _ hK.blk]; rfl
 clear h hM hG hK
 go_enter Tryz.func32, Tryz.ntmps32
 go_wp2_with (go_at_call 33; refine HA.out.mono ?_; rintro e u2 ⟨rfl, T⟩)
 first | go_end0 | ((try simp only [Exit.inBlock, Exit.then]); refine bodyPost_ret (results_none rfl _ _ _) rfl ?_)
 exact ⟨rfl, T⟩
structure IG (A : Nat) (R : Option Nat) (g : Nat) (xs : List Nat) (u : World) : Prop where
 ex : ∃ cur T, u.heap[g]? = some (.cells cur T (0, 0)) ∧ ∀ (i x : Nat), xs[i]? = some x → cur[i]? = some (Value.int .i64 (x : Int))
 ne : g ≠ A
 nr : some g ≠ R
theorem IL.ig {A : Nat} {R : Option Nat} {u : World} {v : Value} {xs : List Nat} (h : IL A R u v xs) (h0 : xs ≠ []) {n : Nat} (hn : xs.length = n) : ∃ g c, v = .slice (some ⟨g, 0, none⟩) n c ∧ IG A R g xs u := by
 subst hn
 obtain ⟨ad, c, e, hi⟩ := h.ex
 rcases hi with h1 | ⟨g, cur, T0, rfl, hg, hA, hR, hc⟩
 ·exact absurd h1 h0
 ·exact ⟨g, c, e, ⟨cur, T0, hg, hc⟩, hA, hR⟩
theorem IG.get {A : Nat} {R : Option Nat} {g : Nat} {xs : List Nat} {u u2 : World} {l : List Cel} {b k : Nat} (h : IG A R g xs u) (T : TR A R u l b k u2) (i x : Nat) (hx : xs[i]? = some x) : u2.cell? ⟨g, i, none⟩ = some (.int .i64 (x : Int)) := by
 obtain ⟨cur, T0, hg, hc⟩ := h.ex
 have := T.get hg h.ne h.nr
 rw [cell_of_row u2 g i _ _ _ this]
 exact hc i x hx
theorem regs_at (s : Nat) : ∀ (n i : Nat), i < n → (regs s n)[i]? = some (s + i)
 | 0, i, h => by omega
 | n + 1, i, h => by
   rw [regs]
   by_cases e : i = n
   ·subst e
    rw [List.getElem?_append_right (by rw [regs_len]; omega), regs_len]
    simp
   ·rw [List.getElem?_append_left (by rw [regs_len]; omega)]
    exact regs_at s n i (by omega)
theorem cell_stay {u u2 : World} {a : Addr} {v : Value} (h : u.cell? a = some v) (hb : Below u.heap.size u u2) : u2.cell? a = some v := (hb.cell (World.block_lt_of_cell? _ _ h)).trans h
theorem TR.stepH {fn : FuncId} {M A w tops rest b G K kv c B : Nat} {g : Nat → Nat → Nat → List Cel} (H : HalfC fn M A w tops rest b G K kv c g B) {R : Option Nat} {l : List Cel} {k x y : Nat} {zx zy : Int} {u u2 u3 : World} (T : TR A R u l b k u2) (hb3 : Below u2.heap.size u2 u3) (hM : SWA M A w tops rest R u) (hG : VarA G A 76 (.pointer (some ⟨M, 0, none⟩)) R u) (hK : VarA K A 3 (.int .i64 (kv : Int)) R u) (h1 : l.length + B ≤ 1000) (h2 : b + k ≤ 9000) (ex : zx = x) (ey : zy = y) :
 Calls Tryz.prog fn #[.int .i64 zx, .int .i64 zy, .pointer (some ⟨G, 0, none⟩), .pointer (some ⟨K, 0, none⟩)] u3 fun e u' => e = .returned (.tuple #[]) ∧ TR A R u (l ++ g k x y) b (k + c) u' := by
 subst ex ey
 obtain ⟨R2, h3, h4, h5⟩ := (T.below hb3).ex
 exact (H l R2 u3 k x y h3 (hM.to h4 h5) (hG.to h4 h5) (hK.to h4 h5) h1 h2).mono fun e u4 hh => ⟨hh.1, TR.trans h4 h5 hh.2⟩
set_option maxRecDepth 100000 in
theorem swtwo_k (fn : FuncId) (hfn : fn = 27 ∨ fn = 32) (M A w tops rest b k G K kv c B : Nat) (g : Nat → Nat → Nat → List Cel) (H : HalfC fn M A w tops rest b G K kv c g B) (hg : ∀ k x y, (g k x y).length ≤ B) (hB9 : B ≤ 200) (l : List Cel) (R : Option Nat) (u : World) (h : TA A l b k R u) (hM : SWA M A w tops rest R u) (hG : VarA G A 76 (.pointer (some ⟨M, 0, none⟩)) R u) (hK : VarA K A 3 (.int .i64 (kv : Int)) R u) (h1 : l.length + 500 ≤ 1000) (hc : c ≤ 100) (hb : b + k ≤ 8000) :
 Calls Tryz.prog 26 #[.pointer (some ⟨M, 0, none⟩), .func (.func fn) #[] #[.pointer (some ⟨G, 0, none⟩), .pointer (some ⟨K, 0, none⟩)]] u fun e u' => e = .returned (.tuple #[]) ∧ TR A R u (l ++ (([b + k + 3, b + k + 2, b + k + 1, b + k].map setc) ++ g (k + 4) (b + k) (b + k + 2) ++ g (k + 4 + c) (b + k + 1) (b + k + 3))) b (k + 4 + c + c) u' := by
 have HH := Lib.hid H
 have hl1 := hg (k + 4) (b + k) (b + k + 2)
 clear H hg
 have T := h.start
 clear h
 have hB := hM.blk
 rcases hfn with rfl | rfl
 all_goals
  go_enter Tryz.func26, Tryz.ntmps26
  go_wp2_with (first | ((with_reducible refine load_w ?_ 77 isAgg_asm _ rfl _ _ rfl _ _ (T.get hB hM.ne hM.nr) _ rfl ?_); (focus rfl)) | (go_at_call 29; obtain ⟨R1, hA1, hC1, hF1⟩ := T.ex; have hM1 := hM.to hC1 hF1; have hG1 := hG.to hC1 hF1; have hK1 := hK.to hC1 hF1; refine Calls.mono (save_k A b k 4 _ R1 _ hA1 (by decide) (by omega) (by (try simp only [zP, zN, zM, zL, zH, regs_len]); omega)) ?_; clear T; rintro e u3 ⟨v, R3, rfl, hA3, hC3, hF3, hI⟩; have hM := hM1.to hC3 hF3; have hG := hG1.to hC3 hF3; have hK := hK1.to hC3 hF3; have hC := Chg.trans hC1 hC3 hF1; have hF := Frsh.trans hF1 hF3 hC1.size; clear hC1 hC3 hF1 hF3 hM1 hG1 hK1 hA1; have T := hA3.start; have hB := hM.blk; obtain ⟨g0, c0, rfl, hIG⟩ := hI.ig (by simp [regs]) (regs_len _ 4); clear hA3 hI))
  have cc : Hid (∀ i, i < 4 → ∀ l2 k2 u4, TR A R3 u3 l2 b k2 u4 → u4.cell? ⟨g0, i, none⟩ = some (.int .i64 ((b + k + i : Nat) : Int))) := Lib.hid (fun i hi l2 k2 u4 T4 => hIG.get T4 i _ (regs_at _ 4 i hi))
  have hc0 := cc.out 0 (by decide) _ _ _ T
  have hc2 := cc.out 2 (by decide) _ _ _ T
  refine region_do (fun v => Below u3.heap.size u3 v) 7 (by kernel_rfl) (by kernel_rfl) (Below.refl _ _).drew ?_
  simp only [zF, zE, zD, zC]
  repeat (first | (refine wpD_hereg rfl (fun v hS => run_ldq _ isAgg_int _ rfl g0 0 rfl _ (cell_stay hc0 hS)) ?_; simp only [Act.put, z5, z6, z7]) | (refine wpD_hereg rfl (fun v hS => run_ldq _ isAgg_int _ rfl g0 2 rfl _ (cell_stay hc2 hS)) ?_; simp only [Act.put, z5, z6, z7]) | (refine wpD_pure (v := ?_) rfl (fun v => ?_) ?_; rotate_left; (focus (go_simp; (try with_reducible rfl); done)); simp only [Act.put, z5, z6, z7]))
  refine wpD_nil (fun w1 hb1 => ?_)
  clear hc0 hc2
  go_wp2_with (first | (go_at_call 27; refine Calls.mono (TR.stepH HH.out T hb1 hM hG hK (by simp [regs]; omega) (by omega) rfl rfl) ?_; clear hb1; rintro e u4 ⟨rfl, T⟩) | (go_at_call 32; refine Calls.mono (TR.stepH HH.out T hb1 hM hG hK (by simp [regs]; omega) (by omega) rfl rfl) ?_; clear hb1; rintro e u4 ⟨rfl, T⟩))
  have hc1 := cc.out 1 (by decide) _ _ _ T
  have hc3 := cc.out 3 (by decide) _ _ _ T
  refine region_do (fun v => Below u4.heap.size u4 v) 7 (by kernel_rfl) (by kernel_rfl) (Below.refl _ _).drew ?_
  simp only [zF, zE, zD, zC]
  repeat (first | (refine wpD_hereg rfl (fun v hS => run_ldq _ isAgg_int _ rfl g0 1 rfl _ (cell_stay hc1 hS)) ?_; simp only [Act.put, z5, z6, z7]) | (refine wpD_hereg rfl (fun v hS => run_ldq _ isAgg_int _ rfl g0 3 rfl _ (cell_stay hc3 hS)) ?_; simp only [Act.put, z5, z6, z7]) | (refine wpD_pure (v := ?_) rfl (fun v => ?_) ?_; rotate_left; (focus (go_simp; (try with_reducible rfl); done)); simp only [Act.put, z5, z6, z7]))
  refine wpD_nil (fun w1 hb1 => ?_)
  clear hc1 hc3
  go_wp2_with (first | (go_at_call 27; refine Calls.mono (TR.stepH HH.out T hb1 hM hG hK (by simp [regs]; omega) (by omega) rfl rfl) ?_; clear hb1; rintro e u5 ⟨rfl, T⟩) | (go_at_call 32; refine Calls.mono (TR.stepH HH.out T hb1 hM hG hK (by simp [regs]; omega) (by omega) rfl rfl) ?_; clear hb1; rintro e u5 ⟨rfl, T⟩))
  first | go_end0 | ((try simp only [Exit.inBlock, Exit.then]); refine bodyPost_ret (results_none rfl _ _ _) rfl ?_)
  exact ⟨rfl, TR.cast (TR.trans hC hF T) _ _ (by simp [regs, List.append_assoc]) (by omega)⟩
end Go.Proofs.YtmfmokblmipagaaGreat
end
