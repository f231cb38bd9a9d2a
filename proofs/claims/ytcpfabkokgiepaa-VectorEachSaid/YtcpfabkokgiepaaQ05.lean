/-
  Texts G, VmP, CmpA, Eq, WidA, WideBin, Open.
-/
import Derived.Test.YtcpfabkokgiepaaQ01
import Derived.Test.YtcpfabkokgiepaaQ02
import Derived.Test.YtcpfabkokgiepaaQ03
import Derived.Test.YtcpfabkokgiepaaQ04
set_option linter.unusedSimpArgs false
set_option linter.unusedVariables false
set_option maxHeartbeats 8000000
open Pl
section
namespace Go.Proofs.Ytcpfabkokgiepaa
open Go.RowKit Pl
theorem tF {ops : Array Oper} {rest : List Oper} {o : Oper} {a : Act} {w : World} {Q : Exit → Act → World → Prop} (hw : Region.wanted o (yielded ops a.tmps) = true) (x : Operand) (ho : o.op = .load 45 x)
 (g : Nat) (hx : a.eval x = .pointer (some ⟨g, 0, none⟩)) (v : Vec) (hg : w.heap[g]? = some (.cells (mY v) 45 (0, 0)))
 (h : wpList Try.prog ops Q rest (a.put o.dst (.agg (mY v))) w) : wpList Try.prog ops Q (o :: rest) a w :=
 wpList_step fun K hK => by
  rw [if_pos hw]
  exact wp_load_row _ x ho g hx _ _ _ _ hg r5 rfl (sY v) (hK _ _ h)
structure H2 (w0 : World) (a b : Vec) (u : World) : Prop where
 bel : Below w0.heap.size w0 u
 fst : u.heap[w0.heap.size]? = some (.cells (mY a) 45 (0, 0))
 snd : u.heap[w0.heap.size + 1]? = some (.cells (mY b) 45 (0, 0))
theorem H2.below {w0 u u1 : World} {a b : Vec} (h : H2 w0 a b u) (hb : Below u.heap.size u u1) : H2 w0 a b u1 :=
 ⟨h.bel.trans (hb.mono (by have := mF h.snd; omega)), mV h.fst hb, mV h.snd hb⟩
theorem H2.store {w0 u u1 : World} {a b v : Vec} {x : Obj} (h : H2 w0 a b u) (hs : Sets (u.alloc x) u.heap.size v u1) : H2 w0 a b u1 :=
 ⟨tH h.bel (Nat.le_refl _) hs, mR (mE h.fst x) hs (Nat.ne_of_lt (mF h.fst)), mR (mE h.snd x) hs (Nat.ne_of_lt (mF h.snd))⟩
theorem H2.drew {w0 u : World} {a b : Vec} (h : H2 w0 a b u) : H2 w0 a b u.drew := ⟨h.bel.drew, h.fst, h.snd⟩
theorem H2.start {w w1 : World} (a b : Vec) (hb1 : Below ((w.alloc (.cells (mY a) 45)).alloc (.cells (mY b) 45)).heap.size ((w.alloc (.cells (mY a) 45)).alloc (.cells (mY b) 45)) w1) : H2 w a b w1 :=
 ⟨(((Below.refl _ _).alloc (Nat.le_refl _) _).alloc (by simp) _).trans (hb1.mono (by simp; omega)), mV (heap_alloc2_old _ _ _) hb1, mV (heap_alloc2_new _ _ _) hb1⟩
structure H3 (w0 : World) (a b d : Vec) (D : Nat) (u : World) : Prop where
 h2 : H2 w0 a b u
 dd : u.heap[D]? = some (.cells (mY d) 45 (0, 0))
theorem H3.below {w0 u u1 : World} {a b d : Vec} {D : Nat} (h : H3 w0 a b d D u) (hb : Below u.heap.size u u1) : H3 w0 a b d D u1 := ⟨h.h2.below hb, mV h.dd hb⟩
theorem H3.drew {w0 u : World} {a b d : Vec} {D : Nat} (h : H3 w0 a b d D u) : H3 w0 a b d D u.drew := ⟨h.h2.drew, h.dd⟩
section
variable {P : Program} {ops : Array Oper} {S : World → Prop}
theorem wpD_callg {L : Act → Prop} {o : Oper} {rest : List Oper} {v : Value} {a : Act} (hg : Region.wanted o (yielded ops a.tmps) = true) (f : FuncId) (args : Array Value)
 (h : ∀ w, (execOp a.eval o).run P w = .ok (.enter f args) w) (hc : ∀ w, S w → Calls P f args w (fun e w2 => e = .returned v ∧ S w2))
 (hr : wpD P ops S L rest (a.put o.dst v)) : wpD P ops S L (o :: rest) a :=
 ⟨v, .inl ⟨hg, fun w hS => ⟨w, .inr (.inr ⟨f, args, h w, hc w hS⟩)⟩⟩, hr⟩
theorem rS {L : Act → Prop} {o : Oper} {rest : List Oper} {v : Value} {a : Act} (hg : Region.wanted o (yielded ops a.tmps) = true) (h : ∀ w, S w → (execOp a.eval o).run P w = .ok (.value v) w)
 (hr : wpD P ops S L rest (a.put o.dst v)) : wpD P ops S L (o :: rest) a :=
 ⟨v, .inl ⟨hg, fun w hS => ⟨w, .inl ⟨h w hS, hS⟩⟩⟩, hr⟩
end
end Go.Proofs.Ytcpfabkokgiepaa
end
section
namespace Go.Proofs.Ytcpfabkokgiepaa
open Go.RowKit Pl
theorem putAt_comm (v : Vec) (s l x s' l' x' : Nat) (h : s + l ≤ 128) (h' : s' + l' ≤ 128) (hd : s' + l' ≤ s ∨ s + l ≤ s') : pN (pN v s l x) s' l' x' = pN (pN v s' l' x') s l x := by
 apply fS
 intro j _
 rw [pQ _ _ _ _ _ h', pQ _ _ _ _ _ h, pQ _ _ _ _ _ h, pQ _ _ _ _ _ h']
 by_cases h1 : s ≤ j ∧ j < s + l
 ·rw [if_pos h1, if_pos h1, if_neg (by omega)]
 ·rw [if_neg h1, if_neg h1]
theorem join_step (k lo hi : Nat) (hk : k < 8) : pN (pN (pN (pN 0 0 (8 * k) lo) 64 (8 * k) hi) (8 * k) 8 (lo / 2 ^ (8 * k))) (8 * (8 + k)) 8 (hi / 2 ^ (8 * k)) = pN (pN 0 0 (8 * (k + 1)) lo) 64 (8 * (k + 1)) hi := by
 have e := v8 0 0 (8 * k) 8 lo (by omega)
 rw [Nat.zero_add] at e
 rw [putAt_comm _ 64 (8 * k) hi (8 * k) 8 _ (by omega) (by omega) (by omega), e, show 8 * (8 + k) = 64 + 8 * k by omega, v8 _ _ _ _ _ (by omega)]
 rfl
set_option maxRecDepth 100000 in
theorem split_k (v : Vec) (w : World) :
 Calls Try.prog 16 #[.agg (mY v)] w fun e w' => e = .returned (.agg #[.int .u64 (mT v 64 0 : Nat), .int .u64 (mT v 64 1 : Nat)]) ∧ Below w.heap.size w w' := by
 go_enter Try.func16, Try.ntmps16
 go_wp2_with fail
 obtain ⟨W, hW, hB, hO, hZ⟩ := zE w v
 rw [← hW]
 clear hW
 have hLt := mF hB
 refine mN (fun u => Below W.heap.size W u) 5 (by kernel_rfl) (by kernel_rfl) (Below.refl _ _).drew ?_
 simp only [zP, zN, zM, zL]
 repeat (first | (refine z8 ?_) | (refine wpD_call (v := .int .u64 (tW v (8 * 0) (8 * 8) : Nat)) rfl 48 ?_ (fun u => ?_) (fun u hS => ?_) ?_; rotate_left 1; (focus (go_simp; (try with_reducible rfl); done)); (focus (refine (d6 v _ _ 8 _ u (by omega) (by omega) (hS.block _ hLt |>.trans hB)).mono ?_; rintro e u2 ⟨rfl, rfl⟩; exact ⟨rfl, hS⟩)); simp only [Act.put, z5, z6, z7]) | (refine wpD_call (v := .int .u64 (tW v (8 * 8) (8 * 8) : Nat)) rfl 48 ?_ (fun u => ?_) (fun u hS => ?_) ?_; rotate_left 1; (focus (go_simp; (try with_reducible rfl); done)); (focus (refine (d6 v _ _ 8 _ u (by omega) (by omega) (hS.block _ hLt |>.trans hB)).mono ?_; rintro e u2 ⟨rfl, rfl⟩; exact ⟨rfl, hS⟩)); simp only [Act.put, z5, z6, z7]))
 refine mH fun u hS => ?_
 have hO1 := (hS.block _ (mF hO)).trans hO
 have hc0 : u.cell? ⟨w.heap.size + 1, 0, none⟩ = some (.int .u64 0) := by rw [cell_of_row u _ 0 _ _ _ hO1]; rfl
 have hc1 : u.cell? ⟨w.heap.size + 1, 1, none⟩ = some (.int .u64 0) := by rw [cell_of_row u _ 1 _ _ _ hO1]; rfl
 have hf0 := frozen_of_row u (w.heap.size + 1) 0 _ _ hO1
 have hf1 := frozen_of_row u (w.heap.size + 1) 1 _ _ hO1
 go_wp2_with fail
 obtain ⟨fs, hund⟩ : ∃ fs, Try.prog.underlying 47 = some (.struct fs) := ⟨_, rfl⟩
 have hE : ((u.setCell ⟨w.heap.size + 1, 0, none⟩ (.int .u64 (tW v 0 64 : Nat))).setCell ⟨w.heap.size + 1, 1, none⟩ (.int .u64 (tW v 64 64 : Nat))).heap[w.heap.size + 1]? = some (.cells #[.int .u64 (tW v 0 64 : Nat), .int .u64 (tW v 64 64 : Nat)] 47 (0, 0)) := by
  rw [heap_setCell_same _ _ _ _ _ _ (heap_setCell_same _ _ _ _ _ _ hO1)]
  rfl
 refine bodyPost_ret (results_cell_row rfl _ _ (w.heap.size + 1) _ _ _ _ rfl hE hund rfl (by kernel_rfl)) rfl ⟨rfl, ?_⟩
 exact hZ.trans (((hS.mono hZ.size).setCell (by simp) _).setCell (by simp) _)
set_option maxRecDepth 100000 in
theorem sB (lo hi : Nat) (w : World) :
 Calls Try.prog 62 #[.agg #[.int .u64 (lo : Nat), .int .u64 (hi : Nat)]] w fun e w' => e = .returned (.agg (mY (t7 (t7 0 64 0 lo) 64 1 hi))) ∧ Below w.heap.size w w' := by
 go_enter Try.func62, Try.ntmps62
 go_wp2_with fail
 rw [← mU]
 obtain ⟨W, hW⟩ : ∃ W, W = ((w.alloc (.cells #[.int .u64 (lo : Nat), .int .u64 (hi : Nat)] 47)).alloc (.cells (mY 0) 45)).alloc (.cells (mY 0) 45) := ⟨_, rfl⟩
 have hB : W.heap[w.heap.size]? = some (.cells #[.int .u64 (lo : Nat), .int .u64 (hi : Nat)] 47 (0, 0)) := hW ▸ pB _ _ _ _
 have hR : W.heap[w.heap.size + 1]? = some (.cells (mY 0) 45 (0, 0)) := hW ▸ pC _ _ _ _
 have hO : W.heap[w.heap.size + 1 + 1]? = some (.cells (mY 0) 45 (0, 0)) := hW ▸ pK _ _ _ _
 have hZ : Below w.heap.size w W := hW ▸ pL _ _ _ _
 rw [← hW]
 clear hW
 go_loopw [5] (fun iv wr => ∃ k : Nat, k ≤ 8 ∧ iv = .int .i64 (k : Int) ∧ Sets W (w.heap.size + 1 + 1) (pN (pN 0 0 (8 * k) lo) 64 (8 * k) hi) wr) (fun iv _ => 8 - (intOf iv).toNat)
 case atStart => exact ⟨0, Nat.zero_le _, rfl, by rw [fB _ _ _ (by omega), fB _ _ _ (by omega)]; exact Sets.refl hO⟩
 case round =>
  obtain ⟨k, hk, rfl, hs⟩ := hrel
  have hB' := (hs.other _ (show w.heap.size ≠ w.heap.size + 1 + 1 by omega)).trans hB
  have hc0 : wr.cell? ⟨w.heap.size, 0, none⟩ = some (.int .u64 (lo : Nat)) := by rw [cell_of_row wr _ 0 _ _ _ hB']; rfl
  have hc1 : wr.cell? ⟨w.heap.size, 1, none⟩ = some (.int .u64 (hi : Nat)) := by rw [cell_of_row wr _ 1 _ _ _ hB']; rfl
  by_cases hlt : k < 8
  ·have hz1 := Lib.hid (show (lo : Int) / 2 ^ (8 * k) % 256 = ((lo / 2 ^ (8 * k) % 256 : Nat) : Int) by simp)
   have hz2 := Lib.hid (show (hi : Int) / 2 ^ (8 * k) % 256 = ((hi / 2 ^ (8 * k) % 256 : Nat) : Int) by simp)
   go_wp2_with (first | ((with_reducible refine mP rfl _ _ rfl (w.heap.size + 1 + 1) k _ (lo / 2 ^ (8 * k)) rfl rfl _ hs.this (by omega) hz1.out ?_); intro wp hp; have hBp := (hp.other _ (show w.heap.size ≠ w.heap.size + 1 + 1 by omega)).trans hB'; have hcp : wp.cell? ⟨w.heap.size, 1, none⟩ = some (.int .u64 (hi : Nat)) := (by rw [cell_of_row wp _ 1 _ _ _ hBp]; rfl)) | (with_reducible refine mP rfl _ _ rfl (w.heap.size + 1 + 1) (8 + k) _ (hi / 2 ^ (8 * k)) rfl rfl _ hp.this (by omega) hz2.out ?_; intro wq hq))
   go_roundw
   case rel =>
    refine ⟨k + 1, by omega, by go_num, ?_⟩
    have := (hs.trans hp).trans hq
    rw [join_step k lo hi (by omega)] at this
    exact this
   case measure => exact xL
  ·obtain rfl : k = 8 := by omega
   have hR' : wr.heap[w.heap.size + 1]? = some (.cells (mY 0) 45 (0, 0)) := (hs.other _ (by omega)).trans hR
   go_wp2_with (first | (with_reducible refine mG rfl _ rfl _ rfl _ hs.this ?_) | (with_reducible refine mK rfl _ _ rfl (w.heap.size + 1) _ rfl rfl _ hR' ?_; intro wq hq))
   refine bodyPost_ret (results_cell_row rfl _ _ (w.heap.size + 1) _ _ _ _ rfl hq.this r5 rfl (sY _)) rfl ⟨rfl, hZ.trans ((hs.below.mono (by omega)).trans (hq.below.mono (by omega)))⟩
end Go.Proofs.Ytcpfabkokgiepaa
end
section
namespace Go.Proofs.Ytcpfabkokgiepaa
open Go.RowKit Pl
end Go.Proofs.Ytcpfabkokgiepaa
namespace Pl
open Go
def uns (z : Int) : Int := z % 18446744073709551616
def r4 (k : Int) (s t : Int) : Bool :=
 if k = 0 then decide (s = t) else if k = 1 then !decide (s = t) else if k = 2 then decide (s < t) else if k = 3 then decide (uns s < uns t) else if k = 4 then decide (t < s) else if k = 5 then decide (uns t < uns s)
 else if k = 6 then decide (s ≤ t) else if k = 7 then decide (uns s ≤ uns t) else if k = 8 then decide (t ≤ s) else decide (uns t ≤ uns s)
end Pl
namespace Go.Proofs.Ytcpfabkokgiepaa
open Go.RowKit Pl
theorem uns_u64 (z : Int) : IntKind.u64.wrap z = uns z := by rw [IntKind.wrap_u64]; rfl
theorem sF {a b : Bool} (h : a = b) : Ending.returned (.bool a) = .returned (.bool b) := by rw [h]
theorem hold_0 {k : Int} (s t : Int) (h : (k == 0) = true) : (s == t) = r4 k s t := by
 obtain rfl : k = 0 := by simpa using h
 show _ = decide (s = t)
 rw [Bool.eq_iff_iff]; simp
theorem hold_1 {k : Int} (s t : Int) (h : (k == 1) = true) : (s != t) = r4 k s t := by
 obtain rfl : k = 1 := by simpa using h
 show _ = !decide (s = t)
 rw [Bool.eq_iff_iff]; simp
theorem hold_2 {k : Int} (s t : Int) (h : (k == 2) = true) : (decide (s < t)) = r4 k s t := by
 obtain rfl : k = 2 := by simpa using h
 rfl
theorem hold_3 {k : Int} (s t : Int) (h : (k == 3) = true) : (decide (uns s < uns t)) = r4 k s t := by
 obtain rfl : k = 3 := by simpa using h
 rfl
theorem hold_4 {k : Int} (s t : Int) (h : (k == 4) = true) : (decide (t < s)) = r4 k s t := by
 obtain rfl : k = 4 := by simpa using h
 rfl
theorem hold_5 {k : Int} (s t : Int) (h : (k == 5) = true) : (decide (uns t < uns s)) = r4 k s t := by
 obtain rfl : k = 5 := by simpa using h
 rfl
theorem hold_6 {k : Int} (s t : Int) (h : (k == 6) = true) : (decide (s ≤ t)) = r4 k s t := by
 obtain rfl : k = 6 := by simpa using h
 rfl
theorem hold_7 {k : Int} (s t : Int) (h : (k == 7) = true) : (decide (uns s ≤ uns t)) = r4 k s t := by
 obtain rfl : k = 7 := by simpa using h
 rfl
theorem hold_8 {k : Int} (s t : Int) (h : (k == 8) = true) : (decide (t ≤ s)) = r4 k s t := by
 obtain rfl : k = 8 := by simpa using h
 rfl
theorem hold_9 {k : Int} (s t : Int) (h0 : (k == 0) = false) (h1 : (k == 1) = false) (h2 : (k == 2) = false) (h3 : (k == 3) = false) (h4 : (k == 4) = false) (h5 : (k == 5) = false) (h6 : (k == 6) = false) (h7 : (k == 7) = false) (h8 : (k == 8) = false) : (decide (uns t ≤ uns s)) = r4 k s t := by
 simp only [beq_eq_false_iff_ne, ne_eq] at h0 h1 h2 h3 h4 h5 h6 h7 h8
 unfold r4
 rw [if_neg h0, if_neg h1, if_neg h2, if_neg h3, if_neg h4, if_neg h5, if_neg h6, if_neg h7, if_neg h8]
theorem holds_any (k s t : Int) (w : World) : Calls Try.prog 60 #[.int .i64 k, .int .i64 s, .int .i64 t] w fun e w' => e = .returned (.bool (r4 k s t)) ∧ w' = w := by
 have e1 := uns_u64 s
 have e2 := uns_u64 t
 go_enter Try.func60, Try.ntmps60
 go_wp2
 all_goals go_ret
 ·exact ⟨sF (hold_0 s t (by assumption)), rfl⟩
 ·exact ⟨sF (hold_1 s t (by assumption)), rfl⟩
 ·exact ⟨sF (hold_2 s t (by assumption)), rfl⟩
 ·exact ⟨sF (hold_3 s t (by assumption)), rfl⟩
 ·exact ⟨sF (hold_4 s t (by assumption)), rfl⟩
 ·exact ⟨sF (hold_5 s t (by assumption)), rfl⟩
 ·exact ⟨sF (hold_6 s t (by assumption)), rfl⟩
 ·exact ⟨sF (hold_7 s t (by assumption)), rfl⟩
 ·exact ⟨sF (hold_8 s t (by assumption)), rfl⟩
 ·exact ⟨sF (hold_9 s t (by assumption) (by assumption) (by assumption) (by assumption) (by assumption) (by assumption) (by assumption) (by assumption) (by assumption)), rfl⟩
theorem ret_pair2 {a b c d : Int} (h : a = c) (k : b = d) : Ending.returned (.tuple #[.int .i64 a, .int .i64 b]) = .returned (.tuple #[.int .i64 c, .int .i64 d]) := by rw [h, k]
theorem order_row0 (c : Nat) (w : World) (hc : c < 10) : Calls Try.prog 59 #[.int .i64 (64803 + (c : Int))] w fun e w' => e = .returned (.tuple #[.int .i64 8, .int .i64 c]) ∧ w' = w := by
 have e1 : IntKind.i64.wrap (64803 + (c : Int) - 64768) = 35 + (c : Int) := by rw [IntWalk.i64_in _ (by omega)]; omega
 go_enter Try.func59, Try.ntmps59
 go_wp2
 all_goals first
  | (exfalso; omega)
  | (go_ret2
     refine ⟨ret_pair2 ?_ (by omega), rfl⟩
     rw [show (35 + c - 35) / 10 = 0 by omega]; exact IntWalk.wrap64_in _ (by decide))
theorem order_row1 (c : Nat) (w : World) (hc : c < 10) : Calls Try.prog 59 #[.int .i64 (64813 + (c : Int))] w fun e w' => e = .returned (.tuple #[.int .i64 16, .int .i64 c]) ∧ w' = w := by
 have e1 : IntKind.i64.wrap (64813 + (c : Int) - 64768) = 45 + (c : Int) := by rw [IntWalk.i64_in _ (by omega)]; omega
 go_enter Try.func59, Try.ntmps59
 go_wp2
 all_goals first
  | (exfalso; omega)
  | (go_ret2
     refine ⟨ret_pair2 ?_ (by omega), rfl⟩
     rw [show (45 + c - 35) / 10 = 1 by omega]; exact IntWalk.wrap64_in _ (by decide))
theorem order_row2 (c : Nat) (w : World) (hc : c < 10) : Calls Try.prog 59 #[.int .i64 (64823 + (c : Int))] w fun e w' => e = .returned (.tuple #[.int .i64 32, .int .i64 c]) ∧ w' = w := by
 have e1 : IntKind.i64.wrap (64823 + (c : Int) - 64768) = 55 + (c : Int) := by rw [IntWalk.i64_in _ (by omega)]; omega
 go_enter Try.func59, Try.ntmps59
 go_wp2
 all_goals first
  | (exfalso; omega)
  | (go_ret2
     refine ⟨ret_pair2 ?_ (by omega), rfl⟩
     rw [show (55 + c - 35) / 10 = 2 by omega]; exact IntWalk.wrap64_in _ (by decide))
theorem order_64_0 (w : World) : Calls Try.prog 59 #[.int .i64 64982] w fun e w' => e = .returned (.tuple #[.int .i64 64, .int .i64 0]) ∧ w' = w.drew := by
 have e0 : IntKind.i64.wrap 0 = 0 := IntWalk.i64_in _ (by decide)
 have i0 : ∀ w, (Instr.index 106 (.agg #[.int .i64 0, .int .i64 1, .int .i64 2, .int .i64 4, .int .i64 6, .int .i64 8]) (.int .i64 0)).run Try.prog w = .ok (.int .i64 0) w := fun _ => by kernel_rfl
 exact qQ
theorem order_64_1 (w : World) : Calls Try.prog 59 #[.int .i64 64983] w fun e w' => e = .returned (.tuple #[.int .i64 64, .int .i64 1]) ∧ w' = w.drew := by
 have e0 : IntKind.i64.wrap 1 = 1 := IntWalk.i64_in _ (by decide)
 have i0 : ∀ w, (Instr.index 106 (.agg #[.int .i64 0, .int .i64 1, .int .i64 2, .int .i64 4, .int .i64 6, .int .i64 8]) (.int .i64 1)).run Try.prog w = .ok (.int .i64 1) w := fun _ => by kernel_rfl
 exact qQ
theorem order_64_2 (w : World) : Calls Try.prog 59 #[.int .i64 64984] w fun e w' => e = .returned (.tuple #[.int .i64 64, .int .i64 2]) ∧ w' = w.drew := by
 have e0 : IntKind.i64.wrap 2 = 2 := IntWalk.i64_in _ (by decide)
 have i0 : ∀ w, (Instr.index 106 (.agg #[.int .i64 0, .int .i64 1, .int .i64 2, .int .i64 4, .int .i64 6, .int .i64 8]) (.int .i64 2)).run Try.prog w = .ok (.int .i64 2) w := fun _ => by kernel_rfl
 exact qQ
theorem order_64_3 (w : World) : Calls Try.prog 59 #[.int .i64 64985] w fun e w' => e = .returned (.tuple #[.int .i64 64, .int .i64 4]) ∧ w' = w.drew := by
 have e0 : IntKind.i64.wrap 3 = 3 := IntWalk.i64_in _ (by decide)
 have i0 : ∀ w, (Instr.index 106 (.agg #[.int .i64 0, .int .i64 1, .int .i64 2, .int .i64 4, .int .i64 6, .int .i64 8]) (.int .i64 3)).run Try.prog w = .ok (.int .i64 4) w := fun _ => by kernel_rfl
 exact qQ
theorem order_64_4 (w : World) : Calls Try.prog 59 #[.int .i64 64986] w fun e w' => e = .returned (.tuple #[.int .i64 64, .int .i64 6]) ∧ w' = w.drew := by
 have e0 : IntKind.i64.wrap 4 = 4 := IntWalk.i64_in _ (by decide)
 have i0 : ∀ w, (Instr.index 106 (.agg #[.int .i64 0, .int .i64 1, .int .i64 2, .int .i64 4, .int .i64 6, .int .i64 8]) (.int .i64 4)).run Try.prog w = .ok (.int .i64 6) w := fun _ => by kernel_rfl
 exact qQ
theorem order_64_5 (w : World) : Calls Try.prog 59 #[.int .i64 64987] w fun e w' => e = .returned (.tuple #[.int .i64 64, .int .i64 8]) ∧ w' = w.drew := by
 have e0 : IntKind.i64.wrap 5 = 5 := IntWalk.i64_in _ (by decide)
 have i0 : ∀ w, (Instr.index 106 (.agg #[.int .i64 0, .int .i64 1, .int .i64 2, .int .i64 4, .int .i64 6, .int .i64 8]) (.int .i64 5)).run Try.prog w = .ok (.int .i64 8) w := fun _ => by kernel_rfl
 exact qQ
theorem order_none (op κ : Int) (w : World) (hκ : wrap64 (op - 64768) = κ) (h : κ < 35 ∨ 65 ≤ κ ∧ κ < 214 ∨ 220 ≤ κ) : Calls Try.prog 59 #[.int .i64 op] w fun e w' => e = .returned (.tuple #[.int .i64 0, .int .i64 (-1)]) ∧ w' = w := by
 rcases h with h | ⟨h, h'⟩ | h
 all_goals
  go_enter Try.func59, Try.ntmps59
  go_wp2
  all_goals go_ret2
  all_goals exact ⟨rfl, rfl⟩
end Go.Proofs.Ytcpfabkokgiepaa
end
section
namespace Go.Proofs.Ytcpfabkokgiepaa
open Go.RowKit Pl
theorem part_byte (v : Vec) (i : Nat) (h : i < 16) (w : World) : (part 5 (mY v) (i * Try.prog.cellsOf 5)).run Try.prog w = .ok (sP v i) w := by
 have h1 : Try.prog.cellsOf 5 = 1 := by kernel_rfl
 have h2 : (isAgg 5).run Try.prog w = .ok false w := by kernel_rfl
 rw [h1, Nat.mul_one]
 simp [part, h2, getElem?_cells v i h]
theorem items_vec (d : Nat) (u v : Vec) : ∀ (is : List Nat) (w : World), (∀ i ∈ is, i < 16) →
 (Op.eqItems (d + 1) 5 (Try.prog.cellsOf 5) (mY u) (mY v) is).run Try.prog w = .ok (is.all fun i => decide (mT u 8 i = mT v 8 i)) w
 | [], w, _ => by simp [Op.eqItems]
 | i :: is, w, h => by
   have hu : Try.prog.underlying 5 = some (.int .u8) := by kernel_rfl
   have hi := h i (by simp)
   simp only [Op.eqItems, Sem.run_bind, part_byte _ i hi, Result.andThen_ok, sP, run_equalIn_int w d 5 .u8 .u8 _ _ hu]
   have e : ((tW u (8 * i) 8 : Int) == (tW v (8 * i) 8 : Int)) = decide (mT u 8 i = mT v 8 i) := by
    rw [Bool.eq_iff_iff, beq_iff_eq, decide_eq_true_iff]
    exact Int.natCast_inj
   rw [e]
   cases hd : decide (mT u 8 i = mT v 8 i)
   ·simp [hd]
   ·simp only [Bool.not_true, Bool.false_eq_true, if_false, List.all_cons, hd, Bool.true_and]
    exact items_vec d u v is w (fun j hj => h j (by simp [hj]))
set_option maxRecDepth 100000 in
theorem equal_vec (u v : Vec) (w : World) : (Op.equalIn 10000 45 (.agg (mY u)) (.agg (mY v))).run Try.prog w = .ok (decide (u = v)) w := by
 obtain ⟨i, hi⟩ : ∃ i, Try.prog.info? 5 = some i := Option.isSome_iff_exists.1 (by kernel_rfl)
 rw [run_equalIn_array (P := Try.prog) w 9999 (mY u) (mY v) r5 hi, items_vec 9998 u v _ w (by simp)]
 congr 1
 rw [Bool.eq_iff_iff]
 simp only [List.all_eq_true, List.mem_range, decide_eq_true_eq]
 exact ⟨fun h => rL 8 16 (by decide) (by decide) h, fun h i _ => by rw [h]⟩
theorem guard_vec (op : BinOp) (x y : Operand) (u v : Vec) (w : World) : (eqGuard op 45 x y (.agg (mY u)) (.agg (mY v))).run Try.prog w = .ok () w :=
 run_eqGuard_agg w op _ x y _ _ (by kernel_rfl)
end Go.Proofs.Ytcpfabkokgiepaa
end
section
namespace Go.Proofs.Ytcpfabkokgiepaa
open Go.RowKit Pl
theorem ext8 (v : Vec) (k i : Nat) (j : Int) (w : World) (hj : j = i) (hk : k < 4) (hi : i < 8) :
 Calls Try.prog 56 #[.agg (mY v), .int .i64 8, .int .i64 k, .int .i64 j] w fun e w' => e = .returned (.int .u64 (tG v 8 k i : Nat)) ∧ Below w.heap.size w w' := by
 subst hj
 have hi' : (i : Int) < 8 := by omega
 have hk4 : k = 0 ∨ k = 1 ∨ k = 2 ∨ k = 3 := by omega
 rcases hk4 with rfl | rfl | rfl | rfl
 ·go_enter Try.func56, Try.ntmps56
  go_wp2_with (first | (with_reducible refine mG rfl _ rfl _ rfl v (heap_alloc_new _ _) ?_) | (go_at_call 53; refine (vC v _ i _ (by omega) (by omega)).mono ?_; rintro e w' ⟨rfl, hb⟩))
  go_ret
  exact ⟨vX (by rw [wrap_u64]; rfl), ((Below.refl _ _).alloc (Nat.le_refl _) _).trans (hb.mono (by simp))⟩
 ·go_enter Try.func56, Try.ntmps56
  go_wp2_with (first | (with_reducible refine mG rfl _ rfl _ rfl v (heap_alloc_new _ _) ?_) | (go_at_call 53; refine (vC v _ (i + 8) _ (by omega) (by omega)).mono ?_; rintro e w' ⟨rfl, hb⟩))
  go_ret
  exact ⟨vX (by rw [wrap_u64]; rfl), ((Below.refl _ _).alloc (Nat.le_refl _) _).trans (hb.mono (by simp))⟩
 ·go_enter Try.func56, Try.ntmps56
  go_wp2_with (first | (with_reducible refine mG rfl _ rfl _ rfl v (heap_alloc_new _ _) ?_) | (go_at_call 51; refine (d7 v _ i _ (by omega) (by omega)).mono ?_; rintro e w' ⟨rfl, hb⟩))
  go_ret
  exact ⟨rfl, ((Below.refl _ _).alloc (Nat.le_refl _) _).trans (hb.mono (by simp))⟩
 ·go_enter Try.func56, Try.ntmps56
  go_wp2_with (first | (with_reducible refine mG rfl _ rfl _ rfl v (heap_alloc_new _ _) ?_) | (go_at_call 51; refine (d7 v _ (i + 8) _ (by omega) (by omega)).mono ?_; rintro e w' ⟨rfl, hb⟩))
  go_ret
  exact ⟨rfl, ((Below.refl _ _).alloc (Nat.le_refl _) _).trans (hb.mono (by simp))⟩
theorem ext16 (v : Vec) (k i : Nat) (j : Int) (w : World) (hj : j = i) (hk : k < 4) (hi : i < 4) :
 Calls Try.prog 56 #[.agg (mY v), .int .i64 16, .int .i64 k, .int .i64 j] w fun e w' => e = .returned (.int .u64 (tG v 16 k i : Nat)) ∧ Below w.heap.size w w' := by
 subst hj
 have hi' : (i : Int) < 4 := by omega
 have hk4 : k = 0 ∨ k = 1 ∨ k = 2 ∨ k = 3 := by omega
 rcases hk4 with rfl | rfl | rfl | rfl
 ·go_enter Try.func56, Try.ntmps56
  go_wp2_with (first | (with_reducible refine mG rfl _ rfl _ rfl v (heap_alloc_new _ _) ?_) | (go_at_call 53; refine (tB v _ i _ (by omega) (by omega)).mono ?_; rintro e w' ⟨rfl, hb⟩))
  go_ret
  exact ⟨vX (by rw [wrap_u64]; rfl), ((Below.refl _ _).alloc (Nat.le_refl _) _).trans (hb.mono (by simp))⟩
 ·go_enter Try.func56, Try.ntmps56
  go_wp2_with (first | (with_reducible refine mG rfl _ rfl _ rfl v (heap_alloc_new _ _) ?_) | (go_at_call 53; refine (tB v _ (i + 4) _ (by omega) (by omega)).mono ?_; rintro e w' ⟨rfl, hb⟩))
  go_ret
  exact ⟨vX (by rw [wrap_u64]; rfl), ((Below.refl _ _).alloc (Nat.le_refl _) _).trans (hb.mono (by simp))⟩
 ·go_enter Try.func56, Try.ntmps56
  go_wp2_with (first | (with_reducible refine mG rfl _ rfl _ rfl v (heap_alloc_new _ _) ?_) | (go_at_call 51; refine (fQ v _ i _ (by omega) (by omega)).mono ?_; rintro e w' ⟨rfl, hb⟩))
  go_ret
  exact ⟨rfl, ((Below.refl _ _).alloc (Nat.le_refl _) _).trans (hb.mono (by simp))⟩
 ·go_enter Try.func56, Try.ntmps56
  go_wp2_with (first | (with_reducible refine mG rfl _ rfl _ rfl v (heap_alloc_new _ _) ?_) | (go_at_call 51; refine (fQ v _ (i + 4) _ (by omega) (by omega)).mono ?_; rintro e w' ⟨rfl, hb⟩))
  go_ret
  exact ⟨rfl, ((Below.refl _ _).alloc (Nat.le_refl _) _).trans (hb.mono (by simp))⟩
theorem ext32 (v : Vec) (k i : Nat) (j : Int) (w : World) (hj : j = i) (hk : k < 4) (hi : i < 2) :
 Calls Try.prog 56 #[.agg (mY v), .int .i64 32, .int .i64 k, .int .i64 j] w fun e w' => e = .returned (.int .u64 (tG v 32 k i : Nat)) ∧ Below w.heap.size w w' := by
 subst hj
 have hi' : (i : Int) < 2 := by omega
 have hk4 : k = 0 ∨ k = 1 ∨ k = 2 ∨ k = 3 := by omega
 rcases hk4 with rfl | rfl | rfl | rfl
 ·go_enter Try.func56, Try.ntmps56
  go_wp2_with (first | (with_reducible refine mG rfl _ rfl _ rfl v (heap_alloc_new _ _) ?_) | (go_at_call 53; refine (v9 v _ i _ (by omega) (by omega)).mono ?_; rintro e w' ⟨rfl, hb⟩))
  go_ret
  exact ⟨vX (by rw [wrap_u64]; rfl), ((Below.refl _ _).alloc (Nat.le_refl _) _).trans (hb.mono (by simp))⟩
 ·go_enter Try.func56, Try.ntmps56
  go_wp2_with (first | (with_reducible refine mG rfl _ rfl _ rfl v (heap_alloc_new _ _) ?_) | (go_at_call 53; refine (v9 v _ (i + 2) _ (by omega) (by omega)).mono ?_; rintro e w' ⟨rfl, hb⟩))
  go_ret
  exact ⟨vX (by rw [wrap_u64]; rfl), ((Below.refl _ _).alloc (Nat.le_refl _) _).trans (hb.mono (by simp))⟩
 ·go_enter Try.func56, Try.ntmps56
  go_wp2_with (first | (with_reducible refine mG rfl _ rfl _ rfl v (heap_alloc_new _ _) ?_) | (go_at_call 51; refine (eH v _ i _ (by omega) (by omega)).mono ?_; rintro e w' ⟨rfl, hb⟩))
  go_ret
  exact ⟨rfl, ((Below.refl _ _).alloc (Nat.le_refl _) _).trans (hb.mono (by simp))⟩
 ·go_enter Try.func56, Try.ntmps56
  go_wp2_with (first | (with_reducible refine mG rfl _ rfl _ rfl v (heap_alloc_new _ _) ?_) | (go_at_call 51; refine (eH v _ (i + 2) _ (by omega) (by omega)).mono ?_; rintro e w' ⟨rfl, hb⟩))
  go_ret
  exact ⟨rfl, ((Below.refl _ _).alloc (Nat.le_refl _) _).trans (hb.mono (by simp))⟩
theorem group0 (k f : Int) (a : Nat) (w : World) (ha : a < 4) (hk : k = f + 0 + a) (_hf : 0 ≤ f) (_hf2 : f ≤ 1000) :
 Calls Try.prog 55 #[.int .i64 k, .int .i64 f] w fun e w' => e = .returned (.tuple #[.int .i64 8, .int .i64 a]) ∧ w = w' := by
 subst hk
 go_enter Try.func55, Try.ntmps55
 go_wp2
 refine wp_loop_rounds 1 ?_
 repeat (rw [rounds_succ]; go_wp2)
 go_ret2
 exact ⟨ret_pair (by omega) (by omega), rfl⟩
theorem group1 (k f : Int) (a : Nat) (w : World) (ha : a < 4) (hk : k = f + 32 + a) (_hf : 0 ≤ f) (_hf2 : f ≤ 1000) :
 Calls Try.prog 55 #[.int .i64 k, .int .i64 f] w fun e w' => e = .returned (.tuple #[.int .i64 16, .int .i64 a]) ∧ w = w' := by
 subst hk
 go_enter Try.func55, Try.ntmps55
 go_wp2
 refine wp_loop_rounds 2 ?_
 repeat (rw [rounds_succ]; go_wp2)
 go_ret2
 exact ⟨ret_pair (by omega) (by omega), rfl⟩
theorem group2 (k f : Int) (a : Nat) (w : World) (ha : a < 4) (hk : k = f + 64 + a) (_hf : 0 ≤ f) (_hf2 : f ≤ 1000) :
 Calls Try.prog 55 #[.int .i64 k, .int .i64 f] w fun e w' => e = .returned (.tuple #[.int .i64 32, .int .i64 a]) ∧ w = w' := by
 subst hk
 go_enter Try.func55, Try.ntmps55
 go_wp2
 refine wp_loop_rounds 3 ?_
 repeat (rw [rounds_succ]; go_wp2)
 go_ret2
 exact ⟨ret_pair (by omega) (by omega), rfl⟩
theorem s5 (k f : Int) (w : World) (h0 : wrap64 (wrap64 (k - f)) < 0 ∨ 4 ≤ wrap64 (wrap64 (k - f))) (h1 : wrap64 (wrap64 (k - f) - 32) < 0 ∨ 4 ≤ wrap64 (wrap64 (k - f) - 32)) (h2 : wrap64 (wrap64 (k - f) - 64) < 0 ∨ 4 ≤ wrap64 (wrap64 (k - f) - 64)) :
 Calls Try.prog 55 #[.int .i64 k, .int .i64 f] w fun e w' => e = .returned (.tuple #[.int .i64 0, .int .i64 0]) ∧ w = w' := by
 rcases h0 with h0 | h0 <;> rcases h1 with h1 | h1 <;> rcases h2 with h2 | h2
 all_goals
  go_enter Try.func55, Try.ntmps55
  go_wp2
  refine wp_loop_rounds 4 ?_
  repeat (rw [rounds_succ]; go_wp2)
  go_ret2
  exact ⟨rfl, rfl⟩
end Go.Proofs.Ytcpfabkokgiepaa
end
section
namespace Pl
open Go
def tZ (lo hi : Int) (w : Nat) (v : Vec) (i : Nat) : Nat := u64 (min (max (sgn w (mT v w i)) lo) hi)
def pW (w n : Nat) (fa fb : Nat → Nat) : Nat → Vec
 | 0 => 0
 | k + 1 => t7 (t7 (pW w n fa fb k) w k (fa k)) w (n + k) (fb k)
theorem getN_nbuild (w n : Nat) (fa fb : Nat → Nat) (h : 2 * n = 128 / w) (k j : Nat) (hk : k ≤ n) :
 mT (pW w n fa fb k) w j = if j < k then fa j % 2 ^ w else if n ≤ j ∧ j < n + k then fb (j - n) % 2 ^ w else mT 0 w j := by
 induction k with
 | zero => simp only [pW, Nat.not_lt_zero, if_false]; rw [if_neg (by omega)]
 | succ k ih =>
   rw [pW, uY _ _ _ _ _ (by omega), uY _ _ _ _ _ (by omega), ih (by omega)]
   by_cases h1 : j = n + k
   ·rw [if_pos h1, if_neg (by omega), if_pos (by omega), h1, Nat.add_sub_cancel_left]
   ·rw [if_neg h1]
    by_cases h2 : j = k
    ·rw [if_pos h2, if_pos (by omega), h2]
    ·rw [if_neg h2]
     by_cases h3 : j < k
     ·rw [if_pos h3, if_pos (by omega)]
     ·rw [if_neg h3, if_neg (show ¬ j < k + 1 by omega)]
      by_cases h4 : n ≤ j ∧ j < n + k
      ·rw [if_pos h4, if_pos (by omega)]
      ·rw [if_neg h4, if_neg (by omega)]
theorem uW (lo hi x : Int) : IntKind.u64.wrap (if hi < if x < lo then lo else x then hi else if x < lo then lo else x) = ((u64 (min (max x lo) hi) : Nat) : Int) := by
 rw [wrap_u64]
 congr 2
 rw [Int.min_def, Int.max_def]
 split <;> split <;> split <;> split <;> omega
def maxI (x lo : Int) : Int := if x < lo then lo else x
def minI (hi y : Int) : Int := if hi < y then hi else y
theorem fG (x lo : Int) [d : Decidable (x < lo)] : @ite Int (x < lo) d lo x = maxI x lo := by unfold maxI; split <;> rfl
theorem fK (hi y : Int) [d : Decidable (hi < y)] : @ite Int (hi < y) d hi y = minI hi y := by unfold minI; split <;> rfl
end Pl
namespace Pl
open Go
def e7 (w c : Nat) (a b : Vec) (i : Nat) : Nat := tG a w c i * tG b w c i % 2 ^ 64
theorem vD (x y : Nat) : IntKind.u64.wrap ((x : Int) * (y : Int)) = ((x * y % 2 ^ 64 : Nat) : Int) := by
 rw [wrap_u64]
 unfold u64
 have h1 : ((x : Int) * (y : Int)) = ((x * y : Nat) : Int) := by simp
 rw [h1]
 omega
end Pl
namespace Pl
open Go
def q15N (a b : Vec) (i : Nat) : Nat := u64 (min ((sgn 16 (mT a 16 i) * sgn 16 (mT b 16 i) + 16384) / 32768) 32767)
def dotN (a b : Vec) (i : Nat) : Nat := u64 (sgn 16 (mT a 16 (2 * i)) * sgn 16 (mT b 16 (2 * i)) + sgn 16 (mT a 16 (2 * i + 1)) * sgn 16 (mT b 16 (2 * i + 1)))
end Pl
namespace Pl
theorem rZ (n : Nat) (h : n < 2 ^ 16) : -32768 ≤ sgn 16 n ∧ sgn 16 n ≤ 32767 := by
 unfold sgn
 have e : (2 : Int) ^ 16 = 65536 := by decide
 have e2 : (2 : Nat) ^ 16 = 65536 := by decide
 have e3 : (2 : Nat) ^ (16 - 1) = 32768 := by decide
 rw [e, e3]
 rw [e2] at h
 split <;> omega
theorem fA (x y : Int) (hx : -32768 ≤ x ∧ x ≤ 32767) (hy : -32768 ≤ y ∧ y ≤ 32767) : -1073741824 ≤ x * y ∧ x * y ≤ 1073741824 := by
 have h1 : (x * y).natAbs = x.natAbs * y.natAbs := Int.natAbs_mul x y
 have h2 : x.natAbs * y.natAbs ≤ 32768 * 32768 := Nat.mul_le_mul (by omega) (by omega)
 omega
end Pl
namespace Pl
open Go
theorem q15_hi (a b : Vec) (k : Nat) (p : Int) (hp : p = sgn 16 (mT a 16 k) * sgn 16 (mT b 16 k)) (h : 32767 < (p + 16384) / 32768) : (32767 : Int) = ((q15N a b k : Nat) : Int) := by
 unfold q15N
 rw [← hp, Int.min_def, if_neg (by omega)]
 rfl
theorem q15_lo (a b : Vec) (k : Nat) (p : Int) (hp : p = sgn 16 (mT a 16 k) * sgn 16 (mT b 16 k)) (h : ¬ 32767 < (p + 16384) / 32768) : IntKind.u64.wrap ((p + 16384) / 32768) = ((q15N a b k : Nat) : Int) := by
 unfold q15N
 rw [← hp, Int.min_def, if_pos (by omega), wrap_u64]
theorem dot_wrap (a b : Vec) (k : Nat) : IntKind.u64.wrap (RowKit.wrap64 (RowKit.wrap64 (sgn 16 (mT a 16 (2 * k)) * sgn 16 (mT b 16 (2 * k))) + RowKit.wrap64 (sgn 16 (mT a 16 (2 * k + 1)) * sgn 16 (mT b 16 (2 * k + 1))))) = ((dotN a b k : Nat) : Int) := by
 have h1 := fA _ _ (rZ _ (mL a 16 (2 * k))) (rZ _ (mL b 16 (2 * k)))
 have h2 := fA _ _ (rZ _ (mL a 16 (2 * k + 1))) (rZ _ (mL b 16 (2 * k + 1)))
 rw [IntWalk.wrap64_in (sgn 16 (mT a 16 (2 * k)) * _) (by omega), IntWalk.wrap64_in (sgn 16 (mT a 16 (2 * k + 1)) * _) (by omega), IntWalk.wrap64_in _ (by omega), wrap_u64]
 rfl
end Pl
namespace Pl
def binW (op : Int) (a b : Vec) : Vec × Int :=
 if 64924 ≤ op ∧ op < 64928 then (mJ 0 16 (e7 8 (op - 64924).toNat a b) 8, 0)
 else if 64956 ≤ op ∧ op < 64960 then (mJ 0 32 (e7 16 (op - 64956).toNat a b) 4, 0)
 else if 64988 ≤ op ∧ op < 64992 then (mJ 0 64 (e7 32 (op - 64988).toNat a b) 2, 0)
 else if op = 64869 then (pW 8 8 (tZ (-128) 127 16 a) (tZ (-128) 127 16 b) 8, 0)
 else if op = 64870 then (pW 8 8 (tZ 0 255 16 a) (tZ 0 255 16 b) 8, 0)
 else if op = 64901 then (pW 16 4 (tZ (-32768) 32767 32 a) (tZ (-32768) 32767 32 b) 4, 0)
 else if op = 64902 then (pW 16 4 (tZ 0 65535 32 a) (tZ 0 65535 32 b) 4, 0)
 else if op = 64898 then (mJ 0 16 (q15N a b) 8, 0)
 else if op = 64954 then (mJ 0 32 (dotN a b) 4, 0)
 else (0, 1)
end Pl
namespace Pl
def tD (w n : Nat) (lo hi : Int) (a b : Vec) (i : Nat) : Nat := u64 (min (max (if i < n then sgn (2 * w) (mT a (2 * w) i) else sgn (2 * w) (mT b (2 * w) (i - n))) lo) hi)
end Pl
namespace Pl
theorem rnar_a (w n : Nat) (lo hi : Int) (a b : Vec) (i : Nat) (h : i < n) : tD w n lo hi a b i = u64 (min (max (sgn (2 * w) (mT a (2 * w) i)) lo) hi) := by
 unfold tD; rw [if_pos h]
theorem rnar_b (w n : Nat) (lo hi : Int) (a b : Vec) (i : Nat) (h : n ≤ i) : tD w n lo hi a b i = u64 (min (max (sgn (2 * w) (mT b (2 * w) (i - n))) lo) hi) := by
 unfold tD; rw [if_neg (by omega)]
end Pl
namespace Pl
open Go
def uV (a b : Vec) (i : Nat) : Nat := u64 (min (max ((sgn 16 (mT a 16 i) * sgn 16 (mT b 16 i) + 16384) / 32768) (-32768)) 32767)
end Pl
namespace Pl
open Go
theorem dS (s : Int) : s.tdiv 32768 = if 0 ≤ s ∨ s % 32768 = 0 then s / 32768 else s / 32768 + 1 := by
 rw [Int.tdiv_eq_ediv]
 by_cases h : 0 ≤ s
 ·rw [if_pos (Or.inl h), if_pos (Or.inl h)]; omega
 ·by_cases h2 : s % 32768 = 0
  ·rw [if_pos (Or.inr (Int.dvd_of_emod_eq_zero h2)), if_pos (Or.inr h2)]; omega
  ·rw [if_neg (fun hh => hh.elim h (fun hd => h2 (Int.emod_eq_zero_of_dvd hd))), if_neg (fun hh => hh.elim h h2)]; rfl
theorem tmod_zero (s : Int) : s.tmod 32768 = 0 ↔ s % 32768 = 0 := by
 rw [Int.tmod_def, dS]
 split <;> omega
theorem rq_neg (s : Int) (hs : -2147483648 ≤ s ∧ s ≤ 2147483648) (hm : s < 0) (ht : (s.tmod 32768 != 0) = true) : RowKit.wrap64 (s.tdiv 32768 - 1) = s / 32768 := by
 have h2 : ¬ s % 32768 = 0 := fun h => by rw [(tmod_zero s).2 h] at ht; exact absurd ht (by decide)
 rw [dS, if_neg (by omega), IntWalk.wrap64_in _ (by omega)]
 omega
theorem rq_neg0 (s : Int) (ht : (s.tmod 32768 != 0) = false) : s.tdiv 32768 = s / 32768 := by
 have h2 : s % 32768 = 0 := (tmod_zero s).1 (by simpa using ht)
 rw [dS, if_pos (Or.inr h2)]
theorem rq_pos (s : Int) (hm : ¬ s < 0) : s.tdiv 32768 = s / 32768 := by
 rw [dS, if_pos (Or.inl (by omega))]
theorem rq_fold (a b : Vec) (k : Nat) (p : Int) (hp : p = sgn 16 (mT a 16 k) * sgn 16 (mT b 16 k)) : uV a b k = u64 (min (max ((p + 16384) / 32768) (-32768)) 32767) := by
 subst hp; rfl
end Pl
namespace Pl
open Go
def rdot (a b : Vec) : Nat → Vec
 | 0 => 0
 | k + 1 => t7 (rdot a b k) 32 (k / 2) (rdN a b (rdot a b k) k)
where rdN (a b o : Vec) (k : Nat) : Nat := (mT o 32 (k / 2) + u64 (sgn 16 (mT a 16 k) * sgn 16 (mT b 16 k))) % 2 ^ 64
end Pl
namespace Pl
open Go
theorem rdot_wrap (a b o : Vec) (k : Nat) : IntKind.u64.wrap ((mT o 32 (k / 2) : Int) + IntKind.u64.wrap (RowKit.wrap64 (sgn 16 (mT a 16 k) * sgn 16 (mT b 16 k)))) = ((rdot.rdN a b o k : Nat) : Int) := by
 have h1 := fA _ _ (rZ _ (mL a 16 k)) (rZ _ (mL b 16 k))
 rw [IntWalk.wrap64_in _ (by omega), wrap_u64, wrap_u64]
 unfold rdot.rdN
 unfold u64
 omega
end Pl
namespace Pl
def tK (w : Nat) (x y : Vec) (i : Nat) : Nat := mT x w i * mT y w i % 2 ^ 64
end Pl
namespace Pl
open Go Go.RowKit
theorem pF (w : World) (A B C D E F : Obj) : ∃ W, W = ((((((w.alloc A).alloc B).alloc C).alloc D).alloc E).alloc F) ∧ W.heap[w.heap.size]? = some A ∧ W.heap[w.heap.size + 1]? = some B ∧ W.heap[w.heap.size + 2]? = some C ∧ W.heap[w.heap.size + 3]? = some D ∧ W.heap[w.heap.size + 4]? = some E ∧ W.heap[w.heap.size + 5]? = some F ∧ Below w.heap.size w W := by
 refine ⟨_, rfl, ?_, ?_, ?_, ?_, ?_, ?_, ?_⟩
 ·rw [heap_alloc_old _ _ (by simp; omega), heap_alloc_old _ _ (by simp; omega), rU]
 ·rw [heap_alloc_old _ _ (by simp), heap_alloc_old _ _ (by simp), rV]
 ·rw [heap_alloc_old _ _ (by simp), heap_alloc_old _ _ (by simp), rG]
 ·rw [heap_alloc_old _ _ (by simp), heap_alloc_old _ _ (by simp), rK]
 ·rw [heap_alloc_old _ _ (by simp)]
  exact wX
 ·have := heap_alloc_new (((((w.alloc A).alloc B).alloc C).alloc D).alloc E) F
  simpa using this
 ·exact ((vY w A B C D).alloc (by simp; omega) _).alloc (by simp; omega) _
end Pl
end
section
set_option maxRecDepth 100000
namespace Go.Proofs.Ytcpfabkokgiepaa
open Go.RowKit Go.ChangeShapes Go.WideShapes Go.ChangeAt Pl
theorem Try.own : ownKnob Try.prog.godebug = none := by kernel_rfl
theorem bounds_i64 {x : Int} (h : (Lit.int .i64 x).wf = true) : -9223372036854775808 ≤ x ∧ x ≤ 9223372036854775807 := kK
theorem bounds_u64 {x : Int} (h : (Lit.int .u64 x).wf = true) : 0 ≤ x ∧ x < 18446744073709551616 := kK
end Go.Proofs.Ytcpfabkokgiepaa
end
