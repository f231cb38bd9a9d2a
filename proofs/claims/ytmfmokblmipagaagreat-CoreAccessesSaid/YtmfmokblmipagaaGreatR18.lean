/-
  Texts TaS, TaI.
-/
import Derived.Test.YtmfmokblmipagaaGreatR02
import Derived.Test.YtmfmokblmipagaaGreatR13
import Derived.Test.YtmfmokblmipagaaGreatR15
import Derived.Test.YtmfmokblmipagaaGreatR17
set_option linter.unusedSimpArgs false
set_option linter.unusedVariables false
set_option maxHeartbeats 8000000
open Pl
section
namespace Go.Proofs.YtmfmokblmipagaaGreat
open Go.RowKit Pl
theorem Frsh.trans {u u2 : World} {R R2 R3 : Option Nat} (h : Frsh u R R2) (k : Frsh u2 R2 R3) (hs : u.heap.size ≤ u2.heap.size) : Frsh u R R3 := fun n hn => by
 rcases k n hn with h4 | h4
 ·exact h n h4
 ·exact .inr (Nat.le_trans hs h4)
theorem regs_0 (s n : Nat) : (regs s (n + 1))[0]? = some s := by
 induction n with
 | zero => rfl
 | succ n ih =>
   show (regs s (n + 1) ++ [s + (n + 1)])[0]? = some s
   rw [List.getElem?_append_left (by rw [regs_len]; omega)]
   exact ih
def spreadC (r w : Nat) (s : Bool) : Nat → List Cel
 | 0 => []
 | j + 1 => spreadC r w s j ++ (laneC r w j s ++ intoC (2 * w) (j % (32 / w)))
theorem laneC_len (r w j : Nat) (s : Bool) : (laneC r w j s).length ≤ 5 := by unfold laneC; split <;> (try split) <;> (try split) <;> simp
theorem spreadC_len (r w : Nat) (s : Bool) (j : Nat) : (spreadC r w s j).length ≤ 10 * j := by
 induction j with
 | zero => exact Nat.le_refl _
 | succ j ih =>
   have h1 : (laneC r w j s).length ≤ 5 := by unfold laneC; split <;> (try split) <;> (try split) <;> simp
   have h2 : (intoC (2 * w) (j % (32 / w))).length ≤ 5 := by unfold intoC; split <;> split <;> simp
   simp only [spreadC, List.length_append]
   omega
set_option maxRecDepth 100000 in
theorem spread_8 (M A n off b k : Nat) (s : Bool) (l : List Cel) (R : Option Nat) (u : World) (h : TA A l b k R u) (hM : MA M A n off R u) (h1 : l.length + 100 ≤ 1000) (h2 : off < 4294967296) (hb : b + k ≤ 1000) :
 Calls Tryz.prog 40 #[.pointer (some ⟨M, 0, none⟩), .int .i64 8, .bool s] u fun e u' => e = .returned (.tuple #[]) ∧ TR A R u (l ++ atc 41 off :: setc (b + k) :: spreadC (b + k) 8 s 8) b (k + 1) u' := by
 have T := h.start
 clear h
 have hB := hM.blk
 go_enter Tryz.func40, Tryz.ntmps40
 go_wp2_with (first | ((with_reducible refine load_w ?_ 77 isAgg_asm _ rfl _ _ rfl _ _ (T.get hB hM.ne hM.nr) _ rfl ?_); (focus rfl)) | (go_at_call 39; refine Calls.mono (TR.stepM T hM fun R2 h m => mat_k M A n off b _ 41 0 _ R2 _ h m (by (try simp only [zP, zN, zM, zL, zH]); omega) (by omega)) ?_; rintro e u2 ⟨rfl, T⟩) | (go_at_call 29; obtain ⟨R1, hA1, hC1, hF1⟩ := T.ex; have hM1 := hM.to hC1 hF1; refine Calls.mono (save_k A b k 1 _ R1 _ hA1 (by decide) (by omega) (by (try simp only [zP, zN, zM, zL, zH]); omega)) ?_; clear T; rintro e u3 ⟨v, R3, rfl, hA3, hC3, hF3, hI⟩; have hM := hM1.to hC3 hF3; have hC := Chg.trans hC1 hC3 hF1; have hF := Frsh.trans hF1 hF3 hC1.size; clear hC1 hC3 hF1 hF3 hM1 hA1; have T := hA3.start; have hB := hM.blk; obtain ⟨g, c, e, hc⟩ := hI.at T 0 _ (regs_0 _ _); rw [regs_len] at e; subst e; clear hA3))
 have HC := Lib.hid hC
 have HF := Lib.hid hF
 have HM := Lib.hid hM
 have HB := Lib.hid hB
 have hp : regs (b + k) 1 = [b + k] := by simp [regs]
 rw [hp] at T
 have T0 := Lib.hid T
 clear hC hF hM hB hc hI T hp
 go_loopw [19] (fun iv wr => ∃ j : Nat, j ≤ 8 ∧ iv = .int .i64 j ∧ Hid (TR A R3 u3 (l ++ [atc 41 (off + 0)] ++ [setc (b + k)] ++ spreadC (b + k) 8 s j) b (k + 1) wr)) (fun iv _ => 8 - (intOf iv).toNat)
 case atStart => exact ⟨0, by decide, rfl, Lib.hid (by simpa [spreadC] using T0.out)⟩
 case round =>
  obtain ⟨j, hj, rfl, HT⟩ := hrel
  have T := HT.out
  have hM := HM.out
  have hB := HB.out
  clear HT
  by_cases hlt : j < 8
  ·have hl := spreadC_len (b + k) 8 s j
   have e1 : IntKind.i64.wrap 16 = 16 := IntWalk.i64_in _ (by decide)
   have e2 : IntKind.i64.wrap 4 = 4 := IntWalk.i64_in _ (by decide)
   go_wp2_with (first | ((with_reducible refine load_w ?_ 77 isAgg_asm _ rfl _ _ rfl _ _ (T.get hB hM.ne hM.nr) _ rfl ?_); (focus rfl)) | (go_at_call 80; refine Calls.mono (T.step fun R2 h => lane_k A b (k + 1) 8 j (b + k) s _ R2 _ h (by decide) (by omega) (by (try simp only [zP, zN, zM, zL, zH]); omega)) ?_; rintro e u4 ⟨rfl, T⟩))
   have hB4 := T.get hB hM.ne hM.nr
   refine region_do (fun u => Below u4.heap.size u4 u) 10 (by kernel_rfl) (by kernel_rfl) (Below.refl _ _).drew ?_
   simp only [zF, zE, zD, zC]
   repeat (first | (refine wpD_here rfl (fun u hS => run_ldq _ isAgg_asm _ rfl M 0 rfl (.pointer (some ⟨A, 0, none⟩)) (by rw [cell_of_row u M 0 _ _ _ (blk_keep hB4 hS)]; rfl)) ?_; simp only [Act.put, z5, z6, z7]) | (refine wpD_pure (v := ?_) rfl (fun u => ?_) ?_; rotate_left; (focus (go_simp; (try with_reducible rfl); done)); simp only [Act.put, z5, z6, z7]))
   refine wpD_nil (fun w5 hb5 => ?_)
   go_wp2_with (first | (go_at_call 81; refine Calls.mono (T.stepB hb5 fun R2 h => into_k A b (k + 1) 16 (j % 4) _ R2 _ (h.below hb5) (by decide) (by omega) (by have := laneC_len (b + k) 8 j s; (try simp only [zP, zN, zM, zL, zH]); omega)) ?_; clear hb5; rintro e u6 ⟨rfl, T⟩))
   refine ⟨⟨j + 1, by omega, by first | rfl | simp, Lib.hid ?_⟩, by simp [intOf]; omega⟩
   simp only [spreadC]
   simpa [List.append_assoc] using T
  ·obtain rfl : j = 8 := by omega
   go_wp2_with fail
   go_end0
   have := TR.trans HC.out HF.out T
   exact ⟨rfl, by simpa [List.append_assoc] using this⟩
set_option maxRecDepth 100000 in
theorem spread_16 (M A n off b k : Nat) (s : Bool) (l : List Cel) (R : Option Nat) (u : World) (h : TA A l b k R u) (hM : MA M A n off R u) (h1 : l.length + 100 ≤ 1000) (h2 : off < 4294967296) (hb : b + k ≤ 1000) :
 Calls Tryz.prog 40 #[.pointer (some ⟨M, 0, none⟩), .int .i64 16, .bool s] u fun e u' => e = .returned (.tuple #[]) ∧ TR A R u (l ++ atc 41 off :: setc (b + k) :: spreadC (b + k) 16 s 4) b (k + 1) u' := by
 have T := h.start
 clear h
 have hB := hM.blk
 go_enter Tryz.func40, Tryz.ntmps40
 go_wp2_with (first | ((with_reducible refine load_w ?_ 77 isAgg_asm _ rfl _ _ rfl _ _ (T.get hB hM.ne hM.nr) _ rfl ?_); (focus rfl)) | (go_at_call 39; refine Calls.mono (TR.stepM T hM fun R2 h m => mat_k M A n off b _ 41 0 _ R2 _ h m (by (try simp only [zP, zN, zM, zL, zH]); omega) (by omega)) ?_; rintro e u2 ⟨rfl, T⟩) | (go_at_call 29; obtain ⟨R1, hA1, hC1, hF1⟩ := T.ex; have hM1 := hM.to hC1 hF1; refine Calls.mono (save_k A b k 1 _ R1 _ hA1 (by decide) (by omega) (by (try simp only [zP, zN, zM, zL, zH]); omega)) ?_; clear T; rintro e u3 ⟨v, R3, rfl, hA3, hC3, hF3, hI⟩; have hM := hM1.to hC3 hF3; have hC := Chg.trans hC1 hC3 hF1; have hF := Frsh.trans hF1 hF3 hC1.size; clear hC1 hC3 hF1 hF3 hM1 hA1; have T := hA3.start; have hB := hM.blk; obtain ⟨g, c, e, hc⟩ := hI.at T 0 _ (regs_0 _ _); rw [regs_len] at e; subst e; clear hA3))
 have HC := Lib.hid hC
 have HF := Lib.hid hF
 have HM := Lib.hid hM
 have HB := Lib.hid hB
 have hp : regs (b + k) 1 = [b + k] := by simp [regs]
 rw [hp] at T
 have T0 := Lib.hid T
 clear hC hF hM hB hc hI T hp
 go_loopw [19] (fun iv wr => ∃ j : Nat, j ≤ 4 ∧ iv = .int .i64 j ∧ Hid (TR A R3 u3 (l ++ [atc 41 (off + 0)] ++ [setc (b + k)] ++ spreadC (b + k) 16 s j) b (k + 1) wr)) (fun iv _ => 4 - (intOf iv).toNat)
 case atStart => exact ⟨0, by decide, rfl, Lib.hid (by simpa [spreadC] using T0.out)⟩
 case round =>
  obtain ⟨j, hj, rfl, HT⟩ := hrel
  have T := HT.out
  have hM := HM.out
  have hB := HB.out
  clear HT
  by_cases hlt : j < 4
  ·have hl := spreadC_len (b + k) 16 s j
   have e1 : IntKind.i64.wrap 32 = 32 := IntWalk.i64_in _ (by decide)
   have e2 : IntKind.i64.wrap 2 = 2 := IntWalk.i64_in _ (by decide)
   go_wp2_with (first | ((with_reducible refine load_w ?_ 77 isAgg_asm _ rfl _ _ rfl _ _ (T.get hB hM.ne hM.nr) _ rfl ?_); (focus rfl)) | (go_at_call 80; refine Calls.mono (T.step fun R2 h => lane_k A b (k + 1) 16 j (b + k) s _ R2 _ h (by decide) (by omega) (by (try simp only [zP, zN, zM, zL, zH]); omega)) ?_; rintro e u4 ⟨rfl, T⟩))
   have hB4 := T.get hB hM.ne hM.nr
   refine region_do (fun u => Below u4.heap.size u4 u) 10 (by kernel_rfl) (by kernel_rfl) (Below.refl _ _).drew ?_
   simp only [zF, zE, zD, zC]
   repeat (first | (refine wpD_here rfl (fun u hS => run_ldq _ isAgg_asm _ rfl M 0 rfl (.pointer (some ⟨A, 0, none⟩)) (by rw [cell_of_row u M 0 _ _ _ (blk_keep hB4 hS)]; rfl)) ?_; simp only [Act.put, z5, z6, z7]) | (refine wpD_pure (v := ?_) rfl (fun u => ?_) ?_; rotate_left; (focus (go_simp; (try with_reducible rfl); done)); simp only [Act.put, z5, z6, z7]))
   refine wpD_nil (fun w5 hb5 => ?_)
   go_wp2_with (first | (go_at_call 81; refine Calls.mono (T.stepB hb5 fun R2 h => into_k A b (k + 1) 32 (j % 2) _ R2 _ (h.below hb5) (by decide) (by omega) (by have := laneC_len (b + k) 16 j s; (try simp only [zP, zN, zM, zL, zH]); omega)) ?_; clear hb5; rintro e u6 ⟨rfl, T⟩))
   refine ⟨⟨j + 1, by omega, by first | rfl | simp, Lib.hid ?_⟩, by simp [intOf]; omega⟩
   simp only [spreadC]
   simpa [List.append_assoc] using T
  ·obtain rfl : j = 4 := by omega
   go_wp2_with fail
   go_end0
   have := TR.trans HC.out HF.out T
   exact ⟨rfl, by simpa [List.append_assoc] using this⟩
set_option maxRecDepth 100000 in
theorem spread_32 (M A n off b k : Nat) (s : Bool) (l : List Cel) (R : Option Nat) (u : World) (h : TA A l b k R u) (hM : MA M A n off R u) (h1 : l.length + 100 ≤ 1000) (h2 : off < 4294967296) (hb : b + k ≤ 1000) :
 Calls Tryz.prog 40 #[.pointer (some ⟨M, 0, none⟩), .int .i64 32, .bool s] u fun e u' => e = .returned (.tuple #[]) ∧ TR A R u (l ++ atc 41 off :: setc (b + k) :: spreadC (b + k) 32 s 2) b (k + 1) u' := by
 have T := h.start
 clear h
 have hB := hM.blk
 go_enter Tryz.func40, Tryz.ntmps40
 go_wp2_with (first | ((with_reducible refine load_w ?_ 77 isAgg_asm _ rfl _ _ rfl _ _ (T.get hB hM.ne hM.nr) _ rfl ?_); (focus rfl)) | (go_at_call 39; refine Calls.mono (TR.stepM T hM fun R2 h m => mat_k M A n off b _ 41 0 _ R2 _ h m (by (try simp only [zP, zN, zM, zL, zH]); omega) (by omega)) ?_; rintro e u2 ⟨rfl, T⟩) | (go_at_call 29; obtain ⟨R1, hA1, hC1, hF1⟩ := T.ex; have hM1 := hM.to hC1 hF1; refine Calls.mono (save_k A b k 1 _ R1 _ hA1 (by decide) (by omega) (by (try simp only [zP, zN, zM, zL, zH]); omega)) ?_; clear T; rintro e u3 ⟨v, R3, rfl, hA3, hC3, hF3, hI⟩; have hM := hM1.to hC3 hF3; have hC := Chg.trans hC1 hC3 hF1; have hF := Frsh.trans hF1 hF3 hC1.size; clear hC1 hC3 hF1 hF3 hM1 hA1; have T := hA3.start; have hB := hM.blk; obtain ⟨g, c, e, hc⟩ := hI.at T 0 _ (regs_0 _ _); rw [regs_len] at e; subst e; clear hA3))
 have HC := Lib.hid hC
 have HF := Lib.hid hF
 have HM := Lib.hid hM
 have HB := Lib.hid hB
 have hp : regs (b + k) 1 = [b + k] := by simp [regs]
 rw [hp] at T
 have T0 := Lib.hid T
 clear hC hF hM hB hc hI T hp
 go_loopw [19] (fun iv wr => ∃ j : Nat, j ≤ 2 ∧ iv = .int .i64 j ∧ Hid (TR A R3 u3 (l ++ [atc 41 (off + 0)] ++ [setc (b + k)] ++ spreadC (b + k) 32 s j) b (k + 1) wr)) (fun iv _ => 2 - (intOf iv).toNat)
 case atStart => exact ⟨0, by decide, rfl, Lib.hid (by simpa [spreadC] using T0.out)⟩
 case round =>
  obtain ⟨j, hj, rfl, HT⟩ := hrel
  have T := HT.out
  have hM := HM.out
  have hB := HB.out
  clear HT
  by_cases hlt : j < 2
  ·have hl := spreadC_len (b + k) 32 s j
   have e1 : IntKind.i64.wrap 64 = 64 := IntWalk.i64_in _ (by decide)
   have e2 : IntKind.i64.wrap 1 = 1 := IntWalk.i64_in _ (by decide)
   go_wp2_with (first | ((with_reducible refine load_w ?_ 77 isAgg_asm _ rfl _ _ rfl _ _ (T.get hB hM.ne hM.nr) _ rfl ?_); (focus rfl)) | (go_at_call 80; refine Calls.mono (T.step fun R2 h => lane_k A b (k + 1) 32 j (b + k) s _ R2 _ h (by decide) (by omega) (by (try simp only [zP, zN, zM, zL, zH]); omega)) ?_; rintro e u4 ⟨rfl, T⟩))
   have hB4 := T.get hB hM.ne hM.nr
   refine region_do (fun u => Below u4.heap.size u4 u) 10 (by kernel_rfl) (by kernel_rfl) (Below.refl _ _).drew ?_
   simp only [zF, zE, zD, zC]
   repeat (first | (refine wpD_here rfl (fun u hS => run_ldq _ isAgg_asm _ rfl M 0 rfl (.pointer (some ⟨A, 0, none⟩)) (by rw [cell_of_row u M 0 _ _ _ (blk_keep hB4 hS)]; rfl)) ?_; simp only [Act.put, z5, z6, z7]) | (refine wpD_pure (v := ?_) rfl (fun u => ?_) ?_; rotate_left; (focus (go_simp; (try with_reducible rfl); done)); simp only [Act.put, z5, z6, z7]))
   refine wpD_nil (fun w5 hb5 => ?_)
   go_wp2_with (first | (go_at_call 81; refine Calls.mono (T.stepB hb5 fun R2 h => into_k A b (k + 1) 64 0 _ R2 _ (h.below hb5) (by decide) (by omega) (by have := laneC_len (b + k) 32 j s; (try simp only [zP, zN, zM, zL, zH]); omega)) ?_; clear hb5; rintro e u6 ⟨rfl, T⟩))
   refine ⟨⟨j + 1, by omega, by first | rfl | simp, Lib.hid ?_⟩, by simp [intOf]; omega⟩
   simp only [spreadC, Nat.div_self (show 0 < 32 by decide), Nat.mod_one]
   simpa [List.append_assoc] using T
  ·obtain rfl : j = 2 := by omega
   go_wp2_with fail
   go_end0
   have := TR.trans HC.out HF.out T
   exact ⟨rfl, by simpa [List.append_assoc] using this⟩
end Go.Proofs.YtmfmokblmipagaaGreat
end
section
namespace Go.Proofs.YtmfmokblmipagaaGreat
open Go.RowKit Pl
structure FX where
 G : Nat
 F : Nat
 fb : Nat
 sb : Nat
 X : Nat
 sg : Value
 c : Nat
 om : Option MObj
def FX.may (f : FX) (k : Nat) : Prop := k = f.G ∨ k = f.F ∨ ∃ o, f.om = some o ∧ o.q = some k
def u6s (l : List (BitVec 64)) : List Value := l.map fun x => Value.int .u64 (x.toNat : Int)
theorem u6s_len (l : List (BitVec 64)) : (u6s l).length = l.length := by simp [u6s]
def memP (om : Option MObj) : Value := match om with
 | none => .pointer none
 | some o => .pointer (some ⟨o.p, 0, none⟩)
structure FixAt (f : FX) (cs : List Cel) (w1 : World) : Prop where
 fn : w1.heap[f.fb]? = some (.cells #[.int .i64 (-1), .int .i64 0, .int .i64 0, .int .i64 0, .int .i64 0, .slice (some ⟨f.X, 0, none⟩) cs.length f.c, .slice none 0 0] 125 (0, 0))
 nf : ¬ f.may f.fb
 st : ∃ sc, w1.heap[f.sb]? = some (.cells sc 73 (0, 0)) ∧ sc[11]? = some (memP f.om) ∧ sc[13]? = some (.slice none 0 0)
 ns : ¬ f.may f.sb
 ce : ∃ cur, w1.heap[f.X]? = some (.cells cur 130 (0, 0)) ∧ cur.toList.take (cs.length * 3) = celsR cs
 nx : ¬ f.may f.X
 gf : f.G ≠ f.F
 mm : ∀ o, f.om = some o → o.p ≠ f.G ∧ o.p ≠ f.F ∧ o.q ≠ some f.G ∧ o.q ≠ some f.F
structure IS (f : FX) (w1 : World) (s : CS) (u : World) : Prop where
 keep : Keep f.may w1 u
 run : u.heap[f.G]? = some (.cells #[f.sg, .slice (some ⟨f.fb, 0, none⟩) 1 1, .pointer (some ⟨f.sb, 0, none⟩), .pointer none, .int .i64 0, .int .i64 0, .int .i64 0, .int .i64 s.E] 121 (0, 0))
 lt : f.G < w1.heap.size ∧ f.F < w1.heap.size ∧ ∀ o, f.om = some o → ∀ k, o.has k → k < w1.heap.size
 fr : ∃ v l, u.heap[f.F]? = some (.cells #[v, l] 128 (0, 0)) ∧ u.ownsRow w1.heap.size 22 1 v s.V.length (u6s s.V) ∧ u.ownsRow w1.heap.size 22 1 l s.L.length (u6s s.L) ∧ (∀ k, v.ownBlock = some k → l.ownBlock ≠ some k)
 mem : ∀ o, f.om = some o → MemAt u (withβ o s.β)
theorem IS.below {f : FX} {w1 u u2 : World} {s : CS} (h : IS f w1 s u) (hb : Below u.heap.size u u2) : IS f w1 s u2 := by
 obtain ⟨v, l, h1, h2, h3, h4⟩ := h.fr
 exact ⟨h.keep.trans (Keep.of_below hb), blk_keep h.run hb, h.lt, ⟨v, l, blk_keep h1 hb, own_below h2 hb, own_below h3 hb, h4⟩, fun o ho => (h.mem o ho).below hb⟩
theorem IS.fn {f : FX} {cs : List Cel} {w1 u : World} {s : CS} (h : IS f w1 s u) (F : FixAt f cs w1) : u.heap[f.fb]? = some (.cells #[.int .i64 (-1), .int .i64 0, .int .i64 0, .int .i64 0, .int .i64 0, .slice (some ⟨f.X, 0, none⟩) cs.length f.c, .slice none 0 0] 125 (0, 0)) := h.keep.get F.fn F.nf
theorem IS.st {f : FX} {cs : List Cel} {w1 u : World} {s : CS} (h : IS f w1 s u) (F : FixAt f cs w1) : u.cell? ⟨f.sb, 11, none⟩ = some (memP f.om) ∧ u.cell? ⟨f.sb, 13, none⟩ = some (.slice none 0 0) := by
 obtain ⟨sc, h1, h2, h3⟩ := F.st
 have := h.keep.get h1 F.ns
 exact ⟨by rw [cell_of_row u f.sb 11 _ _ _ this]; exact h2, by rw [cell_of_row u f.sb 13 _ _ _ this]; exact h3⟩
theorem IS.setE {f : FX} {w1 u : World} {s : CS} (h : IS f w1 s u) (F : f.G ≠ f.F) (mm : ∀ o, f.om = some o → o.p ≠ f.G ∧ o.p ≠ f.F ∧ o.q ≠ some f.G ∧ o.q ≠ some f.F) (E : Int) : IS f w1 { s with E := E } (u.setCell ⟨f.G, 7, none⟩ (.int .i64 E)) := by
 obtain ⟨v, l, h1, h2, h3, h4⟩ := h.fr
 have g := grown_setCell u f.G 7 (.int .i64 E)
 have hne : ∀ (x : Value) (n : Nat) (xs : List Value), u.ownsRow w1.heap.size 22 1 x n xs → x.ownBlock = none ∨ x.ownBlock ≠ some f.G := fun x n xs hx => by
  by_cases hv : x.ownBlock = none
  ·exact .inl hv
  ·exact .inr fun e => by have := (own_lt hx f.G e).1; have := h.lt.1; omega
 refine ⟨h.keep.setCell (.inl (.inl rfl)) _, ?_, h.lt, ⟨v, l, (g.block f.F (block_lt h1) (fun e => F (by injection e with e; exact e.symm))).trans h1, h2.kept g (hne _ _ _ h2), h3.kept g (hne _ _ _ h3), h4⟩, fun o ho => ?_⟩
 ·rw [setCell_eq_setRow u f.G 7 _ _ _ _ h.run, setRow_heap u f.G _ _ _ _ h.run]
  rfl
 ·obtain ⟨m1, m2, m3, m4⟩ := mm o ho
  exact (h.mem o ho).keep (S := fun k => k = f.G) ⟨g.os, g.tape, g.output, g.size, fun k hk hS => g.block k hk (fun e => hS (by injection e))⟩ (fun k hk hS => by
   subst hS
   rcases hk with hk | hk
   ·exact m1 hk.symm
   ·exact m3 hk)
theorem IS.setV {f : FX} {w1 u u2 : World} {s : CS} (h : IS f w1 s u) (F : f.G ≠ f.F) (mm : ∀ o, f.om = some o → o.p ≠ f.G ∧ o.p ≠ f.F ∧ o.q ≠ some f.G ∧ o.q ≠ some f.F) {v l v2 : Value} (hF : u.heap[f.F]? = some (.cells #[v, l] 128 (0, 0)))
 (g : u.grownBy u2 v.ownBlock) (V2 : List (BitVec 64)) (hv : u2.ownsRow w1.heap.size 22 1 v2 V2.length (u6s V2)) (hn : ∀ k, v2.ownBlock = some k → v.ownBlock = some k ∨ u.heap.size ≤ k) :
 IS f w1 { s with V := V2 } (u2.setCell ⟨f.F, 0, none⟩ v2) := by
 obtain ⟨v', l', h1, h2, h3, h4⟩ := h.fr
 rw [hF] at h1
 obtain ⟨rfl, rfl⟩ : v = v' ∧ l = l' := by simpa using h1
 clear h1
 have hvB : ∀ k, v.ownBlock = some k → w1.heap.size ≤ k := fun k hk => (own_lt h2 k hk).1
 have hF2 : u2.heap[f.F]? = some (.cells #[v, l] 128 (0, 0)) := (g.block f.F (block_lt hF) (fun e => by have := hvB _ e.symm; have := h.lt.2.1; omega)).trans hF
 have gs := grown_setCell u2 f.F 0 v2
 have l2 : u2.ownsRow w1.heap.size 22 1 l s.L.length (u6s s.L) := h3.kept g (by
  by_cases hl : l.ownBlock = none
  ·exact .inl hl
  ·right
   intro e
   cases hk : l.ownBlock with
   | none => exact hl hk
   | some k => exact h4 k (by rw [← e, hk]) hk)
 have hne : ∀ (x : Value) (n : Nat) (xs : List Value), u2.ownsRow w1.heap.size 22 1 x n xs → x.ownBlock = none ∨ x.ownBlock ≠ some f.F := fun x n xs hx => by
  by_cases hv : x.ownBlock = none
  ·exact .inl hv
  ·exact .inr fun e => by have := (own_lt hx f.F e).1; have := h.lt.2.1; omega
 have hk0 : Keep f.may w1 u2 := ⟨g.os.trans h.keep.os, g.tape.trans h.keep.tape, g.output.trans h.keep.output, Nat.le_trans h.keep.size g.size, fun k hk hS => (g.block k (Nat.lt_of_lt_of_le hk h.keep.size) (fun e => by have := hvB k e.symm; omega)).trans (h.keep.block k hk hS)⟩
 refine ⟨hk0.setCell (.inl (.inr (.inl rfl))) _, (gs.block f.G (Nat.lt_of_lt_of_le (Nat.lt_of_lt_of_le h.lt.1 h.keep.size) g.size) (fun e => F (by injection e))).trans ((g.block f.G (Nat.lt_of_lt_of_le h.lt.1 h.keep.size) (fun e => by have := hvB _ e.symm; have := h.lt.1; omega)).trans h.run), h.lt, ⟨v2, l, ?_, hv.kept gs (hne _ _ _ hv), l2.kept gs (hne _ _ _ l2), fun k hk e => ?_⟩, fun o ho => ?_⟩
 ·rw [setCell_eq_setRow u2 f.F 0 _ _ _ _ hF2, setRow_heap u2 f.F _ _ _ _ hF2]
  rfl
 ·rcases hn k hk with h5 | h5
  ·exact h4 k h5 e
  ·have := (own_lt h3 k e).2; omega
 ·obtain ⟨m1, m2, m3, m4⟩ := mm o ho
  have ml := h.lt.2.2 o ho
  exact (h.mem o ho).keep (S := fun k => k = f.F ∨ v.ownBlock = some k) ⟨gs.os.trans g.os, gs.tape.trans g.tape, gs.output.trans g.output, Nat.le_trans g.size gs.size, fun k hk hS => (gs.block k (Nat.lt_of_lt_of_le hk g.size) (fun e => hS (.inl (by injection e)))).trans (g.block k hk (fun e => hS (.inr e.symm)))⟩ (fun k hk hS => by
   have hlt := ml k hk
   rcases hS with rfl | hS
   ·rcases hk with hk | hk
    ·exact m2 hk.symm
    ·exact m4 hk
   ·have := hvB k hS; omega)
theorem IS.setL {f : FX} {w1 u : World} {s : CS} (h : IS f w1 s u) {v l : Value} (hF : u.heap[f.F]? = some (.cells #[v, l] 128 (0, 0))) {g n c : Nat} (hl : l = .slice (some ⟨g, 0, none⟩) n c) (a : Nat) (ha : a < s.L.length) (x : BitVec 64) :
 IS f w1 { s with L := s.L.set a x } (u.setCell ⟨g, a, none⟩ (.int .u64 (x.toNat : Int))) := by
 obtain ⟨v', l', h1, h2, h3, h4⟩ := h.fr
 rw [hF] at h1
 obtain ⟨rfl, rfl⟩ : v = v' ∧ l = l' := by simpa using h1
 clear h1
 have gs := grown_setCell u g a (.int .u64 (x.toNat : Int))
 have hg := own_lt h3 g (by rw [hl]; rfl)
 have hG := h.lt.1
 have hFl := h.lt.2.1
 have hne : v.ownBlock = none ∨ v.ownBlock ≠ some g := by
  by_cases hv : v.ownBlock = none
  ·exact .inl hv
  ·exact .inr fun e => h4 g e (by rw [hl]; rfl)
 refine ⟨h.keep.setCell (.inr hg.1) _, (gs.block f.G (Nat.lt_of_lt_of_le hG h.keep.size) (fun e => by injection e with e; omega)).trans h.run, h.lt, ⟨v, l, (gs.block f.F (block_lt hF) (fun e => by injection e with e; omega)).trans hF, h2.kept gs hne, ?_, h4⟩, fun o ho => ?_⟩
 ·refine ⟨by simp [u6s], .inr ?_⟩
  rcases h3.2 with ⟨e, _⟩ | ⟨g2, cap, cur, e, hB, hh, hn, hm, hs, ht⟩
  ·rw [hl] at e; injection e with e; cases e
  ·rw [hl] at e
   injection e with e1 e2 e3
   injection e1 with e1
   injection e1 with e1
   subst e1 e2 e3
   refine ⟨g, c, cur.setIfInBounds a (.int .u64 (x.toNat : Int)), by rw [hl]; simp, hB, by rw [setCell_eq_setRow u g a cur _ _ _ hh, setRow_heap u g _ _ _ _ hh], by simpa using hn, hm, by simpa using hs, ?_⟩
   have hlen : (s.L.set a x).length * 1 = s.L.length * 1 := by simp
   rw [hlen]
   show List.take _ (cur.setIfInBounds a _).toList = u6s (s.L.set a x)
   rw [Array.toList_setIfInBounds, List.take_set, ht]
   simp [u6s, List.map_set]
 ·exact (h.mem o ho).keep (S := fun k => k = g) ⟨gs.os, gs.tape, gs.output, gs.size, fun k hk hS => gs.block k hk (fun e => hS (by injection e))⟩ (fun k hk hS => by have := h.lt.2.2 o ho k hk; omega)
structure LV (w1 : World) (lv : Value) (xs : List (BitVec 64)) (u : World) : Prop where
 ex : ∃ g c cur, lv = .slice (some ⟨g, 0, none⟩) xs.length c ∧ w1.heap.size ≤ g ∧ u.heap[g]? = some (.cells cur 22 (0, 0)) ∧ ∀ (i : Nat) (x : BitVec 64), xs[i]? = some x → cur[i]? = some (Value.int .u64 (x.toNat : Int))
end Go.Proofs.YtmfmokblmipagaaGreat
end
