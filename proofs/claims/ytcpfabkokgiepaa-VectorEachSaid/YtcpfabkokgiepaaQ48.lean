/-
  Texts VcR9.
-/
import Derived.Test.YtcpfabkokgiepaaQ47
import Derived.Deep.Cut
set_option linter.unusedSimpArgs false
set_option linter.unusedVariables false
set_option maxHeartbeats 8000000
open Pl
namespace Go.Proofs.Ytcpfabkokgiepaa
open Go.RowKit Pl
theorem ret_ext (Y : Int) (h : -9223372036854775808 ≤ Y ∧ Y ≤ 9223372036854775807) : Ending.returned (.tuple #[.int .u64 ((IntKind.u64.wrap Y).tmod 4294967296), .int .i64 0]) = Ending.returned (.tuple #[.int .u64 (((Y % 4294967296).toNat : Nat) : Int), .int .i64 0]) := by
 have : (IntKind.u64.wrap Y).tmod 4294967296 = (((Y % 4294967296).toNat : Nat) : Int) := by
  rw [IntKind.wrap_u64, Int.tmod_eq_emod_of_nonneg (by omega)]
  omega
 rw [this]
set_option maxRecDepth 100000 in
theorem rrepl_g (k I wd : Int) (n : Nat) (h : (k = 64791 ∧ I = 0 ∧ wd = 8 ∧ n = 16) ∨ (k = 64794 ∧ I = 1 ∧ wd = 16 ∧ n = 8) ∨ (k = 64796 ∧ I = 2 ∧ wd = 32 ∧ n = 4) ∨ (k = 64798 ∧ I = 3 ∧ wd = 64 ∧ n = 2)) (v X : Vec) (i x : Nat) (w : World) (hi : i < n) (HS : ∀ W, Calls Try.prog 68 #[.agg (mY v), .int .i64 wd, .int .i64 (i : Nat), .int .u64 (x : Nat)] W fun e w' => e = .returned (.agg (mY X)) ∧ Below W.heap.size W w') : Calls Try.prog 43 #[.int .i64 k, .int .i64 (i : Nat), .agg (mY v), .int .u64 (x : Nat)] w fun e w' => e = .returned (.tuple #[.agg (mY X), .int .i64 0]) ∧ Below w.heap.size w w' := by
 have HF := fun W => s9 k 23 26 28 30 W (by decide) (by decide) (by decide) (by decide)
 rw [show rW k 23 26 28 30 = I by rcases h with ⟨rfl, rfl, rfl, rfl⟩ | ⟨rfl, rfl, rfl, rfl⟩ | ⟨rfl, rfl, rfl, rfl⟩ | ⟨rfl, rfl, rfl, rfl⟩ <;> decide] at HF
 replace HF := Lib.hid HF
 have HW : ∀ W, Calls Try.prog 72 #[.int .i64 I] W fun e w' => e = .returned (.int .i64 wd) ∧ Below W.heap.size W w' := fun W => j8
 replace HW := Lib.hid HW
 replace HS := Lib.hid HS
 have q1 : decide ((i : Int) < 0) = false := by simp
 have q2 : decide ((n : Int) ≤ (i : Int)) = false := by simp; omega
 rcases h with ⟨rfl, rfl, rfl, rfl⟩ | ⟨rfl, rfl, rfl, rfl⟩ | ⟨rfl, rfl, rfl, rfl⟩ | ⟨rfl, rfl, rfl, rfl⟩
 all_goals
  as_aux_lemma =>
   go_enter Try.func43, Try.ntmps43
   go_upto_region 4 with (first | (go_at_call 71; (with_reducible refine (HF.out _).mono ?_); rintro e u1 ⟨rfl, hb1⟩; have hV := mV (heap_alloc2_old w (.cells (mY v) 45) (.cells #[.int .u8 0, .int .u8 0, .int .u8 0, .int .u8 0, .int .u8 0, .int .u8 0, .int .u8 0, .int .u8 0, .int .u8 0, .int .u8 0, .int .u8 0, .int .u8 0, .int .u8 0, .int .u8 0, .int .u8 0, .int .u8 0] 45)) hb1; have hR := mV (heap_alloc2_new w (.cells (mY v) 45) (.cells #[.int .u8 0, .int .u8 0, .int .u8 0, .int .u8 0, .int .u8 0, .int .u8 0, .int .u8 0, .int .u8 0, .int .u8 0, .int .u8 0, .int .u8 0, .int .u8 0, .int .u8 0, .int .u8 0, .int .u8 0, .int .u8 0] 45)) hb1; have hZ := vH w _ _ hb1; rw [← mU] at hR; clear hb1) | (go_at_call 72; (with_reducible refine (HW.out _).mono ?_); rintro e u9 ⟨rfl, hb9⟩; replace hV := mV hV hb9; (try replace hR := mV hR hb9); replace hZ := hZ.trans (hb9.mono hZ.size); clear hb9))
   obtain ⟨W, hW⟩ : ∃ W, W = u9 := ⟨_, rfl⟩
   rw [← hW] at hV hR hZ ⊢
   clear hW
   refine mN (fun u => Below W.heap.size W u) 6 (by kernel_rfl) (by kernel_rfl) (Below.refl _ _).drew ?_
   simp only [zP, zN, zM, zL]
   repeat (first | (refine zQ rfl (fun u hS => uG _ rfl _ rfl _ (mV hV hS)) ?_) | (refine zZ (.int .i64 8) 72 (c := fun u hS => by with_reducible exact HW.out _) (r := ?_)) | (refine zZ (.int .i64 16) 72 (c := fun u hS => by with_reducible exact HW.out _) (r := ?_)) | (refine zZ (.int .i64 32) 72 (c := fun u hS => by with_reducible exact HW.out _) (r := ?_)) | (refine zZ (.int .i64 64) 72 (c := fun u hS => by with_reducible exact HW.out _) (r := ?_)) | (refine zZ (.agg (mY X)) 68 (c := fun u hS => by with_reducible exact HS.out _) (r := ?_)) | (refine z8 ?_))
   refine mH (fun u hS => ?_)
   replace hR := mV hR hS
   replace hZ := hZ.trans (hS.mono hZ.size)
   go_wp2_with (first | (with_reducible refine mK rfl _ _ rfl (w.heap.size + 1) _ rfl rfl _ hR ?_; intro wq hq))
   exact bodyPost_ret (mS rfl _ _ (w.heap.size + 1) _ _ rfl rfl hq.this) rfl ⟨rfl, hZ.trans (hq.below.mono (by omega))⟩
set_option maxRecDepth 100000 in
theorem rrepl_gno (k I wd : Int) (n : Int) (h : (k = 64791 ∧ I = 0 ∧ wd = 8 ∧ n = 16) ∨ (k = 64794 ∧ I = 1 ∧ wd = 16 ∧ n = 8) ∨ (k = 64796 ∧ I = 2 ∧ wd = 32 ∧ n = 4) ∨ (k = 64798 ∧ I = 3 ∧ wd = 64 ∧ n = 2)) (v : Vec) (i : Int) (x : Nat) (w : World) (hi : i < 0 ∨ n ≤ i) : Calls Try.prog 43 #[.int .i64 k, .int .i64 i, .agg (mY v), .int .u64 (x : Nat)] w fun e w' => e = .returned (.tuple #[.agg (mY 0), .int .i64 1]) ∧ Below w.heap.size w w' := by
 have HF := fun W => s9 k 23 26 28 30 W (by decide) (by decide) (by decide) (by decide)
 rw [show rW k 23 26 28 30 = I by rcases h with ⟨rfl, rfl, rfl, rfl⟩ | ⟨rfl, rfl, rfl, rfl⟩ | ⟨rfl, rfl, rfl, rfl⟩ | ⟨rfl, rfl, rfl, rfl⟩ <;> decide] at HF
 replace HF := Lib.hid HF
 have HW : ∀ W, Calls Try.prog 72 #[.int .i64 I] W fun e w' => e = .returned (.int .i64 wd) ∧ Below W.heap.size W w' := fun W => j8
 replace HW := Lib.hid HW
 obtain ⟨B, q1⟩ : ∃ B, decide (i < 0) = B := ⟨_, rfl⟩
 have q2 : B = false → decide (n ≤ i) = true := fun e => by rw [e] at q1; have := of_decide_eq_false q1; exact decide_eq_true (by omega)
 clear hi
 rcases h with ⟨rfl, rfl, rfl, rfl⟩ | ⟨rfl, rfl, rfl, rfl⟩ | ⟨rfl, rfl, rfl, rfl⟩ | ⟨rfl, rfl, rfl, rfl⟩
 all_goals
  cases B
 all_goals
  as_aux_lemma =>
   (try replace q2 := q2 rfl)
   go_enter Try.func43, Try.ntmps43
   go_wp2_with (first | (go_at_call 71; (with_reducible refine (HF.out _).mono ?_); rintro e u1 ⟨rfl, hb1⟩; have hV := mV (heap_alloc2_old w (.cells (mY v) 45) (.cells #[.int .u8 0, .int .u8 0, .int .u8 0, .int .u8 0, .int .u8 0, .int .u8 0, .int .u8 0, .int .u8 0, .int .u8 0, .int .u8 0, .int .u8 0, .int .u8 0, .int .u8 0, .int .u8 0, .int .u8 0, .int .u8 0] 45)) hb1; have hR := mV (heap_alloc2_new w (.cells (mY v) 45) (.cells #[.int .u8 0, .int .u8 0, .int .u8 0, .int .u8 0, .int .u8 0, .int .u8 0, .int .u8 0, .int .u8 0, .int .u8 0, .int .u8 0, .int .u8 0, .int .u8 0, .int .u8 0, .int .u8 0, .int .u8 0, .int .u8 0] 45)) hb1; have hZ := vH w _ _ hb1; rw [← mU] at hR; clear hb1) | (go_at_call 72; (with_reducible refine (HW.out _).mono ?_); rintro e u9 ⟨rfl, hb9⟩; replace hV := mV hV hb9; (try replace hR := mV hR hb9); replace hZ := hZ.trans (hb9.mono hZ.size); clear hb9) | (refine mK rfl _ _ rfl (w.heap.size + 1) 0 rfl (by rw [mU]; rfl) _ hR ?_; intro wq hq))
   exact bodyPost_ret (mS rfl _ _ (w.heap.size + 1) _ _ rfl rfl hq.this) rfl ⟨rfl, hZ.trans (hq.below.mono (by omega))⟩
set_option maxRecDepth 100000 in
theorem rrepl_no (op : Int) (v : Vec) (i : Int) (x : Nat) (w : World) (h : rW op 23 26 28 30 = -1) : Calls Try.prog 43 #[.int .i64 op, .int .i64 i, .agg (mY v), .int .u64 (x : Nat)] w fun e w' => e = .returned (.tuple #[.agg (mY 0), .int .i64 1]) ∧ Below w.heap.size w w' := by
 have HF := Lib.hid (fun W => s9 op 23 26 28 30 W (by decide) (by decide) (by decide) (by decide))
 rw [h] at HF
 go_enter Try.func43, Try.ntmps43
 go_wp2_with (first | (go_at_call 71; (with_reducible refine (HF.out _).mono ?_); rintro e u1 ⟨rfl, hb1⟩; have hV := mV (heap_alloc2_old w (.cells (mY v) 45) (.cells #[.int .u8 0, .int .u8 0, .int .u8 0, .int .u8 0, .int .u8 0, .int .u8 0, .int .u8 0, .int .u8 0, .int .u8 0, .int .u8 0, .int .u8 0, .int .u8 0, .int .u8 0, .int .u8 0, .int .u8 0, .int .u8 0] 45)) hb1; have hR := mV (heap_alloc2_new w (.cells (mY v) 45) (.cells #[.int .u8 0, .int .u8 0, .int .u8 0, .int .u8 0, .int .u8 0, .int .u8 0, .int .u8 0, .int .u8 0, .int .u8 0, .int .u8 0, .int .u8 0, .int .u8 0, .int .u8 0, .int .u8 0, .int .u8 0, .int .u8 0] 45)) hb1; have hZ := vH w _ _ hb1; rw [← mU] at hR; clear hb1) | (refine mK rfl _ _ rfl (w.heap.size + 1) 0 rfl (by rw [mU]; rfl) _ hR ?_; intro wq hq))
 exact bodyPost_ret (mS rfl _ _ (w.heap.size + 1) _ _ rfl rfl hq.this) rfl ⟨rfl, hZ.trans (hq.below.mono (by omega))⟩
set_option maxRecDepth 100000 in
theorem rrepl_k (κ i : Int) (v : Vec) (x : Nat) (w : World) (hx : x < 2 ^ 64) : Calls Try.prog 43 #[.int .i64 (64768 + κ), .int .i64 i, .agg (mY v), .int .u64 (x : Nat)] w fun e w' => e = .returned (.tuple #[.agg (mY (v7 κ i v x).1), .int .i64 (v7 κ i v x).2]) ∧ Below w.heap.size w w' := by
 by_cases h23 : κ = 23
 ·subst h23
  by_cases hi : i < 0 ∨ (16 : Int) ≤ i
  ·have e : v7 23 i v x = (0, 1) := if_pos (.inr (.inr hi))
   rw [e]
   exact rrepl_gno 64791 0 8 16 (.inl ⟨rfl, rfl, rfl, rfl⟩) v i x w hi
  ·obtain ⟨j, rfl⟩ := Int.eq_ofNat_of_zero_le (show 0 ≤ i by omega)
   have e : v7 23 (j : Int) v x = (t7 v 8 j x, 0) := if_neg (fun h => by rcases h with h | h | h | h <;> first | exact absurd h (by decide) | exact hi (.inl h) | exact hi (.inr h))
   rw [e]
   exact rrepl_g 64791 0 8 16 (.inl ⟨rfl, rfl, rfl, rfl⟩) v _ j x w (by omega) (fun W => rset8 v j x W (by omega) hx)
 by_cases h26 : κ = 26
 ·subst h26
  by_cases hi : i < 0 ∨ (8 : Int) ≤ i
  ·have e : v7 26 i v x = (0, 1) := if_pos (.inr (.inr hi))
   rw [e]
   exact rrepl_gno 64794 1 16 8 (.inr (.inl ⟨rfl, rfl, rfl, rfl⟩)) v i x w hi
  ·obtain ⟨j, rfl⟩ := Int.eq_ofNat_of_zero_le (show 0 ≤ i by omega)
   have e : v7 26 (j : Int) v x = (t7 v 16 j x, 0) := if_neg (fun h => by rcases h with h | h | h | h <;> first | exact absurd h (by decide) | exact hi (.inl h) | exact hi (.inr h))
   rw [e]
   exact rrepl_g 64794 1 16 8 (.inr (.inl ⟨rfl, rfl, rfl, rfl⟩)) v _ j x w (by omega) (fun W => rset16 v j x W (by omega) hx)
 by_cases h28 : κ = 28
 ·subst h28
  by_cases hi : i < 0 ∨ (4 : Int) ≤ i
  ·have e : v7 28 i v x = (0, 1) := if_pos (.inr (.inr hi))
   rw [e]
   exact rrepl_gno 64796 2 32 4 (.inr (.inr (.inl ⟨rfl, rfl, rfl, rfl⟩))) v i x w hi
  ·obtain ⟨j, rfl⟩ := Int.eq_ofNat_of_zero_le (show 0 ≤ i by omega)
   have e : v7 28 (j : Int) v x = (t7 v 32 j x, 0) := if_neg (fun h => by rcases h with h | h | h | h <;> first | exact absurd h (by decide) | exact hi (.inl h) | exact hi (.inr h))
   rw [e]
   exact rrepl_g 64796 2 32 4 (.inr (.inr (.inl ⟨rfl, rfl, rfl, rfl⟩))) v _ j x w (by omega) (fun W => rset32 v j x W (by omega) hx)
 by_cases h30 : κ = 30
 ·subst h30
  by_cases hi : i < 0 ∨ (2 : Int) ≤ i
  ·have e : v7 30 i v x = (0, 1) := if_pos (.inr (.inr hi))
   rw [e]
   exact rrepl_gno 64798 3 64 2 (.inr (.inr (.inr (⟨rfl, rfl, rfl, rfl⟩)))) v i x w hi
  ·obtain ⟨j, rfl⟩ := Int.eq_ofNat_of_zero_le (show 0 ≤ i by omega)
   have e : v7 30 (j : Int) v x = (t7 v 64 j x, 0) := if_neg (fun h => by rcases h with h | h | h | h <;> first | exact absurd h (by decide) | exact hi (.inl h) | exact hi (.inr h))
   rw [e]
   exact rrepl_g 64798 3 64 2 (.inr (.inr (.inr (⟨rfl, rfl, rfl, rfl⟩)))) v _ j x w (by omega) (fun W => rset64 v j x W (by omega) hx)
 have e : v7 κ i v x = (0, 1) := by
  unfold v7
  refine if_pos ?_
  unfold vF
  by_cases h : κ = 21 ∨ κ = 22
  ·right; left; rw [if_pos h]
  ·rw [if_neg h, if_neg h23]
   by_cases h2 : κ = 24 ∨ κ = 25
   ·right; left; rw [if_pos h2]
   ·rw [if_neg h2, if_neg h26]
    by_cases h3 : κ = 27
    ·right; left; rw [if_pos h3]
    ·rw [if_neg h3, if_neg h28]
     by_cases h4 : κ = 29
     ·right; left; rw [if_pos h4]
     ·left; rw [if_neg h4, if_neg h30]
 rw [e]
 exact rrepl_no _ v i x w (by unfold rW; rw [if_neg (by omega), if_neg (by omega), if_neg (by omega), if_neg (by omega)])
set_option maxRecDepth 100000 in
theorem rext_gs (k I wd : Int) (n : Nat) (h : (k = 64789 ∧ I = 0 ∧ wd = 8 ∧ n = 16) ∨ (k = 64792 ∧ I = 1 ∧ wd = 16 ∧ n = 8)) (v : Vec) (i : Nat) (w : World) (hi : i < n) (Y : Int) (hYr : -9223372036854775808 ≤ Y ∧ Y ≤ 9223372036854775807) (HS : ∀ W, Calls Try.prog 73 #[.agg (mY v), .int .i64 wd, .int .i64 (i : Nat)] W fun e w' => e = .returned (.int .i64 Y) ∧ Below W.heap.size W w') : Calls Try.prog 42 #[.int .i64 k, .int .i64 (i : Nat), .agg (mY v)] w fun e w' => e = .returned (.tuple #[.int .u64 ((Y % 4294967296).toNat : Nat), .int .i64 0]) ∧ Below w.heap.size w w' := by
 have HF := fun W => s9 k 21 24 27 29 W (by decide) (by decide) (by decide) (by decide)
 rw [show rW k 21 24 27 29 = I by rcases h with ⟨rfl, rfl, rfl, rfl⟩ | ⟨rfl, rfl, rfl, rfl⟩ <;> decide] at HF
 replace HF := Lib.hid HF
 have HW : ∀ W, Calls Try.prog 72 #[.int .i64 I] W fun e w' => e = .returned (.int .i64 wd) ∧ Below W.heap.size W w' := fun W => gK
 replace HW := Lib.hid HW
 replace HS := Lib.hid HS
 have q1 : decide ((i : Int) < 0) = false := by simp
 have q2 : decide ((n : Int) ≤ (i : Int)) = false := by simp; omega
 obtain ⟨Z, hZ0⟩ : ∃ Z : Nat, Z = (Y % 4294967296).toNat := ⟨_, rfl⟩
 rw [← hZ0]
 have HZ0 := Lib.hid hZ0
 clear hZ0
 rcases h with ⟨rfl, rfl, rfl, rfl⟩ | ⟨rfl, rfl, rfl, rfl⟩
 all_goals
  as_aux_lemma =>
   go_enter Try.func42, Try.ntmps42
   go_upto_region 8 with (first | (go_at_call 71; (with_reducible refine (HF.out _).mono ?_); rintro e u1 ⟨rfl, hb1⟩; have hV := mV (heap_alloc_new w (.cells (mY v) 45)) hb1; have hZ := mB (Below.refl w.heap.size w) (Nat.le_refl _) _ hb1; clear hb1) | (go_at_call 72; (with_reducible refine (HW.out _).mono ?_); rintro e u9 ⟨rfl, hb9⟩; replace hV := mV hV hb9; replace hZ := hZ.trans (hb9.mono hZ.size); clear hb9))
   obtain ⟨W, hW⟩ : ∃ W, W = u9 := ⟨_, rfl⟩
   rw [← hW] at hV hZ ⊢
   clear hW
   refine mN (fun u => Below W.heap.size W u) 7 (by kernel_rfl) (by kernel_rfl) (Below.refl _ _).drew ?_
   simp only [zP, zN, zM, zL]
   repeat (first | (refine zQ rfl (fun u hS => uG _ rfl _ rfl _ (mV hV hS)) ?_) | (refine zZ (.int .i64 8) 72 (c := fun u hS => by with_reducible exact HW.out _) (r := ?_)) | (refine zZ (.int .i64 16) 72 (c := fun u hS => by with_reducible exact HW.out _) (r := ?_)) | (refine zZ (.int .i64 Y) 73 (c := fun u hS => by with_reducible exact HS.out _) (r := ?_)) | (refine z8 ?_))
   refine mH (fun u hS => ?_)
   replace hZ := hZ.trans (hS.mono hZ.size)
   go_wp2_with fail
   go_ret2
   refine ⟨?_, hZ⟩; rw [HZ0.out]; exact ret_ext _ hYr
set_option maxRecDepth 100000 in
theorem rext_gsno (k I wd : Int) (n : Int) (h : (k = 64789 ∧ I = 0 ∧ wd = 8 ∧ n = 16) ∨ (k = 64792 ∧ I = 1 ∧ wd = 16 ∧ n = 8)) (v : Vec) (i : Int) (w : World) (hi : i < 0 ∨ n ≤ i) : Calls Try.prog 42 #[.int .i64 k, .int .i64 i, .agg (mY v)] w fun e w' => e = .returned (.tuple #[.int .u64 0, .int .i64 1]) ∧ Below w.heap.size w w' := by
 have HF := fun W => s9 k 21 24 27 29 W (by decide) (by decide) (by decide) (by decide)
 rw [show rW k 21 24 27 29 = I by rcases h with ⟨rfl, rfl, rfl, rfl⟩ | ⟨rfl, rfl, rfl, rfl⟩ <;> decide] at HF
 replace HF := Lib.hid HF
 have HW : ∀ W, Calls Try.prog 72 #[.int .i64 I] W fun e w' => e = .returned (.int .i64 wd) ∧ Below W.heap.size W w' := fun W => gK
 replace HW := Lib.hid HW
 obtain ⟨B, q1⟩ : ∃ B, decide (i < 0) = B := ⟨_, rfl⟩
 have q2 : B = false → decide (n ≤ i) = true := fun e => by rw [e] at q1; have := of_decide_eq_false q1; exact decide_eq_true (by omega)
 clear hi
 rcases h with ⟨rfl, rfl, rfl, rfl⟩ | ⟨rfl, rfl, rfl, rfl⟩
 all_goals
  cases B
 all_goals
  as_aux_lemma =>
   (try replace q2 := q2 rfl)
   go_enter Try.func42, Try.ntmps42
   go_wp2_with (first | (go_at_call 71; (with_reducible refine (HF.out _).mono ?_); rintro e u1 ⟨rfl, hb1⟩; have hV := mV (heap_alloc_new w (.cells (mY v) 45)) hb1; have hZ := mB (Below.refl w.heap.size w) (Nat.le_refl _) _ hb1; clear hb1) | (go_at_call 72; (with_reducible refine (HW.out _).mono ?_); rintro e u9 ⟨rfl, hb9⟩; replace hV := mV hV hb9; replace hZ := hZ.trans (hb9.mono hZ.size); clear hb9))
   go_ret2
   exact ⟨rfl, hZ⟩
set_option maxRecDepth 100000 in
theorem rext_gu (k I wd : Int) (n : Nat) (h : (k = 64790 ∧ I = 0 ∧ wd = 8 ∧ n = 16) ∨ (k = 64793 ∧ I = 1 ∧ wd = 16 ∧ n = 8)) (v : Vec) (i : Nat) (w : World) (hi : i < n) (Y : Nat) (HS : ∀ W, Calls Try.prog 74 #[.agg (mY v), .int .i64 wd, .int .i64 (i : Nat)] W fun e w' => e = .returned (.int .u64 (Y : Nat)) ∧ Below W.heap.size W w') : Calls Try.prog 42 #[.int .i64 k, .int .i64 (i : Nat), .agg (mY v)] w fun e w' => e = .returned (.tuple #[.int .u64 (Y : Nat), .int .i64 0]) ∧ Below w.heap.size w w' := by
 have HF := fun W => s9 k 21 24 27 29 W (by decide) (by decide) (by decide) (by decide)
 rw [show rW k 21 24 27 29 = (-1) by rcases h with ⟨rfl, rfl, rfl, rfl⟩ | ⟨rfl, rfl, rfl, rfl⟩ <;> decide] at HF
 replace HF := Lib.hid HF
 have HG := fun W => s9 k 22 25 27 29 W (by decide) (by decide) (by decide) (by decide)
 rw [show rW k 22 25 27 29 = I by rcases h with ⟨rfl, rfl, rfl, rfl⟩ | ⟨rfl, rfl, rfl, rfl⟩ <;> decide] at HG
 replace HG := Lib.hid HG
 have HW : ∀ W, Calls Try.prog 72 #[.int .i64 I] W fun e w' => e = .returned (.int .i64 wd) ∧ Below W.heap.size W w' := fun W => gK
 replace HW := Lib.hid HW
 replace HS := Lib.hid HS
 have q1 : decide ((i : Int) < 0) = false := by simp
 have q2 : decide ((n : Int) ≤ (i : Int)) = false := by simp; omega
 rcases h with ⟨rfl, rfl, rfl, rfl⟩ | ⟨rfl, rfl, rfl, rfl⟩
 all_goals
  as_aux_lemma =>
   go_enter Try.func42, Try.ntmps42
   go_upto_region 9 with (first | (go_at_call 71; (with_reducible refine (HG.out _).mono ?_); rintro e u2 ⟨rfl, hb2⟩; replace hV := mV hV hb2; replace hZ := hZ.trans (hb2.mono hZ.size); clear hb2) | (go_at_call 71; (with_reducible refine (HF.out _).mono ?_); rintro e u1 ⟨rfl, hb1⟩; have hV := mV (heap_alloc_new w (.cells (mY v) 45)) hb1; have hZ := mB (Below.refl w.heap.size w) (Nat.le_refl _) _ hb1; clear hb1) | (go_at_call 72; (with_reducible refine (HW.out _).mono ?_); rintro e u9 ⟨rfl, hb9⟩; replace hV := mV hV hb9; replace hZ := hZ.trans (hb9.mono hZ.size); clear hb9))
   obtain ⟨W, hW⟩ : ∃ W, W = u9 := ⟨_, rfl⟩
   rw [← hW] at hV hZ ⊢
   clear hW
   refine mN (fun u => Below W.heap.size W u) 5 (by kernel_rfl) (by kernel_rfl) (Below.refl _ _).drew ?_
   simp only [zP, zN, zM, zL]
   repeat (first | (refine zQ rfl (fun u hS => uG _ rfl _ rfl _ (mV hV hS)) ?_) | (refine zZ (.int .i64 8) 72 (c := fun u hS => by with_reducible exact HW.out _) (r := ?_)) | (refine zZ (.int .i64 16) 72 (c := fun u hS => by with_reducible exact HW.out _) (r := ?_)) | (refine zZ (.int .u64 (Y : Nat)) 74 (c := fun u hS => by with_reducible exact HS.out _) (r := ?_)) | (refine z8 ?_))
   refine mH (fun u hS => ?_)
   replace hZ := hZ.trans (hS.mono hZ.size)
   go_wp2_with fail
   go_ret2
   exact ⟨rfl, hZ⟩
set_option maxRecDepth 100000 in
theorem rext_guno (k I wd : Int) (n : Int) (h : (k = 64790 ∧ I = 0 ∧ wd = 8 ∧ n = 16) ∨ (k = 64793 ∧ I = 1 ∧ wd = 16 ∧ n = 8)) (v : Vec) (i : Int) (w : World) (hi : i < 0 ∨ n ≤ i) : Calls Try.prog 42 #[.int .i64 k, .int .i64 i, .agg (mY v)] w fun e w' => e = .returned (.tuple #[.int .u64 0, .int .i64 1]) ∧ Below w.heap.size w w' := by
 have HF := fun W => s9 k 21 24 27 29 W (by decide) (by decide) (by decide) (by decide)
 rw [show rW k 21 24 27 29 = (-1) by rcases h with ⟨rfl, rfl, rfl, rfl⟩ | ⟨rfl, rfl, rfl, rfl⟩ <;> decide] at HF
 replace HF := Lib.hid HF
 have HG := fun W => s9 k 22 25 27 29 W (by decide) (by decide) (by decide) (by decide)
 rw [show rW k 22 25 27 29 = I by rcases h with ⟨rfl, rfl, rfl, rfl⟩ | ⟨rfl, rfl, rfl, rfl⟩ <;> decide] at HG
 replace HG := Lib.hid HG
 have HW : ∀ W, Calls Try.prog 72 #[.int .i64 I] W fun e w' => e = .returned (.int .i64 wd) ∧ Below W.heap.size W w' := fun W => gK
 replace HW := Lib.hid HW
 obtain ⟨B, q1⟩ : ∃ B, decide (i < 0) = B := ⟨_, rfl⟩
 have q2 : B = false → decide (n ≤ i) = true := fun e => by rw [e] at q1; have := of_decide_eq_false q1; exact decide_eq_true (by omega)
 clear hi
 rcases h with ⟨rfl, rfl, rfl, rfl⟩ | ⟨rfl, rfl, rfl, rfl⟩
 all_goals
  cases B
 all_goals
  as_aux_lemma =>
   (try replace q2 := q2 rfl)
   go_enter Try.func42, Try.ntmps42
   go_wp2_with (first | (go_at_call 71; (with_reducible refine (HG.out _).mono ?_); rintro e u2 ⟨rfl, hb2⟩; replace hV := mV hV hb2; replace hZ := hZ.trans (hb2.mono hZ.size); clear hb2) | (go_at_call 71; (with_reducible refine (HF.out _).mono ?_); rintro e u1 ⟨rfl, hb1⟩; have hV := mV (heap_alloc_new w (.cells (mY v) 45)) hb1; have hZ := mB (Below.refl w.heap.size w) (Nat.le_refl _) _ hb1; clear hb1) | (go_at_call 72; (with_reducible refine (HW.out _).mono ?_); rintro e u9 ⟨rfl, hb9⟩; replace hV := mV hV hb9; replace hZ := hZ.trans (hb9.mono hZ.size); clear hb9))
   go_ret2
   exact ⟨rfl, hZ⟩
set_option maxRecDepth 100000 in
theorem rext_gv (k I wd : Int) (n : Nat) (h : (k = 64795 ∧ I = 2 ∧ wd = 32 ∧ n = 4) ∨ (k = 64797 ∧ I = 3 ∧ wd = 64 ∧ n = 2)) (v : Vec) (i : Nat) (w : World) (hi : i < n) (Y : Nat) (HS : ∀ W, Calls Try.prog 74 #[.agg (mY v), .int .i64 wd, .int .i64 (i : Nat)] W fun e w' => e = .returned (.int .u64 (Y : Nat)) ∧ Below W.heap.size W w') : Calls Try.prog 42 #[.int .i64 k, .int .i64 (i : Nat), .agg (mY v)] w fun e w' => e = .returned (.tuple #[.int .u64 (Y : Nat), .int .i64 0]) ∧ Below w.heap.size w w' := by
 have HF := fun W => s9 k 21 24 27 29 W (by decide) (by decide) (by decide) (by decide)
 rw [show rW k 21 24 27 29 = I by rcases h with ⟨rfl, rfl, rfl, rfl⟩ | ⟨rfl, rfl, rfl, rfl⟩ <;> decide] at HF
 replace HF := Lib.hid HF
 have HW : ∀ W, Calls Try.prog 72 #[.int .i64 I] W fun e w' => e = .returned (.int .i64 wd) ∧ Below W.heap.size W w' := fun W => kM
 replace HW := Lib.hid HW
 replace HS := Lib.hid HS
 have q1 : decide ((i : Int) < 0) = false := by simp
 have q2 : decide ((n : Int) ≤ (i : Int)) = false := by simp; omega
 rcases h with ⟨rfl, rfl, rfl, rfl⟩ | ⟨rfl, rfl, rfl, rfl⟩
 all_goals
  as_aux_lemma =>
   go_enter Try.func42, Try.ntmps42
   go_upto_region 9 with (first | (go_at_call 71; (with_reducible refine (HF.out _).mono ?_); rintro e u1 ⟨rfl, hb1⟩; have hV := mV (heap_alloc_new w (.cells (mY v) 45)) hb1; have hZ := mB (Below.refl w.heap.size w) (Nat.le_refl _) _ hb1; clear hb1) | (go_at_call 72; (with_reducible refine (HW.out _).mono ?_); rintro e u9 ⟨rfl, hb9⟩; replace hV := mV hV hb9; replace hZ := hZ.trans (hb9.mono hZ.size); clear hb9))
   obtain ⟨W, hW⟩ : ∃ W, W = u9 := ⟨_, rfl⟩
   rw [← hW] at hV hZ ⊢
   clear hW
   refine mN (fun u => Below W.heap.size W u) 5 (by kernel_rfl) (by kernel_rfl) (Below.refl _ _).drew ?_
   simp only [zP, zN, zM, zL]
   repeat (first | (refine zQ rfl (fun u hS => uG _ rfl _ rfl _ (mV hV hS)) ?_) | (refine zZ (.int .i64 32) 72 (c := fun u hS => by with_reducible exact HW.out _) (r := ?_)) | (refine zZ (.int .i64 64) 72 (c := fun u hS => by with_reducible exact HW.out _) (r := ?_)) | (refine zZ (.int .u64 (Y : Nat)) 74 (c := fun u hS => by with_reducible exact HS.out _) (r := ?_)) | (refine z8 ?_))
   refine mH (fun u hS => ?_)
   replace hZ := hZ.trans (hS.mono hZ.size)
   go_wp2_with fail
   go_ret2
   exact ⟨rfl, hZ⟩
set_option maxRecDepth 100000 in
theorem rext_gvno (k I wd : Int) (n : Int) (h : (k = 64795 ∧ I = 2 ∧ wd = 32 ∧ n = 4) ∨ (k = 64797 ∧ I = 3 ∧ wd = 64 ∧ n = 2)) (v : Vec) (i : Int) (w : World) (hi : i < 0 ∨ n ≤ i) : Calls Try.prog 42 #[.int .i64 k, .int .i64 i, .agg (mY v)] w fun e w' => e = .returned (.tuple #[.int .u64 0, .int .i64 1]) ∧ Below w.heap.size w w' := by
 have HF := fun W => s9 k 21 24 27 29 W (by decide) (by decide) (by decide) (by decide)
 rw [show rW k 21 24 27 29 = I by rcases h with ⟨rfl, rfl, rfl, rfl⟩ | ⟨rfl, rfl, rfl, rfl⟩ <;> decide] at HF
 replace HF := Lib.hid HF
 have HW : ∀ W, Calls Try.prog 72 #[.int .i64 I] W fun e w' => e = .returned (.int .i64 wd) ∧ Below W.heap.size W w' := fun W => kM
 replace HW := Lib.hid HW
 obtain ⟨B, q1⟩ : ∃ B, decide (i < 0) = B := ⟨_, rfl⟩
 have q2 : B = false → decide (n ≤ i) = true := fun e => by rw [e] at q1; have := of_decide_eq_false q1; exact decide_eq_true (by omega)
 clear hi
 rcases h with ⟨rfl, rfl, rfl, rfl⟩ | ⟨rfl, rfl, rfl, rfl⟩
 all_goals
  cases B
 all_goals
  as_aux_lemma =>
   (try replace q2 := q2 rfl)
   go_enter Try.func42, Try.ntmps42
   go_wp2_with (first | (go_at_call 71; (with_reducible refine (HF.out _).mono ?_); rintro e u1 ⟨rfl, hb1⟩; have hV := mV (heap_alloc_new w (.cells (mY v) 45)) hb1; have hZ := mB (Below.refl w.heap.size w) (Nat.le_refl _) _ hb1; clear hb1) | (go_at_call 72; (with_reducible refine (HW.out _).mono ?_); rintro e u9 ⟨rfl, hb9⟩; replace hV := mV hV hb9; replace hZ := hZ.trans (hb9.mono hZ.size); clear hb9))
   go_ret2
   exact ⟨rfl, hZ⟩
set_option maxRecDepth 100000 in
theorem rext_no (op : Int) (v : Vec) (i : Int) (w : World) (h : rW op 21 24 27 29 = -1) (h2 : rW op 22 25 27 29 = -1) : Calls Try.prog 42 #[.int .i64 op, .int .i64 i, .agg (mY v)] w fun e w' => e = .returned (.tuple #[.int .u64 0, .int .i64 1]) ∧ Below w.heap.size w w' := by
 have HF := Lib.hid (fun W => s9 op 21 24 27 29 W (by decide) (by decide) (by decide) (by decide))
 rw [h] at HF
 have HG := Lib.hid (fun W => s9 op 22 25 27 29 W (by decide) (by decide) (by decide) (by decide))
 rw [h2] at HG
 clear h h2
 go_enter Try.func42, Try.ntmps42
 go_wp2_with (first | (go_at_call 71; (with_reducible refine (HG.out _).mono ?_); rintro e u2 ⟨rfl, hb2⟩; replace hV := mV hV hb2; replace hZ := hZ.trans (hb2.mono hZ.size); clear hb2) | (go_at_call 71; (with_reducible refine (HF.out _).mono ?_); rintro e u1 ⟨rfl, hb1⟩; have hV := mV (heap_alloc_new w (.cells (mY v) 45)) hb1; have hZ := mB (Below.refl w.heap.size w) (Nat.le_refl _) _ hb1; clear hb1))
 go_ret2
 exact ⟨rfl, hZ⟩
theorem rext_k (κ i : Int) (v : Vec) (w : World) : Calls Try.prog 42 #[.int .i64 (64768 + κ), .int .i64 i, .agg (mY v)] w fun e w' => e = .returned (.tuple #[.int .u64 ((sS κ i v).1 : Nat), .int .i64 (sS κ i v).2]) ∧ Below w.heap.size w w' := by
 by_cases h21 : κ = 21
 ·subst h21
  by_cases hi : i < 0 ∨ (16 : Int) ≤ i
  ·have e : sS 21 i v = (0, 1) := if_pos (.inr (.inr hi))
   rw [e]
   exact rext_gsno 64789 0 8 16 (.inl ⟨rfl, rfl, rfl, rfl⟩) v i w hi
  ·obtain ⟨j, rfl⟩ := Int.eq_ofNat_of_zero_le (show 0 ≤ i by omega)
   have e : sS 21 (j : Int) v = (((sgn 8 (mT v 8 j)) % 4294967296).toNat, 0) := (if_neg (fun h => by rcases h with h | h | h | h <;> first | exact absurd h (by decide) | exact hi (.inl h) | exact hi (.inr h))).trans (if_pos (by decide))
   rw [e]
   exact rext_gs 64789 0 8 16 (.inl ⟨rfl, rfl, rfl, rfl⟩) v j w (by omega) _ (by have := mL v 8 j; unfold sgn; split <;> omega) (fun W => rsigned8 v j W (by omega))
 by_cases h24 : κ = 24
 ·subst h24
  by_cases hi : i < 0 ∨ (8 : Int) ≤ i
  ·have e : sS 24 i v = (0, 1) := if_pos (.inr (.inr hi))
   rw [e]
   exact rext_gsno 64792 1 16 8 (.inr (⟨rfl, rfl, rfl, rfl⟩)) v i w hi
  ·obtain ⟨j, rfl⟩ := Int.eq_ofNat_of_zero_le (show 0 ≤ i by omega)
   have e : sS 24 (j : Int) v = (((sgn 16 (mT v 16 j)) % 4294967296).toNat, 0) := (if_neg (fun h => by rcases h with h | h | h | h <;> first | exact absurd h (by decide) | exact hi (.inl h) | exact hi (.inr h))).trans (if_pos (by decide))
   rw [e]
   exact rext_gs 64792 1 16 8 (.inr (⟨rfl, rfl, rfl, rfl⟩)) v j w (by omega) _ (by have := mL v 16 j; unfold sgn; split <;> omega) (fun W => rsigned16 v j W (by omega))
 by_cases h22 : κ = 22
 ·subst h22
  by_cases hi : i < 0 ∨ (16 : Int) ≤ i
  ·have e : sS 22 i v = (0, 1) := if_pos (.inr (.inr hi))
   rw [e]
   exact rext_guno 64790 0 8 16 (.inl ⟨rfl, rfl, rfl, rfl⟩) v i w hi
  ·obtain ⟨j, rfl⟩ := Int.eq_ofNat_of_zero_le (show 0 ≤ i by omega)
   have e : sS 22 (j : Int) v = (mT v 8 j, 0) := (if_neg (fun h => by rcases h with h | h | h | h <;> first | exact absurd h (by decide) | exact hi (.inl h) | exact hi (.inr h))).trans (if_neg (by decide))
   rw [e]
   exact rext_gu 64790 0 8 16 (.inl ⟨rfl, rfl, rfl, rfl⟩) v j w (by omega) _ (fun W => rget8 v j W (by omega))
 by_cases h25 : κ = 25
 ·subst h25
  by_cases hi : i < 0 ∨ (8 : Int) ≤ i
  ·have e : sS 25 i v = (0, 1) := if_pos (.inr (.inr hi))
   rw [e]
   exact rext_guno 64793 1 16 8 (.inr (⟨rfl, rfl, rfl, rfl⟩)) v i w hi
  ·obtain ⟨j, rfl⟩ := Int.eq_ofNat_of_zero_le (show 0 ≤ i by omega)
   have e : sS 25 (j : Int) v = (mT v 16 j, 0) := (if_neg (fun h => by rcases h with h | h | h | h <;> first | exact absurd h (by decide) | exact hi (.inl h) | exact hi (.inr h))).trans (if_neg (by decide))
   rw [e]
   exact rext_gu 64793 1 16 8 (.inr (⟨rfl, rfl, rfl, rfl⟩)) v j w (by omega) _ (fun W => rget16 v j W (by omega))
 by_cases h27 : κ = 27
 ·subst h27
  by_cases hi : i < 0 ∨ (4 : Int) ≤ i
  ·have e : sS 27 i v = (0, 1) := if_pos (.inr (.inr hi))
   rw [e]
   exact rext_gvno 64795 2 32 4 (.inl ⟨rfl, rfl, rfl, rfl⟩) v i w hi
  ·obtain ⟨j, rfl⟩ := Int.eq_ofNat_of_zero_le (show 0 ≤ i by omega)
   have e : sS 27 (j : Int) v = (mT v 32 j, 0) := (if_neg (fun h => by rcases h with h | h | h | h <;> first | exact absurd h (by decide) | exact hi (.inl h) | exact hi (.inr h))).trans (if_neg (by decide))
   rw [e]
   exact rext_gv 64795 2 32 4 (.inl ⟨rfl, rfl, rfl, rfl⟩) v j w (by omega) _ (fun W => rget32 v j W (by omega))
 by_cases h29 : κ = 29
 ·subst h29
  by_cases hi : i < 0 ∨ (2 : Int) ≤ i
  ·have e : sS 29 i v = (0, 1) := if_pos (.inr (.inr hi))
   rw [e]
   exact rext_gvno 64797 3 64 2 (.inr (⟨rfl, rfl, rfl, rfl⟩)) v i w hi
  ·obtain ⟨j, rfl⟩ := Int.eq_ofNat_of_zero_le (show 0 ≤ i by omega)
   have e : sS 29 (j : Int) v = (mT v 64 j, 0) := (if_neg (fun h => by rcases h with h | h | h | h <;> first | exact absurd h (by decide) | exact hi (.inl h) | exact hi (.inr h))).trans (if_neg (by decide))
   rw [e]
   exact rext_gv 64797 3 64 2 (.inr (⟨rfl, rfl, rfl, rfl⟩)) v j w (by omega) _ (fun W => rget64 v j W (by omega))
 have e : sS κ i v = (0, 1) := by
  unfold sS
  refine if_pos ?_
  unfold vF
  rw [if_neg (by omega)]
  by_cases h1 : κ = 23
  ·right; left; rw [if_pos h1]
  ·rw [if_neg h1, if_neg (by omega)]
   by_cases h2 : κ = 26
   ·right; left; rw [if_pos h2]
   ·rw [if_neg h2, if_neg h27]
    by_cases h3 : κ = 28
    ·right; left; rw [if_pos h3]
    ·rw [if_neg h3, if_neg h29]
     by_cases h4 : κ = 30
     ·right; left; rw [if_pos h4]
     ·left; rw [if_neg h4]
 rw [e]
 exact rext_no _ v i w (by unfold rW; rw [if_neg (by omega), if_neg (by omega), if_neg (by omega), if_neg (by omega)]) (by unfold rW; rw [if_neg (by omega), if_neg (by omega), if_neg (by omega), if_neg (by omega)])
end Go.Proofs.Ytcpfabkokgiepaa
