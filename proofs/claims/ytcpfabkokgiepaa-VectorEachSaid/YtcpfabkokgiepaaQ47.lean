/-
  Texts VcR7.
-/
import Derived.Test.YtcpfabkokgiepaaQ46
import Derived.Deep.Cut
set_option linter.unusedSimpArgs false
set_option linter.unusedVariables false
set_option maxHeartbeats 8000000
open Pl
namespace Go.Proofs.Ytcpfabkokgiepaa
open Go.RowKit Pl
end Go.Proofs.Ytcpfabkokgiepaa
namespace Pl
open Go
theorem bit_build (w n : Nat) (f : Nat → Nat) (j : Nat) (hw : 0 < w) (hn : n ≤ 128 / w) (hj : j < w * n) : (mJ 0 w f n).toNat.testBit j = (f (j / w)).testBit (j % w) := by
 have h1 := mA (mJ 0 w f n) (w * (j / w)) w (j % w)
 have h2 : tW (mJ 0 w f n) (w * (j / w)) w = f (j / w) % 2 ^ w := by
  have := pX 0 w f n (j / w) hn
  rw [if_pos (Nat.div_lt_of_lt_mul hj)] at this
  exact this
 rw [h2, Nat.div_add_mod, Nat.testBit_mod_two_pow] at h1
 have h3 := Nat.mod_lt j hw
 simp only [h3, decide_true, Bool.true_and] at h1
 exact h1.symm
theorem eK (w n x : Nat) (hw : w = 8 ∧ n = 16 ∨ w = 16 ∧ n = 8 ∨ w = 32 ∧ n = 4 ∨ w = 64 ∧ n = 2) : mJ 0 8 (fun k => x / 2 ^ (8 * k % w)) 16 = mJ 0 w (fun _ => x) n := by
 refine fS fun j hj => ?_
 rw [bit_build 8 16 _ j (by decide) (by decide) (by omega), Nat.testBit_div_two_pow]
 rcases hw with ⟨rfl, rfl⟩ | ⟨rfl, rfl⟩ | ⟨rfl, rfl⟩ | ⟨rfl, rfl⟩
 all_goals
  rw [bit_build _ _ _ j (by decide) (by decide) (by omega)]
  congr 1
  omega
end Pl
namespace Go.Proofs.Ytcpfabkokgiepaa
open Go.RowKit Pl
set_option maxRecDepth 100000 in
theorem rsplat_8 (x : Nat) (w : World) (hx : x < 18446744073709551616) : Calls Try.prog 39 #[.int .i64 64783, .int .u64 (x : Nat)] w fun e w' => e = .returned (.tuple #[.agg (mY (mJ 0 8 (fun _ => x) 16)), .int .i64 0]) ∧ Below w.heap.size w w' := by
 rw [← eK 8 16 x (by decide)]
 have HF := Lib.hid (fun W => s9 64783 15 16 17 18 W (by decide) (by decide) (by decide) (by decide))
 rw [show rW 64783 15 16 17 18 = 0 by decide] at HF
 go_enter Try.func39, Try.ntmps39
 go_upto_region 5 with (first | (go_at_call 71; (with_reducible refine (HF.out _).mono ?_); rintro e u1 ⟨rfl, hb1⟩))
 have hR0 := mV (heap_alloc_new w (.cells #[.int .u8 0, .int .u8 0, .int .u8 0, .int .u8 0, .int .u8 0, .int .u8 0, .int .u8 0, .int .u8 0, .int .u8 0, .int .u8 0, .int .u8 0, .int .u8 0, .int .u8 0, .int .u8 0, .int .u8 0, .int .u8 0] 45)) hb1
 have hZ0 := mB (Below.refl w.heap.size w) (Nat.le_refl _) _ hb1
 rw [← mU] at hR0 ⊢
 obtain ⟨W, hW⟩ : ∃ W, W = u1.alloc (.cells (mY 0) 45) := ⟨_, rfl⟩
 have hO : W.heap[u1.heap.size]? = some (.cells (mY 0) 45 (0, 0)) := hW ▸ heap_alloc_new _ _
 have hR := hW ▸ mE hR0 (.cells (mY 0) 45)
 have hZ : Below w.heap.size w W := hW ▸ hZ0.alloc hZ0.size _
 have hlt := mF hR0
 rw [← hW]
 clear hW hb1 hR0 hZ0
 go_upto_region 6 with fail
 go_loopw [8] (fun jv wr => ∃ k : Nat, k ≤ 16 ∧ jv = .int .i64 k ∧ St W u1.heap.size (mJ 0 8 (fun k => x / 2 ^ (8 * k % 8)) k) wr) (fun jv _ => 16 - (intOf jv).toNat)
 case atStart => exact jT
 case round =>
  obtain ⟨k, hk, rfl, hs⟩ := hrel
  have hk17 : k = 0 ∨ k = 1 ∨ k = 2 ∨ k = 3 ∨ k = 4 ∨ k = 5 ∨ k = 6 ∨ k = 7 ∨ k = 8 ∨ k = 9 ∨ k = 10 ∨ k = 11 ∨ k = 12 ∨ k = 13 ∨ k = 14 ∨ k = 15 ∨ k = 16 := by omega
  rcases hk17 with rfl | rfl | rfl | rfl | rfl | rfl | rfl | rfl | rfl | rfl | rfl | rfl | rfl | rfl | rfl | rfl | rfl
  ·as_aux_lemma =>
   go_wp2_with (first | (go_at_call 72; (with_reducible refine (w7_0 _).mono ?_); rintro e u9 ⟨rfl, hb9⟩; replace hs := hs.below hb9; clear hb9) | (with_reducible refine mP rfl _ _ rfl u1.heap.size 0 _ (x / 1) rfl rfl _ hs.this (by decide) (by omega) ?_; intro wq hq))
   (refine ⟨?_, by simp [intOf]⟩; first | exact ⟨1, by decide, rfl, hs.sets hq⟩ | ((repeat apply Exists.intro); exact ⟨⟨1, by decide, rfl, hs.sets hq⟩, rfl⟩))
  ·as_aux_lemma =>
   go_wp2_with (first | (go_at_call 72; (with_reducible refine (w7_0 _).mono ?_); rintro e u9 ⟨rfl, hb9⟩; replace hs := hs.below hb9; clear hb9) | (with_reducible refine mP rfl _ _ rfl u1.heap.size 1 _ (x / 1) rfl rfl _ hs.this (by decide) (by omega) ?_; intro wq hq))
   (refine ⟨?_, by simp [intOf]⟩; first | exact ⟨2, by decide, rfl, hs.sets hq⟩ | ((repeat apply Exists.intro); exact ⟨⟨2, by decide, rfl, hs.sets hq⟩, rfl⟩))
  ·as_aux_lemma =>
   go_wp2_with (first | (go_at_call 72; (with_reducible refine (w7_0 _).mono ?_); rintro e u9 ⟨rfl, hb9⟩; replace hs := hs.below hb9; clear hb9) | (with_reducible refine mP rfl _ _ rfl u1.heap.size 2 _ (x / 1) rfl rfl _ hs.this (by decide) (by omega) ?_; intro wq hq))
   (refine ⟨?_, by simp [intOf]⟩; first | exact ⟨3, by decide, rfl, hs.sets hq⟩ | ((repeat apply Exists.intro); exact ⟨⟨3, by decide, rfl, hs.sets hq⟩, rfl⟩))
  ·as_aux_lemma =>
   go_wp2_with (first | (go_at_call 72; (with_reducible refine (w7_0 _).mono ?_); rintro e u9 ⟨rfl, hb9⟩; replace hs := hs.below hb9; clear hb9) | (with_reducible refine mP rfl _ _ rfl u1.heap.size 3 _ (x / 1) rfl rfl _ hs.this (by decide) (by omega) ?_; intro wq hq))
   (refine ⟨?_, by simp [intOf]⟩; first | exact ⟨4, by decide, rfl, hs.sets hq⟩ | ((repeat apply Exists.intro); exact ⟨⟨4, by decide, rfl, hs.sets hq⟩, rfl⟩))
  ·as_aux_lemma =>
   go_wp2_with (first | (go_at_call 72; (with_reducible refine (w7_0 _).mono ?_); rintro e u9 ⟨rfl, hb9⟩; replace hs := hs.below hb9; clear hb9) | (with_reducible refine mP rfl _ _ rfl u1.heap.size 4 _ (x / 1) rfl rfl _ hs.this (by decide) (by omega) ?_; intro wq hq))
   (refine ⟨?_, by simp [intOf]⟩; first | exact ⟨5, by decide, rfl, hs.sets hq⟩ | ((repeat apply Exists.intro); exact ⟨⟨5, by decide, rfl, hs.sets hq⟩, rfl⟩))
  ·as_aux_lemma =>
   go_wp2_with (first | (go_at_call 72; (with_reducible refine (w7_0 _).mono ?_); rintro e u9 ⟨rfl, hb9⟩; replace hs := hs.below hb9; clear hb9) | (with_reducible refine mP rfl _ _ rfl u1.heap.size 5 _ (x / 1) rfl rfl _ hs.this (by decide) (by omega) ?_; intro wq hq))
   (refine ⟨?_, by simp [intOf]⟩; first | exact ⟨6, by decide, rfl, hs.sets hq⟩ | ((repeat apply Exists.intro); exact ⟨⟨6, by decide, rfl, hs.sets hq⟩, rfl⟩))
  ·as_aux_lemma =>
   go_wp2_with (first | (go_at_call 72; (with_reducible refine (w7_0 _).mono ?_); rintro e u9 ⟨rfl, hb9⟩; replace hs := hs.below hb9; clear hb9) | (with_reducible refine mP rfl _ _ rfl u1.heap.size 6 _ (x / 1) rfl rfl _ hs.this (by decide) (by omega) ?_; intro wq hq))
   (refine ⟨?_, by simp [intOf]⟩; first | exact ⟨7, by decide, rfl, hs.sets hq⟩ | ((repeat apply Exists.intro); exact ⟨⟨7, by decide, rfl, hs.sets hq⟩, rfl⟩))
  ·as_aux_lemma =>
   go_wp2_with (first | (go_at_call 72; (with_reducible refine (w7_0 _).mono ?_); rintro e u9 ⟨rfl, hb9⟩; replace hs := hs.below hb9; clear hb9) | (with_reducible refine mP rfl _ _ rfl u1.heap.size 7 _ (x / 1) rfl rfl _ hs.this (by decide) (by omega) ?_; intro wq hq))
   (refine ⟨?_, by simp [intOf]⟩; first | exact ⟨8, by decide, rfl, hs.sets hq⟩ | ((repeat apply Exists.intro); exact ⟨⟨8, by decide, rfl, hs.sets hq⟩, rfl⟩))
  ·as_aux_lemma =>
   go_wp2_with (first | (go_at_call 72; (with_reducible refine (w7_0 _).mono ?_); rintro e u9 ⟨rfl, hb9⟩; replace hs := hs.below hb9; clear hb9) | (with_reducible refine mP rfl _ _ rfl u1.heap.size 8 _ (x / 1) rfl rfl _ hs.this (by decide) (by omega) ?_; intro wq hq))
   (refine ⟨?_, by simp [intOf]⟩; first | exact ⟨9, by decide, rfl, hs.sets hq⟩ | ((repeat apply Exists.intro); exact ⟨⟨9, by decide, rfl, hs.sets hq⟩, rfl⟩))
  ·as_aux_lemma =>
   go_wp2_with (first | (go_at_call 72; (with_reducible refine (w7_0 _).mono ?_); rintro e u9 ⟨rfl, hb9⟩; replace hs := hs.below hb9; clear hb9) | (with_reducible refine mP rfl _ _ rfl u1.heap.size 9 _ (x / 1) rfl rfl _ hs.this (by decide) (by omega) ?_; intro wq hq))
   (refine ⟨?_, by simp [intOf]⟩; first | exact ⟨10, by decide, rfl, hs.sets hq⟩ | ((repeat apply Exists.intro); exact ⟨⟨10, by decide, rfl, hs.sets hq⟩, rfl⟩))
  ·as_aux_lemma =>
   go_wp2_with (first | (go_at_call 72; (with_reducible refine (w7_0 _).mono ?_); rintro e u9 ⟨rfl, hb9⟩; replace hs := hs.below hb9; clear hb9) | (with_reducible refine mP rfl _ _ rfl u1.heap.size 10 _ (x / 1) rfl rfl _ hs.this (by decide) (by omega) ?_; intro wq hq))
   (refine ⟨?_, by simp [intOf]⟩; first | exact ⟨11, by decide, rfl, hs.sets hq⟩ | ((repeat apply Exists.intro); exact ⟨⟨11, by decide, rfl, hs.sets hq⟩, rfl⟩))
  ·as_aux_lemma =>
   go_wp2_with (first | (go_at_call 72; (with_reducible refine (w7_0 _).mono ?_); rintro e u9 ⟨rfl, hb9⟩; replace hs := hs.below hb9; clear hb9) | (with_reducible refine mP rfl _ _ rfl u1.heap.size 11 _ (x / 1) rfl rfl _ hs.this (by decide) (by omega) ?_; intro wq hq))
   (refine ⟨?_, by simp [intOf]⟩; first | exact ⟨12, by decide, rfl, hs.sets hq⟩ | ((repeat apply Exists.intro); exact ⟨⟨12, by decide, rfl, hs.sets hq⟩, rfl⟩))
  ·as_aux_lemma =>
   go_wp2_with (first | (go_at_call 72; (with_reducible refine (w7_0 _).mono ?_); rintro e u9 ⟨rfl, hb9⟩; replace hs := hs.below hb9; clear hb9) | (with_reducible refine mP rfl _ _ rfl u1.heap.size 12 _ (x / 1) rfl rfl _ hs.this (by decide) (by omega) ?_; intro wq hq))
   (refine ⟨?_, by simp [intOf]⟩; first | exact ⟨13, by decide, rfl, hs.sets hq⟩ | ((repeat apply Exists.intro); exact ⟨⟨13, by decide, rfl, hs.sets hq⟩, rfl⟩))
  ·as_aux_lemma =>
   go_wp2_with (first | (go_at_call 72; (with_reducible refine (w7_0 _).mono ?_); rintro e u9 ⟨rfl, hb9⟩; replace hs := hs.below hb9; clear hb9) | (with_reducible refine mP rfl _ _ rfl u1.heap.size 13 _ (x / 1) rfl rfl _ hs.this (by decide) (by omega) ?_; intro wq hq))
   (refine ⟨?_, by simp [intOf]⟩; first | exact ⟨14, by decide, rfl, hs.sets hq⟩ | ((repeat apply Exists.intro); exact ⟨⟨14, by decide, rfl, hs.sets hq⟩, rfl⟩))
  ·as_aux_lemma =>
   go_wp2_with (first | (go_at_call 72; (with_reducible refine (w7_0 _).mono ?_); rintro e u9 ⟨rfl, hb9⟩; replace hs := hs.below hb9; clear hb9) | (with_reducible refine mP rfl _ _ rfl u1.heap.size 14 _ (x / 1) rfl rfl _ hs.this (by decide) (by omega) ?_; intro wq hq))
   (refine ⟨?_, by simp [intOf]⟩; first | exact ⟨15, by decide, rfl, hs.sets hq⟩ | ((repeat apply Exists.intro); exact ⟨⟨15, by decide, rfl, hs.sets hq⟩, rfl⟩))
  ·as_aux_lemma =>
   go_wp2_with (first | (go_at_call 72; (with_reducible refine (w7_0 _).mono ?_); rintro e u9 ⟨rfl, hb9⟩; replace hs := hs.below hb9; clear hb9) | (with_reducible refine mP rfl _ _ rfl u1.heap.size 15 _ (x / 1) rfl rfl _ hs.this (by decide) (by omega) ?_; intro wq hq))
   (refine ⟨?_, by simp [intOf]⟩; first | exact ⟨16, by decide, rfl, hs.sets hq⟩ | ((repeat apply Exists.intro); exact ⟨⟨16, by decide, rfl, hs.sets hq⟩, rfl⟩))
  ·exact xC
set_option maxRecDepth 100000 in
theorem rsplat_16 (x : Nat) (w : World) (hx : x < 18446744073709551616) : Calls Try.prog 39 #[.int .i64 64784, .int .u64 (x : Nat)] w fun e w' => e = .returned (.tuple #[.agg (mY (mJ 0 16 (fun _ => x) 8)), .int .i64 0]) ∧ Below w.heap.size w w' := by
 rw [← eK 16 8 x (by decide)]
 have HF := Lib.hid (fun W => s9 64784 15 16 17 18 W (by decide) (by decide) (by decide) (by decide))
 rw [show rW 64784 15 16 17 18 = 1 by decide] at HF
 go_enter Try.func39, Try.ntmps39
 go_upto_region 5 with (first | (go_at_call 71; (with_reducible refine (HF.out _).mono ?_); rintro e u1 ⟨rfl, hb1⟩))
 have hR0 := mV (heap_alloc_new w (.cells #[.int .u8 0, .int .u8 0, .int .u8 0, .int .u8 0, .int .u8 0, .int .u8 0, .int .u8 0, .int .u8 0, .int .u8 0, .int .u8 0, .int .u8 0, .int .u8 0, .int .u8 0, .int .u8 0, .int .u8 0, .int .u8 0] 45)) hb1
 have hZ0 := mB (Below.refl w.heap.size w) (Nat.le_refl _) _ hb1
 rw [← mU] at hR0 ⊢
 obtain ⟨W, hW⟩ : ∃ W, W = u1.alloc (.cells (mY 0) 45) := ⟨_, rfl⟩
 have hO : W.heap[u1.heap.size]? = some (.cells (mY 0) 45 (0, 0)) := hW ▸ heap_alloc_new _ _
 have hR := hW ▸ mE hR0 (.cells (mY 0) 45)
 have hZ : Below w.heap.size w W := hW ▸ hZ0.alloc hZ0.size _
 have hlt := mF hR0
 rw [← hW]
 clear hW hb1 hR0 hZ0
 go_upto_region 6 with fail
 go_loopw [8] (fun jv wr => ∃ k : Nat, k ≤ 16 ∧ jv = .int .i64 k ∧ St W u1.heap.size (mJ 0 8 (fun k => x / 2 ^ (8 * k % 16)) k) wr) (fun jv _ => 16 - (intOf jv).toNat)
 case atStart => exact jT
 case round =>
  obtain ⟨k, hk, rfl, hs⟩ := hrel
  have hk17 : k = 0 ∨ k = 1 ∨ k = 2 ∨ k = 3 ∨ k = 4 ∨ k = 5 ∨ k = 6 ∨ k = 7 ∨ k = 8 ∨ k = 9 ∨ k = 10 ∨ k = 11 ∨ k = 12 ∨ k = 13 ∨ k = 14 ∨ k = 15 ∨ k = 16 := by omega
  rcases hk17 with rfl | rfl | rfl | rfl | rfl | rfl | rfl | rfl | rfl | rfl | rfl | rfl | rfl | rfl | rfl | rfl | rfl
  ·as_aux_lemma =>
   go_wp2_with (first | (go_at_call 72; (with_reducible refine (w7_1 _).mono ?_); rintro e u9 ⟨rfl, hb9⟩; replace hs := hs.below hb9; clear hb9) | (with_reducible refine mP rfl _ _ rfl u1.heap.size 0 _ (x / 1) rfl rfl _ hs.this (by decide) (by omega) ?_; intro wq hq))
   (refine ⟨?_, by simp [intOf]⟩; first | exact ⟨1, by decide, rfl, hs.sets hq⟩ | ((repeat apply Exists.intro); exact ⟨⟨1, by decide, rfl, hs.sets hq⟩, rfl⟩))
  ·as_aux_lemma =>
   go_wp2_with (first | (go_at_call 72; (with_reducible refine (w7_1 _).mono ?_); rintro e u9 ⟨rfl, hb9⟩; replace hs := hs.below hb9; clear hb9) | (with_reducible refine mP rfl _ _ rfl u1.heap.size 1 _ (x / 256) rfl rfl _ hs.this (by decide) (by omega) ?_; intro wq hq))
   (refine ⟨?_, by simp [intOf]⟩; first | exact ⟨2, by decide, rfl, hs.sets hq⟩ | ((repeat apply Exists.intro); exact ⟨⟨2, by decide, rfl, hs.sets hq⟩, rfl⟩))
  ·as_aux_lemma =>
   go_wp2_with (first | (go_at_call 72; (with_reducible refine (w7_1 _).mono ?_); rintro e u9 ⟨rfl, hb9⟩; replace hs := hs.below hb9; clear hb9) | (with_reducible refine mP rfl _ _ rfl u1.heap.size 2 _ (x / 1) rfl rfl _ hs.this (by decide) (by omega) ?_; intro wq hq))
   (refine ⟨?_, by simp [intOf]⟩; first | exact ⟨3, by decide, rfl, hs.sets hq⟩ | ((repeat apply Exists.intro); exact ⟨⟨3, by decide, rfl, hs.sets hq⟩, rfl⟩))
  ·as_aux_lemma =>
   go_wp2_with (first | (go_at_call 72; (with_reducible refine (w7_1 _).mono ?_); rintro e u9 ⟨rfl, hb9⟩; replace hs := hs.below hb9; clear hb9) | (with_reducible refine mP rfl _ _ rfl u1.heap.size 3 _ (x / 256) rfl rfl _ hs.this (by decide) (by omega) ?_; intro wq hq))
   (refine ⟨?_, by simp [intOf]⟩; first | exact ⟨4, by decide, rfl, hs.sets hq⟩ | ((repeat apply Exists.intro); exact ⟨⟨4, by decide, rfl, hs.sets hq⟩, rfl⟩))
  ·as_aux_lemma =>
   go_wp2_with (first | (go_at_call 72; (with_reducible refine (w7_1 _).mono ?_); rintro e u9 ⟨rfl, hb9⟩; replace hs := hs.below hb9; clear hb9) | (with_reducible refine mP rfl _ _ rfl u1.heap.size 4 _ (x / 1) rfl rfl _ hs.this (by decide) (by omega) ?_; intro wq hq))
   (refine ⟨?_, by simp [intOf]⟩; first | exact ⟨5, by decide, rfl, hs.sets hq⟩ | ((repeat apply Exists.intro); exact ⟨⟨5, by decide, rfl, hs.sets hq⟩, rfl⟩))
  ·as_aux_lemma =>
   go_wp2_with (first | (go_at_call 72; (with_reducible refine (w7_1 _).mono ?_); rintro e u9 ⟨rfl, hb9⟩; replace hs := hs.below hb9; clear hb9) | (with_reducible refine mP rfl _ _ rfl u1.heap.size 5 _ (x / 256) rfl rfl _ hs.this (by decide) (by omega) ?_; intro wq hq))
   (refine ⟨?_, by simp [intOf]⟩; first | exact ⟨6, by decide, rfl, hs.sets hq⟩ | ((repeat apply Exists.intro); exact ⟨⟨6, by decide, rfl, hs.sets hq⟩, rfl⟩))
  ·as_aux_lemma =>
   go_wp2_with (first | (go_at_call 72; (with_reducible refine (w7_1 _).mono ?_); rintro e u9 ⟨rfl, hb9⟩; replace hs := hs.below hb9; clear hb9) | (with_reducible refine mP rfl _ _ rfl u1.heap.size 6 _ (x / 1) rfl rfl _ hs.this (by decide) (by omega) ?_; intro wq hq))
   (refine ⟨?_, by simp [intOf]⟩; first | exact ⟨7, by decide, rfl, hs.sets hq⟩ | ((repeat apply Exists.intro); exact ⟨⟨7, by decide, rfl, hs.sets hq⟩, rfl⟩))
  ·as_aux_lemma =>
   go_wp2_with (first | (go_at_call 72; (with_reducible refine (w7_1 _).mono ?_); rintro e u9 ⟨rfl, hb9⟩; replace hs := hs.below hb9; clear hb9) | (with_reducible refine mP rfl _ _ rfl u1.heap.size 7 _ (x / 256) rfl rfl _ hs.this (by decide) (by omega) ?_; intro wq hq))
   (refine ⟨?_, by simp [intOf]⟩; first | exact ⟨8, by decide, rfl, hs.sets hq⟩ | ((repeat apply Exists.intro); exact ⟨⟨8, by decide, rfl, hs.sets hq⟩, rfl⟩))
  ·as_aux_lemma =>
   go_wp2_with (first | (go_at_call 72; (with_reducible refine (w7_1 _).mono ?_); rintro e u9 ⟨rfl, hb9⟩; replace hs := hs.below hb9; clear hb9) | (with_reducible refine mP rfl _ _ rfl u1.heap.size 8 _ (x / 1) rfl rfl _ hs.this (by decide) (by omega) ?_; intro wq hq))
   (refine ⟨?_, by simp [intOf]⟩; first | exact ⟨9, by decide, rfl, hs.sets hq⟩ | ((repeat apply Exists.intro); exact ⟨⟨9, by decide, rfl, hs.sets hq⟩, rfl⟩))
  ·as_aux_lemma =>
   go_wp2_with (first | (go_at_call 72; (with_reducible refine (w7_1 _).mono ?_); rintro e u9 ⟨rfl, hb9⟩; replace hs := hs.below hb9; clear hb9) | (with_reducible refine mP rfl _ _ rfl u1.heap.size 9 _ (x / 256) rfl rfl _ hs.this (by decide) (by omega) ?_; intro wq hq))
   (refine ⟨?_, by simp [intOf]⟩; first | exact ⟨10, by decide, rfl, hs.sets hq⟩ | ((repeat apply Exists.intro); exact ⟨⟨10, by decide, rfl, hs.sets hq⟩, rfl⟩))
  ·as_aux_lemma =>
   go_wp2_with (first | (go_at_call 72; (with_reducible refine (w7_1 _).mono ?_); rintro e u9 ⟨rfl, hb9⟩; replace hs := hs.below hb9; clear hb9) | (with_reducible refine mP rfl _ _ rfl u1.heap.size 10 _ (x / 1) rfl rfl _ hs.this (by decide) (by omega) ?_; intro wq hq))
   (refine ⟨?_, by simp [intOf]⟩; first | exact ⟨11, by decide, rfl, hs.sets hq⟩ | ((repeat apply Exists.intro); exact ⟨⟨11, by decide, rfl, hs.sets hq⟩, rfl⟩))
  ·as_aux_lemma =>
   go_wp2_with (first | (go_at_call 72; (with_reducible refine (w7_1 _).mono ?_); rintro e u9 ⟨rfl, hb9⟩; replace hs := hs.below hb9; clear hb9) | (with_reducible refine mP rfl _ _ rfl u1.heap.size 11 _ (x / 256) rfl rfl _ hs.this (by decide) (by omega) ?_; intro wq hq))
   (refine ⟨?_, by simp [intOf]⟩; first | exact ⟨12, by decide, rfl, hs.sets hq⟩ | ((repeat apply Exists.intro); exact ⟨⟨12, by decide, rfl, hs.sets hq⟩, rfl⟩))
  ·as_aux_lemma =>
   go_wp2_with (first | (go_at_call 72; (with_reducible refine (w7_1 _).mono ?_); rintro e u9 ⟨rfl, hb9⟩; replace hs := hs.below hb9; clear hb9) | (with_reducible refine mP rfl _ _ rfl u1.heap.size 12 _ (x / 1) rfl rfl _ hs.this (by decide) (by omega) ?_; intro wq hq))
   (refine ⟨?_, by simp [intOf]⟩; first | exact ⟨13, by decide, rfl, hs.sets hq⟩ | ((repeat apply Exists.intro); exact ⟨⟨13, by decide, rfl, hs.sets hq⟩, rfl⟩))
  ·as_aux_lemma =>
   go_wp2_with (first | (go_at_call 72; (with_reducible refine (w7_1 _).mono ?_); rintro e u9 ⟨rfl, hb9⟩; replace hs := hs.below hb9; clear hb9) | (with_reducible refine mP rfl _ _ rfl u1.heap.size 13 _ (x / 256) rfl rfl _ hs.this (by decide) (by omega) ?_; intro wq hq))
   (refine ⟨?_, by simp [intOf]⟩; first | exact ⟨14, by decide, rfl, hs.sets hq⟩ | ((repeat apply Exists.intro); exact ⟨⟨14, by decide, rfl, hs.sets hq⟩, rfl⟩))
  ·as_aux_lemma =>
   go_wp2_with (first | (go_at_call 72; (with_reducible refine (w7_1 _).mono ?_); rintro e u9 ⟨rfl, hb9⟩; replace hs := hs.below hb9; clear hb9) | (with_reducible refine mP rfl _ _ rfl u1.heap.size 14 _ (x / 1) rfl rfl _ hs.this (by decide) (by omega) ?_; intro wq hq))
   (refine ⟨?_, by simp [intOf]⟩; first | exact ⟨15, by decide, rfl, hs.sets hq⟩ | ((repeat apply Exists.intro); exact ⟨⟨15, by decide, rfl, hs.sets hq⟩, rfl⟩))
  ·as_aux_lemma =>
   go_wp2_with (first | (go_at_call 72; (with_reducible refine (w7_1 _).mono ?_); rintro e u9 ⟨rfl, hb9⟩; replace hs := hs.below hb9; clear hb9) | (with_reducible refine mP rfl _ _ rfl u1.heap.size 15 _ (x / 256) rfl rfl _ hs.this (by decide) (by omega) ?_; intro wq hq))
   (refine ⟨?_, by simp [intOf]⟩; first | exact ⟨16, by decide, rfl, hs.sets hq⟩ | ((repeat apply Exists.intro); exact ⟨⟨16, by decide, rfl, hs.sets hq⟩, rfl⟩))
  ·exact xC
set_option maxRecDepth 100000 in
theorem rsplat_32 (x : Nat) (w : World) (hx : x < 18446744073709551616) : Calls Try.prog 39 #[.int .i64 64785, .int .u64 (x : Nat)] w fun e w' => e = .returned (.tuple #[.agg (mY (mJ 0 32 (fun _ => x) 4)), .int .i64 0]) ∧ Below w.heap.size w w' := by
 rw [← eK 32 4 x (by decide)]
 have HF := Lib.hid (fun W => s9 64785 15 16 17 18 W (by decide) (by decide) (by decide) (by decide))
 rw [show rW 64785 15 16 17 18 = 2 by decide] at HF
 go_enter Try.func39, Try.ntmps39
 go_upto_region 5 with (first | (go_at_call 71; (with_reducible refine (HF.out _).mono ?_); rintro e u1 ⟨rfl, hb1⟩))
 have hR0 := mV (heap_alloc_new w (.cells #[.int .u8 0, .int .u8 0, .int .u8 0, .int .u8 0, .int .u8 0, .int .u8 0, .int .u8 0, .int .u8 0, .int .u8 0, .int .u8 0, .int .u8 0, .int .u8 0, .int .u8 0, .int .u8 0, .int .u8 0, .int .u8 0] 45)) hb1
 have hZ0 := mB (Below.refl w.heap.size w) (Nat.le_refl _) _ hb1
 rw [← mU] at hR0 ⊢
 obtain ⟨W, hW⟩ : ∃ W, W = u1.alloc (.cells (mY 0) 45) := ⟨_, rfl⟩
 have hO : W.heap[u1.heap.size]? = some (.cells (mY 0) 45 (0, 0)) := hW ▸ heap_alloc_new _ _
 have hR := hW ▸ mE hR0 (.cells (mY 0) 45)
 have hZ : Below w.heap.size w W := hW ▸ hZ0.alloc hZ0.size _
 have hlt := mF hR0
 rw [← hW]
 clear hW hb1 hR0 hZ0
 go_upto_region 6 with fail
 go_loopw [8] (fun jv wr => ∃ k : Nat, k ≤ 16 ∧ jv = .int .i64 k ∧ St W u1.heap.size (mJ 0 8 (fun k => x / 2 ^ (8 * k % 32)) k) wr) (fun jv _ => 16 - (intOf jv).toNat)
 case atStart => exact jT
 case round =>
  obtain ⟨k, hk, rfl, hs⟩ := hrel
  have hk17 : k = 0 ∨ k = 1 ∨ k = 2 ∨ k = 3 ∨ k = 4 ∨ k = 5 ∨ k = 6 ∨ k = 7 ∨ k = 8 ∨ k = 9 ∨ k = 10 ∨ k = 11 ∨ k = 12 ∨ k = 13 ∨ k = 14 ∨ k = 15 ∨ k = 16 := by omega
  rcases hk17 with rfl | rfl | rfl | rfl | rfl | rfl | rfl | rfl | rfl | rfl | rfl | rfl | rfl | rfl | rfl | rfl | rfl
  ·as_aux_lemma =>
   go_wp2_with (first | (go_at_call 72; (with_reducible refine (w7_2 _).mono ?_); rintro e u9 ⟨rfl, hb9⟩; replace hs := hs.below hb9; clear hb9) | (with_reducible refine mP rfl _ _ rfl u1.heap.size 0 _ (x / 1) rfl rfl _ hs.this (by decide) (by omega) ?_; intro wq hq))
   (refine ⟨?_, by simp [intOf]⟩; first | exact ⟨1, by decide, rfl, hs.sets hq⟩ | ((repeat apply Exists.intro); exact ⟨⟨1, by decide, rfl, hs.sets hq⟩, rfl⟩))
  ·as_aux_lemma =>
   go_wp2_with (first | (go_at_call 72; (with_reducible refine (w7_2 _).mono ?_); rintro e u9 ⟨rfl, hb9⟩; replace hs := hs.below hb9; clear hb9) | (with_reducible refine mP rfl _ _ rfl u1.heap.size 1 _ (x / 256) rfl rfl _ hs.this (by decide) (by omega) ?_; intro wq hq))
   (refine ⟨?_, by simp [intOf]⟩; first | exact ⟨2, by decide, rfl, hs.sets hq⟩ | ((repeat apply Exists.intro); exact ⟨⟨2, by decide, rfl, hs.sets hq⟩, rfl⟩))
  ·as_aux_lemma =>
   go_wp2_with (first | (go_at_call 72; (with_reducible refine (w7_2 _).mono ?_); rintro e u9 ⟨rfl, hb9⟩; replace hs := hs.below hb9; clear hb9) | (with_reducible refine mP rfl _ _ rfl u1.heap.size 2 _ (x / 65536) rfl rfl _ hs.this (by decide) (by omega) ?_; intro wq hq))
   (refine ⟨?_, by simp [intOf]⟩; first | exact ⟨3, by decide, rfl, hs.sets hq⟩ | ((repeat apply Exists.intro); exact ⟨⟨3, by decide, rfl, hs.sets hq⟩, rfl⟩))
  ·as_aux_lemma =>
   go_wp2_with (first | (go_at_call 72; (with_reducible refine (w7_2 _).mono ?_); rintro e u9 ⟨rfl, hb9⟩; replace hs := hs.below hb9; clear hb9) | (with_reducible refine mP rfl _ _ rfl u1.heap.size 3 _ (x / 16777216) rfl rfl _ hs.this (by decide) (by omega) ?_; intro wq hq))
   (refine ⟨?_, by simp [intOf]⟩; first | exact ⟨4, by decide, rfl, hs.sets hq⟩ | ((repeat apply Exists.intro); exact ⟨⟨4, by decide, rfl, hs.sets hq⟩, rfl⟩))
  ·as_aux_lemma =>
   go_wp2_with (first | (go_at_call 72; (with_reducible refine (w7_2 _).mono ?_); rintro e u9 ⟨rfl, hb9⟩; replace hs := hs.below hb9; clear hb9) | (with_reducible refine mP rfl _ _ rfl u1.heap.size 4 _ (x / 1) rfl rfl _ hs.this (by decide) (by omega) ?_; intro wq hq))
   (refine ⟨?_, by simp [intOf]⟩; first | exact ⟨5, by decide, rfl, hs.sets hq⟩ | ((repeat apply Exists.intro); exact ⟨⟨5, by decide, rfl, hs.sets hq⟩, rfl⟩))
  ·as_aux_lemma =>
   go_wp2_with (first | (go_at_call 72; (with_reducible refine (w7_2 _).mono ?_); rintro e u9 ⟨rfl, hb9⟩; replace hs := hs.below hb9; clear hb9) | (with_reducible refine mP rfl _ _ rfl u1.heap.size 5 _ (x / 256) rfl rfl _ hs.this (by decide) (by omega) ?_; intro wq hq))
   (refine ⟨?_, by simp [intOf]⟩; first | exact ⟨6, by decide, rfl, hs.sets hq⟩ | ((repeat apply Exists.intro); exact ⟨⟨6, by decide, rfl, hs.sets hq⟩, rfl⟩))
  ·as_aux_lemma =>
   go_wp2_with (first | (go_at_call 72; (with_reducible refine (w7_2 _).mono ?_); rintro e u9 ⟨rfl, hb9⟩; replace hs := hs.below hb9; clear hb9) | (with_reducible refine mP rfl _ _ rfl u1.heap.size 6 _ (x / 65536) rfl rfl _ hs.this (by decide) (by omega) ?_; intro wq hq))
   (refine ⟨?_, by simp [intOf]⟩; first | exact ⟨7, by decide, rfl, hs.sets hq⟩ | ((repeat apply Exists.intro); exact ⟨⟨7, by decide, rfl, hs.sets hq⟩, rfl⟩))
  ·as_aux_lemma =>
   go_wp2_with (first | (go_at_call 72; (with_reducible refine (w7_2 _).mono ?_); rintro e u9 ⟨rfl, hb9⟩; replace hs := hs.below hb9; clear hb9) | (with_reducible refine mP rfl _ _ rfl u1.heap.size 7 _ (x / 16777216) rfl rfl _ hs.this (by decide) (by omega) ?_; intro wq hq))
   (refine ⟨?_, by simp [intOf]⟩; first | exact ⟨8, by decide, rfl, hs.sets hq⟩ | ((repeat apply Exists.intro); exact ⟨⟨8, by decide, rfl, hs.sets hq⟩, rfl⟩))
  ·as_aux_lemma =>
   go_wp2_with (first | (go_at_call 72; (with_reducible refine (w7_2 _).mono ?_); rintro e u9 ⟨rfl, hb9⟩; replace hs := hs.below hb9; clear hb9) | (with_reducible refine mP rfl _ _ rfl u1.heap.size 8 _ (x / 1) rfl rfl _ hs.this (by decide) (by omega) ?_; intro wq hq))
   (refine ⟨?_, by simp [intOf]⟩; first | exact ⟨9, by decide, rfl, hs.sets hq⟩ | ((repeat apply Exists.intro); exact ⟨⟨9, by decide, rfl, hs.sets hq⟩, rfl⟩))
  ·as_aux_lemma =>
   go_wp2_with (first | (go_at_call 72; (with_reducible refine (w7_2 _).mono ?_); rintro e u9 ⟨rfl, hb9⟩; replace hs := hs.below hb9; clear hb9) | (with_reducible refine mP rfl _ _ rfl u1.heap.size 9 _ (x / 256) rfl rfl _ hs.this (by decide) (by omega) ?_; intro wq hq))
   (refine ⟨?_, by simp [intOf]⟩; first | exact ⟨10, by decide, rfl, hs.sets hq⟩ | ((repeat apply Exists.intro); exact ⟨⟨10, by decide, rfl, hs.sets hq⟩, rfl⟩))
  ·as_aux_lemma =>
   go_wp2_with (first | (go_at_call 72; (with_reducible refine (w7_2 _).mono ?_); rintro e u9 ⟨rfl, hb9⟩; replace hs := hs.below hb9; clear hb9) | (with_reducible refine mP rfl _ _ rfl u1.heap.size 10 _ (x / 65536) rfl rfl _ hs.this (by decide) (by omega) ?_; intro wq hq))
   (refine ⟨?_, by simp [intOf]⟩; first | exact ⟨11, by decide, rfl, hs.sets hq⟩ | ((repeat apply Exists.intro); exact ⟨⟨11, by decide, rfl, hs.sets hq⟩, rfl⟩))
  ·as_aux_lemma =>
   go_wp2_with (first | (go_at_call 72; (with_reducible refine (w7_2 _).mono ?_); rintro e u9 ⟨rfl, hb9⟩; replace hs := hs.below hb9; clear hb9) | (with_reducible refine mP rfl _ _ rfl u1.heap.size 11 _ (x / 16777216) rfl rfl _ hs.this (by decide) (by omega) ?_; intro wq hq))
   (refine ⟨?_, by simp [intOf]⟩; first | exact ⟨12, by decide, rfl, hs.sets hq⟩ | ((repeat apply Exists.intro); exact ⟨⟨12, by decide, rfl, hs.sets hq⟩, rfl⟩))
  ·as_aux_lemma =>
   go_wp2_with (first | (go_at_call 72; (with_reducible refine (w7_2 _).mono ?_); rintro e u9 ⟨rfl, hb9⟩; replace hs := hs.below hb9; clear hb9) | (with_reducible refine mP rfl _ _ rfl u1.heap.size 12 _ (x / 1) rfl rfl _ hs.this (by decide) (by omega) ?_; intro wq hq))
   (refine ⟨?_, by simp [intOf]⟩; first | exact ⟨13, by decide, rfl, hs.sets hq⟩ | ((repeat apply Exists.intro); exact ⟨⟨13, by decide, rfl, hs.sets hq⟩, rfl⟩))
  ·as_aux_lemma =>
   go_wp2_with (first | (go_at_call 72; (with_reducible refine (w7_2 _).mono ?_); rintro e u9 ⟨rfl, hb9⟩; replace hs := hs.below hb9; clear hb9) | (with_reducible refine mP rfl _ _ rfl u1.heap.size 13 _ (x / 256) rfl rfl _ hs.this (by decide) (by omega) ?_; intro wq hq))
   (refine ⟨?_, by simp [intOf]⟩; first | exact ⟨14, by decide, rfl, hs.sets hq⟩ | ((repeat apply Exists.intro); exact ⟨⟨14, by decide, rfl, hs.sets hq⟩, rfl⟩))
  ·as_aux_lemma =>
   go_wp2_with (first | (go_at_call 72; (with_reducible refine (w7_2 _).mono ?_); rintro e u9 ⟨rfl, hb9⟩; replace hs := hs.below hb9; clear hb9) | (with_reducible refine mP rfl _ _ rfl u1.heap.size 14 _ (x / 65536) rfl rfl _ hs.this (by decide) (by omega) ?_; intro wq hq))
   (refine ⟨?_, by simp [intOf]⟩; first | exact ⟨15, by decide, rfl, hs.sets hq⟩ | ((repeat apply Exists.intro); exact ⟨⟨15, by decide, rfl, hs.sets hq⟩, rfl⟩))
  ·as_aux_lemma =>
   go_wp2_with (first | (go_at_call 72; (with_reducible refine (w7_2 _).mono ?_); rintro e u9 ⟨rfl, hb9⟩; replace hs := hs.below hb9; clear hb9) | (with_reducible refine mP rfl _ _ rfl u1.heap.size 15 _ (x / 16777216) rfl rfl _ hs.this (by decide) (by omega) ?_; intro wq hq))
   (refine ⟨?_, by simp [intOf]⟩; first | exact ⟨16, by decide, rfl, hs.sets hq⟩ | ((repeat apply Exists.intro); exact ⟨⟨16, by decide, rfl, hs.sets hq⟩, rfl⟩))
  ·exact xC
set_option maxRecDepth 100000 in
theorem rsplat_64 (x : Nat) (w : World) (hx : x < 18446744073709551616) : Calls Try.prog 39 #[.int .i64 64786, .int .u64 (x : Nat)] w fun e w' => e = .returned (.tuple #[.agg (mY (mJ 0 64 (fun _ => x) 2)), .int .i64 0]) ∧ Below w.heap.size w w' := by
 rw [← eK 64 2 x (by decide)]
 have HF := Lib.hid (fun W => s9 64786 15 16 17 18 W (by decide) (by decide) (by decide) (by decide))
 rw [show rW 64786 15 16 17 18 = 3 by decide] at HF
 go_enter Try.func39, Try.ntmps39
 go_upto_region 5 with (first | (go_at_call 71; (with_reducible refine (HF.out _).mono ?_); rintro e u1 ⟨rfl, hb1⟩))
 have hR0 := mV (heap_alloc_new w (.cells #[.int .u8 0, .int .u8 0, .int .u8 0, .int .u8 0, .int .u8 0, .int .u8 0, .int .u8 0, .int .u8 0, .int .u8 0, .int .u8 0, .int .u8 0, .int .u8 0, .int .u8 0, .int .u8 0, .int .u8 0, .int .u8 0] 45)) hb1
 have hZ0 := mB (Below.refl w.heap.size w) (Nat.le_refl _) _ hb1
 rw [← mU] at hR0 ⊢
 obtain ⟨W, hW⟩ : ∃ W, W = u1.alloc (.cells (mY 0) 45) := ⟨_, rfl⟩
 have hO : W.heap[u1.heap.size]? = some (.cells (mY 0) 45 (0, 0)) := hW ▸ heap_alloc_new _ _
 have hR := hW ▸ mE hR0 (.cells (mY 0) 45)
 have hZ : Below w.heap.size w W := hW ▸ hZ0.alloc hZ0.size _
 have hlt := mF hR0
 rw [← hW]
 clear hW hb1 hR0 hZ0
 go_upto_region 6 with fail
 go_loopw [8] (fun jv wr => ∃ k : Nat, k ≤ 16 ∧ jv = .int .i64 k ∧ St W u1.heap.size (mJ 0 8 (fun k => x / 2 ^ (8 * k % 64)) k) wr) (fun jv _ => 16 - (intOf jv).toNat)
 case atStart => exact jT
 case round =>
  obtain ⟨k, hk, rfl, hs⟩ := hrel
  have hk17 : k = 0 ∨ k = 1 ∨ k = 2 ∨ k = 3 ∨ k = 4 ∨ k = 5 ∨ k = 6 ∨ k = 7 ∨ k = 8 ∨ k = 9 ∨ k = 10 ∨ k = 11 ∨ k = 12 ∨ k = 13 ∨ k = 14 ∨ k = 15 ∨ k = 16 := by omega
  rcases hk17 with rfl | rfl | rfl | rfl | rfl | rfl | rfl | rfl | rfl | rfl | rfl | rfl | rfl | rfl | rfl | rfl | rfl
  ·as_aux_lemma =>
   go_wp2_with (first | (go_at_call 72; (with_reducible refine (w7_3 _).mono ?_); rintro e u9 ⟨rfl, hb9⟩; replace hs := hs.below hb9; clear hb9) | (with_reducible refine mP rfl _ _ rfl u1.heap.size 0 _ (x / 1) rfl rfl _ hs.this (by decide) (by omega) ?_; intro wq hq))
   (refine ⟨?_, by simp [intOf]⟩; first | exact ⟨1, by decide, rfl, hs.sets hq⟩ | ((repeat apply Exists.intro); exact ⟨⟨1, by decide, rfl, hs.sets hq⟩, rfl⟩))
  ·as_aux_lemma =>
   go_wp2_with (first | (go_at_call 72; (with_reducible refine (w7_3 _).mono ?_); rintro e u9 ⟨rfl, hb9⟩; replace hs := hs.below hb9; clear hb9) | (with_reducible refine mP rfl _ _ rfl u1.heap.size 1 _ (x / 256) rfl rfl _ hs.this (by decide) (by omega) ?_; intro wq hq))
   (refine ⟨?_, by simp [intOf]⟩; first | exact ⟨2, by decide, rfl, hs.sets hq⟩ | ((repeat apply Exists.intro); exact ⟨⟨2, by decide, rfl, hs.sets hq⟩, rfl⟩))
  ·as_aux_lemma =>
   go_wp2_with (first | (go_at_call 72; (with_reducible refine (w7_3 _).mono ?_); rintro e u9 ⟨rfl, hb9⟩; replace hs := hs.below hb9; clear hb9) | (with_reducible refine mP rfl _ _ rfl u1.heap.size 2 _ (x / 65536) rfl rfl _ hs.this (by decide) (by omega) ?_; intro wq hq))
   (refine ⟨?_, by simp [intOf]⟩; first | exact ⟨3, by decide, rfl, hs.sets hq⟩ | ((repeat apply Exists.intro); exact ⟨⟨3, by decide, rfl, hs.sets hq⟩, rfl⟩))
  ·as_aux_lemma =>
   go_wp2_with (first | (go_at_call 72; (with_reducible refine (w7_3 _).mono ?_); rintro e u9 ⟨rfl, hb9⟩; replace hs := hs.below hb9; clear hb9) | (with_reducible refine mP rfl _ _ rfl u1.heap.size 3 _ (x / 16777216) rfl rfl _ hs.this (by decide) (by omega) ?_; intro wq hq))
   (refine ⟨?_, by simp [intOf]⟩; first | exact ⟨4, by decide, rfl, hs.sets hq⟩ | ((repeat apply Exists.intro); exact ⟨⟨4, by decide, rfl, hs.sets hq⟩, rfl⟩))
  ·as_aux_lemma =>
   go_wp2_with (first | (go_at_call 72; (with_reducible refine (w7_3 _).mono ?_); rintro e u9 ⟨rfl, hb9⟩; replace hs := hs.below hb9; clear hb9) | (with_reducible refine mP rfl _ _ rfl u1.heap.size 4 _ (x / 4294967296) rfl rfl _ hs.this (by decide) (by omega) ?_; intro wq hq))
   (refine ⟨?_, by simp [intOf]⟩; first | exact ⟨5, by decide, rfl, hs.sets hq⟩ | ((repeat apply Exists.intro); exact ⟨⟨5, by decide, rfl, hs.sets hq⟩, rfl⟩))
  ·as_aux_lemma =>
   go_wp2_with (first | (go_at_call 72; (with_reducible refine (w7_3 _).mono ?_); rintro e u9 ⟨rfl, hb9⟩; replace hs := hs.below hb9; clear hb9) | (with_reducible refine mP rfl _ _ rfl u1.heap.size 5 _ (x / 1099511627776) rfl rfl _ hs.this (by decide) (by omega) ?_; intro wq hq))
   (refine ⟨?_, by simp [intOf]⟩; first | exact ⟨6, by decide, rfl, hs.sets hq⟩ | ((repeat apply Exists.intro); exact ⟨⟨6, by decide, rfl, hs.sets hq⟩, rfl⟩))
  ·as_aux_lemma =>
   go_wp2_with (first | (go_at_call 72; (with_reducible refine (w7_3 _).mono ?_); rintro e u9 ⟨rfl, hb9⟩; replace hs := hs.below hb9; clear hb9) | (with_reducible refine mP rfl _ _ rfl u1.heap.size 6 _ (x / 281474976710656) rfl rfl _ hs.this (by decide) (by omega) ?_; intro wq hq))
   (refine ⟨?_, by simp [intOf]⟩; first | exact ⟨7, by decide, rfl, hs.sets hq⟩ | ((repeat apply Exists.intro); exact ⟨⟨7, by decide, rfl, hs.sets hq⟩, rfl⟩))
  ·as_aux_lemma =>
   go_wp2_with (first | (go_at_call 72; (with_reducible refine (w7_3 _).mono ?_); rintro e u9 ⟨rfl, hb9⟩; replace hs := hs.below hb9; clear hb9) | (with_reducible refine mP rfl _ _ rfl u1.heap.size 7 _ (x / 72057594037927936) rfl rfl _ hs.this (by decide) (by omega) ?_; intro wq hq))
   (refine ⟨?_, by simp [intOf]⟩; first | exact ⟨8, by decide, rfl, hs.sets hq⟩ | ((repeat apply Exists.intro); exact ⟨⟨8, by decide, rfl, hs.sets hq⟩, rfl⟩))
  ·as_aux_lemma =>
   go_wp2_with (first | (go_at_call 72; (with_reducible refine (w7_3 _).mono ?_); rintro e u9 ⟨rfl, hb9⟩; replace hs := hs.below hb9; clear hb9) | (with_reducible refine mP rfl _ _ rfl u1.heap.size 8 _ (x / 1) rfl rfl _ hs.this (by decide) (by omega) ?_; intro wq hq))
   (refine ⟨?_, by simp [intOf]⟩; first | exact ⟨9, by decide, rfl, hs.sets hq⟩ | ((repeat apply Exists.intro); exact ⟨⟨9, by decide, rfl, hs.sets hq⟩, rfl⟩))
  ·as_aux_lemma =>
   go_wp2_with (first | (go_at_call 72; (with_reducible refine (w7_3 _).mono ?_); rintro e u9 ⟨rfl, hb9⟩; replace hs := hs.below hb9; clear hb9) | (with_reducible refine mP rfl _ _ rfl u1.heap.size 9 _ (x / 256) rfl rfl _ hs.this (by decide) (by omega) ?_; intro wq hq))
   (refine ⟨?_, by simp [intOf]⟩; first | exact ⟨10, by decide, rfl, hs.sets hq⟩ | ((repeat apply Exists.intro); exact ⟨⟨10, by decide, rfl, hs.sets hq⟩, rfl⟩))
  ·as_aux_lemma =>
   go_wp2_with (first | (go_at_call 72; (with_reducible refine (w7_3 _).mono ?_); rintro e u9 ⟨rfl, hb9⟩; replace hs := hs.below hb9; clear hb9) | (with_reducible refine mP rfl _ _ rfl u1.heap.size 10 _ (x / 65536) rfl rfl _ hs.this (by decide) (by omega) ?_; intro wq hq))
   (refine ⟨?_, by simp [intOf]⟩; first | exact ⟨11, by decide, rfl, hs.sets hq⟩ | ((repeat apply Exists.intro); exact ⟨⟨11, by decide, rfl, hs.sets hq⟩, rfl⟩))
  ·as_aux_lemma =>
   go_wp2_with (first | (go_at_call 72; (with_reducible refine (w7_3 _).mono ?_); rintro e u9 ⟨rfl, hb9⟩; replace hs := hs.below hb9; clear hb9) | (with_reducible refine mP rfl _ _ rfl u1.heap.size 11 _ (x / 16777216) rfl rfl _ hs.this (by decide) (by omega) ?_; intro wq hq))
   (refine ⟨?_, by simp [intOf]⟩; first | exact ⟨12, by decide, rfl, hs.sets hq⟩ | ((repeat apply Exists.intro); exact ⟨⟨12, by decide, rfl, hs.sets hq⟩, rfl⟩))
  ·as_aux_lemma =>
   go_wp2_with (first | (go_at_call 72; (with_reducible refine (w7_3 _).mono ?_); rintro e u9 ⟨rfl, hb9⟩; replace hs := hs.below hb9; clear hb9) | (with_reducible refine mP rfl _ _ rfl u1.heap.size 12 _ (x / 4294967296) rfl rfl _ hs.this (by decide) (by omega) ?_; intro wq hq))
   (refine ⟨?_, by simp [intOf]⟩; first | exact ⟨13, by decide, rfl, hs.sets hq⟩ | ((repeat apply Exists.intro); exact ⟨⟨13, by decide, rfl, hs.sets hq⟩, rfl⟩))
  ·as_aux_lemma =>
   go_wp2_with (first | (go_at_call 72; (with_reducible refine (w7_3 _).mono ?_); rintro e u9 ⟨rfl, hb9⟩; replace hs := hs.below hb9; clear hb9) | (with_reducible refine mP rfl _ _ rfl u1.heap.size 13 _ (x / 1099511627776) rfl rfl _ hs.this (by decide) (by omega) ?_; intro wq hq))
   (refine ⟨?_, by simp [intOf]⟩; first | exact ⟨14, by decide, rfl, hs.sets hq⟩ | ((repeat apply Exists.intro); exact ⟨⟨14, by decide, rfl, hs.sets hq⟩, rfl⟩))
  ·as_aux_lemma =>
   go_wp2_with (first | (go_at_call 72; (with_reducible refine (w7_3 _).mono ?_); rintro e u9 ⟨rfl, hb9⟩; replace hs := hs.below hb9; clear hb9) | (with_reducible refine mP rfl _ _ rfl u1.heap.size 14 _ (x / 281474976710656) rfl rfl _ hs.this (by decide) (by omega) ?_; intro wq hq))
   (refine ⟨?_, by simp [intOf]⟩; first | exact ⟨15, by decide, rfl, hs.sets hq⟩ | ((repeat apply Exists.intro); exact ⟨⟨15, by decide, rfl, hs.sets hq⟩, rfl⟩))
  ·as_aux_lemma =>
   go_wp2_with (first | (go_at_call 72; (with_reducible refine (w7_3 _).mono ?_); rintro e u9 ⟨rfl, hb9⟩; replace hs := hs.below hb9; clear hb9) | (with_reducible refine mP rfl _ _ rfl u1.heap.size 15 _ (x / 72057594037927936) rfl rfl _ hs.this (by decide) (by omega) ?_; intro wq hq))
   (refine ⟨?_, by simp [intOf]⟩; first | exact ⟨16, by decide, rfl, hs.sets hq⟩ | ((repeat apply Exists.intro); exact ⟨⟨16, by decide, rfl, hs.sets hq⟩, rfl⟩))
  ·exact xC
set_option maxRecDepth 100000 in
theorem rsplat_no (op : Int) (x : Nat) (w : World) (h : rW op 15 16 17 18 = -1) : Calls Try.prog 39 #[.int .i64 op, .int .u64 (x : Nat)] w fun e w' => e = .returned (.tuple #[.agg (mY 0), .int .i64 1]) ∧ Below w.heap.size w w' := by
 have HF := Lib.hid (fun W => s9 op 15 16 17 18 W (by decide) (by decide) (by decide) (by decide))
 rw [h] at HF
 go_enter Try.func39, Try.ntmps39
 go_wp2_with (first | (go_at_call 71; (with_reducible refine (HF.out _).mono ?_); rintro e u1 ⟨rfl, hb1⟩; have hR := mV (heap_alloc_new w (.cells #[.int .u8 0, .int .u8 0, .int .u8 0, .int .u8 0, .int .u8 0, .int .u8 0, .int .u8 0, .int .u8 0, .int .u8 0, .int .u8 0, .int .u8 0, .int .u8 0, .int .u8 0, .int .u8 0, .int .u8 0, .int .u8 0] 45)) hb1; have hZ := mB (Below.refl w.heap.size w) (Nat.le_refl _) _ hb1; rw [← mU] at hR) | (refine mK rfl _ _ rfl w.heap.size 0 rfl (by rw [mU]; rfl) _ hR ?_; intro wq hq))
 exact bodyPost_ret (mS rfl _ _ w.heap.size _ _ rfl rfl hq.this) rfl ⟨rfl, hZ.trans (hq.below.mono (Nat.le_refl _))⟩
theorem rsplat_k (κ : Int) (x : Nat) (w : World) (hx : x < 18446744073709551616) : Calls Try.prog 39 #[.int .i64 (64768 + κ), .int .u64 (x : Nat)] w fun e w' => e = .returned (.tuple #[.agg (mY (vK κ x).1), .int .i64 (vK κ x).2]) ∧ Below w.heap.size w w' := by
 unfold vK
 by_cases h1 : κ = 15
 ·subst h1; rw [if_pos rfl]; exact rsplat_8 x w hx
 ·rw [if_neg h1]
  by_cases h2 : κ = 16
  ·subst h2; rw [if_pos rfl]; exact rsplat_16 x w hx
  ·rw [if_neg h2]
   by_cases h3 : κ = 17
   ·subst h3; rw [if_pos rfl]; exact rsplat_32 x w hx
   ·rw [if_neg h3]
    by_cases h4 : κ = 18
    ·subst h4; rw [if_pos rfl]; exact rsplat_64 x w hx
    ·rw [if_neg h4]
     exact rsplat_no _ x w (by unfold rW; rw [if_neg (by omega), if_neg (by omega), if_neg (by omega), if_neg (by omega)])
end Go.Proofs.Ytcpfabkokgiepaa
