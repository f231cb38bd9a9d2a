/-
  Texts AriC, AriRW, AriL.
-/
import Derived.Test.YtcpfabkokgiepaaQ05
import Derived.Test.YtcpfabkokgiepaaQ06
import Derived.Test.YtcpfabkokgiepaaQ07
import Derived.Test.YtcpfabkokgiepaaQ11
import Derived.Test.YtcpfabkokgiepaaQ15
import Derived.Test.YtcpfabkokgiepaaQ17
set_option linter.unusedSimpArgs false
set_option linter.unusedVariables false
set_option maxHeartbeats 8000000
open Pl
section
namespace Go.Proofs.Ytcpfabkokgiepaa
open Go.RowKit Pl
theorem bin_8_14 (a b : Vec) (w : World) : Calls Try.prog 21 #[.int .i64 64878, .agg (mY a), .agg (mY b)] w fun e w' => e = .returned (.tuple #[.agg (mY (vb 8 14 a b)), .int .i64 0]) ∧ Below w.heap.size w w' :=
 eY 64878 14 a b w (by decide) kind_64878 (fun x y s t w hx hy hs ht => lane_8_14 x y s t w hx hy hs ht)
theorem bin_8_15 (a b : Vec) (w : World) : Calls Try.prog 21 #[.int .i64 64879, .agg (mY a), .agg (mY b)] w fun e w' => e = .returned (.tuple #[.agg (mY (vb 8 15 a b)), .int .i64 0]) ∧ Below w.heap.size w w' :=
 eY 64879 15 a b w (by decide) kind_64879 (fun x y s t w hx hy hs ht => lane_8_15 x y s t w hx hy hs ht)
theorem bin_8_16 (a b : Vec) (w : World) : Calls Try.prog 21 #[.int .i64 64880, .agg (mY a), .agg (mY b)] w fun e w' => e = .returned (.tuple #[.agg (mY (vb 8 16 a b)), .int .i64 0]) ∧ Below w.heap.size w w' :=
 eY 64880 16 a b w (by decide) kind_64880 (fun x y s t w hx hy hs ht => lane_8_16 x y s t w hx hy hs ht)
theorem bin_8_17 (a b : Vec) (w : World) : Calls Try.prog 21 #[.int .i64 64881, .agg (mY a), .agg (mY b)] w fun e w' => e = .returned (.tuple #[.agg (mY (vb 8 17 a b)), .int .i64 0]) ∧ Below w.heap.size w w' :=
 eY 64881 17 a b w (by decide) kind_64881 (fun x y s t w hx hy hs ht => lane_8_17 x y s t w hx hy hs ht)
theorem bin_8_18 (a b : Vec) (w : World) : Calls Try.prog 21 #[.int .i64 64882, .agg (mY a), .agg (mY b)] w fun e w' => e = .returned (.tuple #[.agg (mY (vb 8 18 a b)), .int .i64 0]) ∧ Below w.heap.size w w' :=
 eY 64882 18 a b w (by decide) kind_64882 (fun x y s t w hx hy hs ht => lane_8_18 x y s t w hx hy hs ht)
theorem bin_8_19 (a b : Vec) (w : World) : Calls Try.prog 21 #[.int .i64 64883, .agg (mY a), .agg (mY b)] w fun e w' => e = .returned (.tuple #[.agg (mY (vb 8 19 a b)), .int .i64 0]) ∧ Below w.heap.size w w' :=
 eY 64883 19 a b w (by decide) kind_64883 (fun x y s t w hx hy hs ht => lane_8_19 x y s t w hx hy hs ht)
theorem bin_8_22 (a b : Vec) (w : World) : Calls Try.prog 21 #[.int .i64 64886, .agg (mY a), .agg (mY b)] w fun e w' => e = .returned (.tuple #[.agg (mY (vb 8 22 a b)), .int .i64 0]) ∧ Below w.heap.size w w' :=
 eY 64886 22 a b w (by decide) kind_64886 (fun x y s t w hx hy hs ht => lane_8_22 x y s t w hx hy hs ht)
theorem bin_8_23 (a b : Vec) (w : World) : Calls Try.prog 21 #[.int .i64 64887, .agg (mY a), .agg (mY b)] w fun e w' => e = .returned (.tuple #[.agg (mY (vb 8 23 a b)), .int .i64 0]) ∧ Below w.heap.size w w' :=
 eY 64887 23 a b w (by decide) kind_64887 (fun x y s t w hx hy hs ht => lane_8_23 x y s t w hx hy hs ht)
theorem bin_8_24 (a b : Vec) (w : World) : Calls Try.prog 21 #[.int .i64 64888, .agg (mY a), .agg (mY b)] w fun e w' => e = .returned (.tuple #[.agg (mY (vb 8 24 a b)), .int .i64 0]) ∧ Below w.heap.size w w' :=
 eY 64888 24 a b w (by decide) kind_64888 (fun x y s t w hx hy hs ht => lane_8_24 x y s t w hx hy hs ht)
theorem bin_8_25 (a b : Vec) (w : World) : Calls Try.prog 21 #[.int .i64 64889, .agg (mY a), .agg (mY b)] w fun e w' => e = .returned (.tuple #[.agg (mY (vb 8 25 a b)), .int .i64 0]) ∧ Below w.heap.size w w' :=
 eY 64889 25 a b w (by decide) kind_64889 (fun x y s t w hx hy hs ht => lane_8_25 x y s t w hx hy hs ht)
theorem bin_8_27 (a b : Vec) (w : World) : Calls Try.prog 21 #[.int .i64 64891, .agg (mY a), .agg (mY b)] w fun e w' => e = .returned (.tuple #[.agg (mY (vb 8 27 a b)), .int .i64 0]) ∧ Below w.heap.size w w' :=
 eY 64891 27 a b w (by decide) kind_64891 (fun x y s t w hx hy hs ht => lane_8_27 x y s t w hx hy hs ht)
theorem bin_16_14 (a b : Vec) (w : World) : Calls Try.prog 21 #[.int .i64 64910, .agg (mY a), .agg (mY b)] w fun e w' => e = .returned (.tuple #[.agg (mY (vb 16 14 a b)), .int .i64 0]) ∧ Below w.heap.size w w' :=
 sC 64910 14 a b w (by decide) kind_64910 (fun x y s t w hx hy hs ht => lane_16_14 x y s t w hx hy hs ht)
theorem bin_16_15 (a b : Vec) (w : World) : Calls Try.prog 21 #[.int .i64 64911, .agg (mY a), .agg (mY b)] w fun e w' => e = .returned (.tuple #[.agg (mY (vb 16 15 a b)), .int .i64 0]) ∧ Below w.heap.size w w' :=
 sC 64911 15 a b w (by decide) kind_64911 (fun x y s t w hx hy hs ht => lane_16_15 x y s t w hx hy hs ht)
theorem bin_16_16 (a b : Vec) (w : World) : Calls Try.prog 21 #[.int .i64 64912, .agg (mY a), .agg (mY b)] w fun e w' => e = .returned (.tuple #[.agg (mY (vb 16 16 a b)), .int .i64 0]) ∧ Below w.heap.size w w' :=
 sC 64912 16 a b w (by decide) kind_64912 (fun x y s t w hx hy hs ht => lane_16_16 x y s t w hx hy hs ht)
theorem bin_16_17 (a b : Vec) (w : World) : Calls Try.prog 21 #[.int .i64 64913, .agg (mY a), .agg (mY b)] w fun e w' => e = .returned (.tuple #[.agg (mY (vb 16 17 a b)), .int .i64 0]) ∧ Below w.heap.size w w' :=
 sC 64913 17 a b w (by decide) kind_64913 (fun x y s t w hx hy hs ht => lane_16_17 x y s t w hx hy hs ht)
theorem bin_16_18 (a b : Vec) (w : World) : Calls Try.prog 21 #[.int .i64 64914, .agg (mY a), .agg (mY b)] w fun e w' => e = .returned (.tuple #[.agg (mY (vb 16 18 a b)), .int .i64 0]) ∧ Below w.heap.size w w' :=
 sC 64914 18 a b w (by decide) kind_64914 (fun x y s t w hx hy hs ht => lane_16_18 x y s t w hx hy hs ht)
theorem bin_16_19 (a b : Vec) (w : World) : Calls Try.prog 21 #[.int .i64 64915, .agg (mY a), .agg (mY b)] w fun e w' => e = .returned (.tuple #[.agg (mY (vb 16 19 a b)), .int .i64 0]) ∧ Below w.heap.size w w' :=
 sC 64915 19 a b w (by decide) kind_64915 (fun x y s t w hx hy hs ht => lane_16_19 x y s t w hx hy hs ht)
theorem bin_16_21 (a b : Vec) (w : World) : Calls Try.prog 21 #[.int .i64 64917, .agg (mY a), .agg (mY b)] w fun e w' => e = .returned (.tuple #[.agg (mY (vb 16 21 a b)), .int .i64 0]) ∧ Below w.heap.size w w' :=
 sC 64917 21 a b w (by decide) kind_64917 (fun x y s t w hx hy hs ht => lane_16_21 x y s t w hx hy hs ht)
theorem bin_16_22 (a b : Vec) (w : World) : Calls Try.prog 21 #[.int .i64 64918, .agg (mY a), .agg (mY b)] w fun e w' => e = .returned (.tuple #[.agg (mY (vb 16 22 a b)), .int .i64 0]) ∧ Below w.heap.size w w' :=
 sC 64918 22 a b w (by decide) kind_64918 (fun x y s t w hx hy hs ht => lane_16_22 x y s t w hx hy hs ht)
theorem bin_16_23 (a b : Vec) (w : World) : Calls Try.prog 21 #[.int .i64 64919, .agg (mY a), .agg (mY b)] w fun e w' => e = .returned (.tuple #[.agg (mY (vb 16 23 a b)), .int .i64 0]) ∧ Below w.heap.size w w' :=
 sC 64919 23 a b w (by decide) kind_64919 (fun x y s t w hx hy hs ht => lane_16_23 x y s t w hx hy hs ht)
theorem bin_16_24 (a b : Vec) (w : World) : Calls Try.prog 21 #[.int .i64 64920, .agg (mY a), .agg (mY b)] w fun e w' => e = .returned (.tuple #[.agg (mY (vb 16 24 a b)), .int .i64 0]) ∧ Below w.heap.size w w' :=
 sC 64920 24 a b w (by decide) kind_64920 (fun x y s t w hx hy hs ht => lane_16_24 x y s t w hx hy hs ht)
theorem bin_16_25 (a b : Vec) (w : World) : Calls Try.prog 21 #[.int .i64 64921, .agg (mY a), .agg (mY b)] w fun e w' => e = .returned (.tuple #[.agg (mY (vb 16 25 a b)), .int .i64 0]) ∧ Below w.heap.size w w' :=
 sC 64921 25 a b w (by decide) kind_64921 (fun x y s t w hx hy hs ht => lane_16_25 x y s t w hx hy hs ht)
theorem bin_16_27 (a b : Vec) (w : World) : Calls Try.prog 21 #[.int .i64 64923, .agg (mY a), .agg (mY b)] w fun e w' => e = .returned (.tuple #[.agg (mY (vb 16 27 a b)), .int .i64 0]) ∧ Below w.heap.size w w' :=
 sC 64923 27 a b w (by decide) kind_64923 (fun x y s t w hx hy hs ht => lane_16_27 x y s t w hx hy hs ht)
theorem bin_32_14 (a b : Vec) (w : World) : Calls Try.prog 21 #[.int .i64 64942, .agg (mY a), .agg (mY b)] w fun e w' => e = .returned (.tuple #[.agg (mY (vb 32 14 a b)), .int .i64 0]) ∧ Below w.heap.size w w' :=
 dE 64942 14 a b w (by decide) kind_64942 (fun x y s t w hx hy hs ht => lane_32_14 x y s t w hx hy hs ht)
theorem bin_32_17 (a b : Vec) (w : World) : Calls Try.prog 21 #[.int .i64 64945, .agg (mY a), .agg (mY b)] w fun e w' => e = .returned (.tuple #[.agg (mY (vb 32 17 a b)), .int .i64 0]) ∧ Below w.heap.size w w' :=
 dE 64945 17 a b w (by decide) kind_64945 (fun x y s t w hx hy hs ht => lane_32_17 x y s t w hx hy hs ht)
theorem bin_32_21 (a b : Vec) (w : World) : Calls Try.prog 21 #[.int .i64 64949, .agg (mY a), .agg (mY b)] w fun e w' => e = .returned (.tuple #[.agg (mY (vb 32 21 a b)), .int .i64 0]) ∧ Below w.heap.size w w' :=
 dE 64949 21 a b w (by decide) kind_64949 (fun x y s t w hx hy hs ht => lane_32_21 x y s t w hx hy hs ht)
theorem bin_32_22 (a b : Vec) (w : World) : Calls Try.prog 21 #[.int .i64 64950, .agg (mY a), .agg (mY b)] w fun e w' => e = .returned (.tuple #[.agg (mY (vb 32 22 a b)), .int .i64 0]) ∧ Below w.heap.size w w' :=
 dE 64950 22 a b w (by decide) kind_64950 (fun x y s t w hx hy hs ht => lane_32_22 x y s t w hx hy hs ht)
theorem bin_32_23 (a b : Vec) (w : World) : Calls Try.prog 21 #[.int .i64 64951, .agg (mY a), .agg (mY b)] w fun e w' => e = .returned (.tuple #[.agg (mY (vb 32 23 a b)), .int .i64 0]) ∧ Below w.heap.size w w' :=
 dE 64951 23 a b w (by decide) kind_64951 (fun x y s t w hx hy hs ht => lane_32_23 x y s t w hx hy hs ht)
theorem bin_32_24 (a b : Vec) (w : World) : Calls Try.prog 21 #[.int .i64 64952, .agg (mY a), .agg (mY b)] w fun e w' => e = .returned (.tuple #[.agg (mY (vb 32 24 a b)), .int .i64 0]) ∧ Below w.heap.size w w' :=
 dE 64952 24 a b w (by decide) kind_64952 (fun x y s t w hx hy hs ht => lane_32_24 x y s t w hx hy hs ht)
theorem bin_32_25 (a b : Vec) (w : World) : Calls Try.prog 21 #[.int .i64 64953, .agg (mY a), .agg (mY b)] w fun e w' => e = .returned (.tuple #[.agg (mY (vb 32 25 a b)), .int .i64 0]) ∧ Below w.heap.size w w' :=
 dE 64953 25 a b w (by decide) kind_64953 (fun x y s t w hx hy hs ht => lane_32_25 x y s t w hx hy hs ht)
theorem bin_64_14 (a b : Vec) (w : World) : Calls Try.prog 21 #[.int .i64 64974, .agg (mY a), .agg (mY b)] w fun e w' => e = .returned (.tuple #[.agg (mY (vb 64 14 a b)), .int .i64 0]) ∧ Below w.heap.size w w' :=
 bin_w64 64974 14 a b w (by decide) kind_64974 (fun x y s t w hx hy hs ht => lane_64_14 x y s t w hx hy hs ht)
theorem bin_64_17 (a b : Vec) (w : World) : Calls Try.prog 21 #[.int .i64 64977, .agg (mY a), .agg (mY b)] w fun e w' => e = .returned (.tuple #[.agg (mY (vb 64 17 a b)), .int .i64 0]) ∧ Below w.heap.size w w' :=
 bin_w64 64977 17 a b w (by decide) kind_64977 (fun x y s t w hx hy hs ht => lane_64_17 x y s t w hx hy hs ht)
theorem bin_64_21 (a b : Vec) (w : World) : Calls Try.prog 21 #[.int .i64 64981, .agg (mY a), .agg (mY b)] w fun e w' => e = .returned (.tuple #[.agg (mY (vb 64 21 a b)), .int .i64 0]) ∧ Below w.heap.size w w' :=
 bin_w64 64981 21 a b w (by decide) kind_64981 (fun x y s t w hx hy hs ht => lane_64_21 x y s t w hx hy hs ht)
theorem heap_z2 (w : World) (A : Obj) (t : TypeId) : ((w.alloc A).alloc (.cells #[.int .u8 0, .int .u8 0, .int .u8 0, .int .u8 0, .int .u8 0, .int .u8 0, .int .u8 0, .int .u8 0, .int .u8 0, .int .u8 0, .int .u8 0, .int .u8 0, .int .u8 0, .int .u8 0, .int .u8 0, .int .u8 0] t)).heap[w.heap.size + 1]? = some (.cells (mY 0) t (0, 0)) := by
 rw [mU]; exact heap_alloc2_new _ _ _
theorem bin_no (op z k : Int) (a b : Vec) (w : World) (ho : ∀ w, Calls Try.prog 49 #[.int .i64 op] w fun e w' => e = .returned (.tuple #[.int .i64 z, .int .i64 k]) ∧ w' = w) (h : z = 0 ∨ k < 14) :
 Calls Try.prog 21 #[.int .i64 op, .agg (mY a), .agg (mY b)] w fun e w' => e = .returned (.tuple #[.agg (mY 0), .int .i64 1]) ∧ Below w.heap.size w w' := by
 have H := Lib.hid ho
 clear ho
 by_cases hz : z = 0
 ·subst hz
  clear h
  exact gS
 ·have hk : k < 14 := by rcases h with h | h; exact absurd h hz; exact h
  have t1 : (z == 0) = false := beq_eq_false_iff_ne.2 hz
  clear h hz
  exact gS
theorem un_no (op z k : Int) (a : Vec) (w : World) (ho : ∀ w, Calls Try.prog 49 #[.int .i64 op] w fun e w' => e = .returned (.tuple #[.int .i64 z, .int .i64 k]) ∧ w' = w) (h : z = 0 ∨ 2 < k) :
 Calls Try.prog 17 #[.int .i64 op, .agg (mY a)] w fun e w' => e = .returned (.tuple #[.agg (mY 0), .int .i64 1]) ∧ Below w.heap.size w w' := by
 have H := Lib.hid ho
 clear ho
 by_cases hz : z = 0
 ·subst hz
  clear h
  go_enter Try.func17, Try.ntmps17
  exact qW
 ·have hk : 2 < k := by rcases h with h | h; exact absurd h hz; exact h
  have t1 : (z == 0) = false := beq_eq_false_iff_ne.2 hz
  clear h hz
  go_enter Try.func17, Try.ntmps17
  exact qW
theorem sh_no (op z k : Int) (a : Vec) (n : Int) (w : World) (ho : ∀ w, Calls Try.prog 49 #[.int .i64 op] w fun e w' => e = .returned (.tuple #[.int .i64 z, .int .i64 k]) ∧ w' = w) (h : z = 0 ∨ k < 11 ∨ 13 < k) :
 Calls Try.prog 24 #[.int .i64 op, .agg (mY a), .int .u32 n] w fun e w' => e = .returned (.tuple #[.agg (mY 0), .int .i64 1]) ∧ Below w.heap.size w w' := by
 have H := Lib.hid ho
 clear ho
 by_cases hz : z = 0
 ·subst hz
  clear h
  go_enter Try.func24, Try.ntmps24
  exact qW
 ·have t1 : (z == 0) = false := beq_eq_false_iff_ne.2 hz
  rcases (show k < 11 ∨ 13 < k by rcases h with h | h; exact absurd h hz; exact h) with hk | hk
  all_goals
   clear h hz
   go_enter Try.func24, Try.ntmps24
   go_wp2_with (first | (go_at_call 49; refine (H.out _).mono ?_; rintro e w' ⟨rfl, rfl⟩))
   exact bodyPost_ret (mS rfl _ _ (w.heap.size + 1) _ _ rfl rfl (heap_z2 w _ _)) rfl ⟨rfl, ((Below.refl _ _).alloc (Nat.le_refl _) _).alloc (by simp) _⟩
end Go.Proofs.Ytcpfabkokgiepaa
end
section
namespace Go.Proofs.Ytcpfabkokgiepaa
open Go.RowKit Pl
end Go.Proofs.Ytcpfabkokgiepaa
namespace Pl
def row0 : List Int := [0, 1, 11, 12, 13, 14, 17, 22, 23, 24, 25, 15, 16, 18, 19, 27, 2]
def row1 : List Int := [0, 1, 11, 12, 13, 14, 17, 22, 23, 24, 25, 15, 16, 18, 19, 27, 21]
def row2 : List Int := [0, 1, 11, 12, 13, 14, 17, 22, 23, 24, 25, 21]
def row3 : List Int := [0, 1, 11, 12, 13, 14, 17, 21]
def wF (op : Int) : Int :=
 if row0.contains (op - 64864) = true then 8 else if row1.contains (op - 64896) = true then 16 else if row2.contains (op - 64928) = true then 32 else if row3.contains (op - 64960) = true then 64 else 0
theorem getD_at (L : List Int) (t : Nat) (ht : t < L.length) : L.getD t 0 = L[t] := by
 rw [List.getD_eq_getElem?_getD, List.getElem?_eq_getElem ht]; rfl
theorem not_in (L : List Int) (z b : Int) (h : ∀ t, t < L.length → z ≠ b + L.getD t 0) : L.contains (z - b) = false := by
 rw [Bool.eq_false_iff]
 intro hc
 rw [List.contains_iff_mem] at hc
 obtain ⟨t, ht, e⟩ := List.getElem_of_mem hc
 have := h t ht
 rw [getD_at _ _ ht, e] at this
 omega
theorem hval0 (i : Nat) (h : i < 17) : wF (64864 + row0.getD i 0) = 8 := by
 have : ∀ k : Fin 17, wF (64864 + row0.getD k.val 0) = 8 := by decide +kernel
 exact this ⟨i, h⟩
theorem hval1 (i : Nat) (h : i < 17) : wF (64896 + row1.getD i 0) = 16 := by
 have : ∀ k : Fin 17, wF (64896 + row1.getD k.val 0) = 16 := by decide +kernel
 exact this ⟨i, h⟩
theorem hval2 (i : Nat) (h : i < 12) : wF (64928 + row2.getD i 0) = 32 := by
 have : ∀ k : Fin 12, wF (64928 + row2.getD k.val 0) = 32 := by decide +kernel
 exact this ⟨i, h⟩
theorem hval3 (i : Nat) (h : i < 8) : wF (64960 + row3.getD i 0) = 64 := by
 have : ∀ k : Fin 8, wF (64960 + row3.getD k.val 0) = 64 := by decide +kernel
 exact this ⟨i, h⟩
theorem below_row (L : List Int) (hL : L.all (fun x => decide (0 ≤ x ∧ x ≤ 27)) = true) (t : Nat) (ht : t < L.length) : 0 ≤ L.getD t 0 ∧ L.getD t 0 ≤ 27 := by
 rw [getD_at _ _ ht]
 have := List.all_eq_true.1 hL _ (List.getElem_mem ht)
 simpa using this
end Pl
namespace Go.Proofs.Ytcpfabkokgiepaa
open Go.RowKit Pl
theorem Try.infoInt : (Try.prog.info? 3).map (fun i => (i.zero, i.size, i.bytes)) = some (some (.int .i64 0), 1, 8) := by kernel_rfl
theorem owns_full {base : Nat} {e : TypeId} (w : World) (cur : Array Value) (n : Nat) (hb : base ≤ w.heap.size) (hm : n ≤ maxLen) (hs : cur.size = n) :
 (w.alloc (.cells cur e)).ownsRow base e 1 (.slice (some ⟨w.heap.size, 0, none⟩) n n) n cur.toList :=
 ⟨by simp [hs], .inr ⟨w.heap.size, n, cur, rfl, hb, heap_alloc_new w _, Nat.le_refl _, hm, by omega, by rw [Nat.mul_one, ← hs, ← Array.length_toList, List.take_length]⟩⟩
theorem uN {ops : Array Oper} {rest : List Oper} {o : Oper} {a : Act} {w : World} {Q : Exit → Act → World → Prop} (hgd : o.guard = none) (s x : Operand)
 (ho : o.op = .call { callee := .builtin .append, args := #[s, x], argTypes := #[23, 23] })
 (base : Nat) (v : Value) (xs ys : List Int) (n m b c : Nat) (hs : a.eval s = v) (hn : xs.length = n) (hm : ys.length = m) (hown : w.ownsRow base 3 1 v n (xs.map (Value.int .i64)))
 (hx : a.eval x = .slice (some ⟨b, 0, none⟩) m c) (hb : w.heap[b]? = some (.cells (ys.map (Value.int .i64)).toArray 3 (0, 0)))
 (hsm : n + m ≤ 1000) (h0 : 0 < m) (hbase : base ≤ w.heap.size)
 (h : ∀ g cap w', w'.ownsRow base 3 1 (.slice (some ⟨g, 0, none⟩) (n + m) cap) (n + m) ((xs ++ ys).map (Value.int .i64)) → Below base w w' →
  wpList Try.prog ops Q rest (a.put o.dst (.slice (some ⟨g, 0, none⟩) (n + m) cap)) w') : wpList Try.prog ops Q (o :: rest) a w := by
 obtain ⟨i0, hi, hz0, hz1, hz2⟩ := info_parts Try.infoInt
 refine wpList_append_own _ hgd s x 23 ho base 3 i0 (.int .i64 0) 1 8 Try.underlying23 hi hz0 hz1 hz2 rfl (by decide) v n (xs.map (Value.int .i64)) hs hown ⟨b, 0, none⟩ m c (ys.map (Value.int .i64)) hx (by simp [hm]) ?_ ?_ (by unfold maxLen; omega) (by omega) hbase ?_
 ·intro j u hj
  rw [show (⟨b, 0, none⟩ : Addr).add j = ⟨b, j, none⟩ by first | rfl | (simp [Addr.add]; done) | (simp [Addr.add]; exact fun h => h.symm), cell_of_row w b j _ _ _ hb]
  simpa using hj
 ·intro u hu
  obtain ⟨z, _, rfl⟩ := List.mem_map.1 hu
  rfl
 ·intro v' w' hown' hgrow _
  rw [← List.map_append] at hown'
  have hbel : Below base w w' := Below.grown (Below.refl _ _) hgrow hbase (fun k hk => (hown.lt k hk).1)
  rcases hown'.2 with ⟨_, h2⟩ | ⟨g, cap, cur, rfl, _⟩
  ·omega
  ·exact h g cap w' hown' hbel
theorem own7 (base : Nat) (wr : World) (Y : Obj) (hb : base ≤ wr.heap.size) : ((wr.alloc (.cells #[.int .i64 0, .int .i64 1, .int .i64 11, .int .i64 12, .int .i64 13, .int .i64 14, .int .i64 17] 3)).alloc Y).ownsRow base 3 1 (.slice (some ⟨wr.heap.size, 0, none⟩) 7 7) 7 ([0, 1, 11, 12, 13, 14, 17].map (Value.int .i64)) :=
 World.ownsRow.alloc (owns_full wr _ 7 hb (by decide) rfl) Y
set_option maxRecDepth 100000 in
theorem tY (op : Int) (w : World) (ho : -9223372036854775808 ≤ op ∧ op ≤ 9223372036854775807) :
 Calls Try.prog 85 #[.int .i64 op] w fun e w' => e = .returned (.int .i64 (wF op)) ∧ Below w.heap.size w w' := by
 obtain ⟨R, hR⟩ : ∃ R, R = wF op := ⟨_, rfl⟩
 rw [← hR]
 have HR := Lib.hid hR
 have HO := Lib.hid ho
 clear hR ho
 have hs : Below w.heap.size w w := Below.refl _ _
 go_enter Try.func85, Try.ntmps85
 go_wp2_with fail
 go_loopw [3] (fun bv wr => ∃ b : Nat, b ≤ 4 ∧ bv = .int .i64 b ∧ (0 < b → row0.contains (op - 64864) = false) ∧ (1 < b → row1.contains (op - 64896) = false) ∧ (2 < b → row2.contains (op - 64928) = false) ∧ (3 < b → row3.contains (op - 64960) = false) ∧ Below w.heap.size w wr) (fun bv _ => 4 - (intOf bv).toNat)
 case atStart => exact ⟨0, by decide, rfl, fun h => absurd h (by decide), fun h => absurd h (by decide), fun h => absurd h (by decide), fun h => absurd h (by decide), hs⟩
 case round =>
  clear hs
  obtain ⟨b, hb, rfl, r0, r1, r2, r3, hs⟩ := hrel
  have R0 := Lib.hid r0
  have R1 := Lib.hid r1
  have R2 := Lib.hid r2
  have R3 := Lib.hid r3
  clear r0 r1 r2 r3
  obtain rfl | rfl | rfl | rfl | rfl : b = 0 ∨ b = 1 ∨ b = 2 ∨ b = 3 ∨ b = 4 := by omega
  ·skip
   go_wp2_with fail
   go_loopw [4, 5] (fun wv jv wx => ∃ j : Nat, j ≤ 0 ∧ jv = .int .i64 j ∧ wv = .int .i64 ((8 * 2 ^ j : Nat) : Int) ∧ wr = wx) (fun _ jv _ => 0 - (intOf jv).toNat)
   case atStart => exact gE
   case round =>
    obtain ⟨j, hj, rfl, rfl, rfl⟩ := hrel
    obtain rfl : j = 0 := by omega
    ·go_wp2_with (first | (have hgd := ho1; clear hgd; at_builtin; refine uN rfl _ _ rfl w.heap.size _ [0, 1, 11, 12, 13, 14, 17, 22, 23, 24, 25, 15, 16, 18, 19, 27] [2] 16 1 _ _ rfl rfl rfl (ho1.alloc _) rfl (heap_alloc_new _ _) (by decide) (by decide) (by have := hw1.size; simp; omega) ?_; intro g2 c2 x2 ho2 hb2; have hw2 := (hw1.alloc hw1.size _).trans hb2; clear hb2) | (have hgd := ho0; clear hgd; at_builtin; refine uN rfl _ _ rfl w.heap.size _ [0, 1, 11, 12, 13, 14, 17, 22, 23, 24, 25] [15, 16, 18, 19, 27] 11 5 _ _ rfl rfl rfl (ho0.alloc _) rfl (heap_alloc_new _ _) (by decide) (by decide) (by have := hw0.size; simp; omega) ?_; intro g1 c1 x1 ho1 hb1; have hw1 := (hw0.alloc hw0.size _).trans hb1; clear hb1) | (at_builtin; refine uN rfl _ _ rfl w.heap.size _ [0, 1, 11, 12, 13, 14, 17] [22, 23, 24, 25] 7 4 _ _ rfl rfl rfl (own7 w.heap.size wr _ hs.size) rfl (heap_alloc2_new _ _ _) (by decide) (by decide) (by have := hs.size; simp; omega) ?_; intro g0 c0 x0 ho0 hb0; have hw0 := ((hs.alloc hs.size _).alloc (by have := hs.size; simp; omega) _).trans hb0; clear hb0))
     have hcell : ∀ i, i < 17 → x2.cell? ⟨g2, i, none⟩ = some (.int .i64 (row0.getD i 0)) := fun i hi => by
      have := ho2.cellAt i (by omega)
      rw [this]
      show (row0.map (Value.int .i64))[i]? = _
      rw [List.getElem?_map, List.getElem?_eq_getElem (show i < row0.length from hi), getD_at _ _ (show i < row0.length from hi)]; rfl
     have HC := Lib.hid hcell
     clear hcell ho0 ho1 ho2
     go_loopw [8] (fun iv wx => ∃ i : Nat, i ≤ 17 ∧ iv = .int .i64 i ∧ (∀ t, t < i → op ≠ 64864 + row0.getD t 0) ∧ x2 = wx) (fun iv _ => 17 - (intOf iv).toNat)
     case atStart => exact j4
     case round =>
      obtain ⟨i, hi, rfl, hz, rfl⟩ := hrel
      have HZ := Lib.hid hz
      clear hz
      by_cases hlt : i < 17
      ·have hc := HC.out i hlt
       have hbd := below_row row0 (by decide) i hlt
       have hval : wF (64864 + row0.getD i 0) = 8 := hval0 i hlt
       obtain ⟨z, hz⟩ : ∃ z, z = row0.getD i 0 := ⟨_, rfl⟩
       rw [← hz] at hc hbd hval
       have HV := Lib.hid hval
       have HZZ := Lib.hid hz
       clear hval hz
       have e1 : IntKind.i64.wrap (64864 + z) = 64864 + z := IntWalk.i64_in _ (by omega)
       by_cases hop : op = 64864 + z
       ·have hq : (op == 64864 + z) = true := by rw [hop]; simp
        exact kW
       ·have hq : (op == 64864 + z) = false := by simp [hop]
        exact n9
      ·obtain rfl : i = 17 := by omega
       have hn := Lib.hid (not_in row0 op 64864 HZ.out)
       go_wp2_with fail
       go_roundw
       case rel => first | exact ⟨1, by decide, rfl, fun _ => hn.out, fun h => absurd h (by decide), fun h => absurd h (by decide), fun h => absurd h (by decide), hw2⟩ | ((repeat apply Exists.intro); exact ⟨⟨1, by decide, rfl, fun _ => hn.out, fun h => absurd h (by decide), fun h => absurd h (by decide), fun h => absurd h (by decide), hw2⟩, rfl⟩)
       case measure => exact xL
  ·skip
   go_wp2_with fail
   go_loopw [4, 5] (fun wv jv wx => ∃ j : Nat, j ≤ 1 ∧ jv = .int .i64 j ∧ wv = .int .i64 ((8 * 2 ^ j : Nat) : Int) ∧ wr = wx) (fun _ jv _ => 1 - (intOf jv).toNat)
   case atStart => exact gE
   case round =>
    obtain ⟨j, hj, rfl, rfl, rfl⟩ := hrel
    obtain rfl | rfl : j = 0 ∨ j = 1 := by omega
    ·exact nH
    ·go_wp2_with (first | (have hgd := ho1; clear hgd; at_builtin; refine uN rfl _ _ rfl w.heap.size _ [0, 1, 11, 12, 13, 14, 17, 22, 23, 24, 25, 15, 16, 18, 19, 27] [21] 16 1 _ _ rfl rfl rfl (ho1.alloc _) rfl (heap_alloc_new _ _) (by decide) (by decide) (by have := hw1.size; simp; omega) ?_; intro g2 c2 x2 ho2 hb2; have hw2 := (hw1.alloc hw1.size _).trans hb2; clear hb2) | (have hgd := ho0; clear hgd; at_builtin; refine uN rfl _ _ rfl w.heap.size _ [0, 1, 11, 12, 13, 14, 17, 22, 23, 24, 25] [15, 16, 18, 19, 27] 11 5 _ _ rfl rfl rfl (ho0.alloc _) rfl (heap_alloc_new _ _) (by decide) (by decide) (by have := hw0.size; simp; omega) ?_; intro g1 c1 x1 ho1 hb1; have hw1 := (hw0.alloc hw0.size _).trans hb1; clear hb1) | (at_builtin; refine uN rfl _ _ rfl w.heap.size _ [0, 1, 11, 12, 13, 14, 17] [22, 23, 24, 25] 7 4 _ _ rfl rfl rfl (own7 w.heap.size wr _ hs.size) rfl (heap_alloc2_new _ _ _) (by decide) (by decide) (by have := hs.size; simp; omega) ?_; intro g0 c0 x0 ho0 hb0; have hw0 := ((hs.alloc hs.size _).alloc (by have := hs.size; simp; omega) _).trans hb0; clear hb0))
     have hcell : ∀ i, i < 17 → x2.cell? ⟨g2, i, none⟩ = some (.int .i64 (row1.getD i 0)) := fun i hi => by
      have := ho2.cellAt i (by omega)
      rw [this]
      show (row1.map (Value.int .i64))[i]? = _
      rw [List.getElem?_map, List.getElem?_eq_getElem (show i < row1.length from hi), getD_at _ _ (show i < row1.length from hi)]; rfl
     have HC := Lib.hid hcell
     clear hcell ho0 ho1 ho2
     go_loopw [8] (fun iv wx => ∃ i : Nat, i ≤ 17 ∧ iv = .int .i64 i ∧ (∀ t, t < i → op ≠ 64896 + row1.getD t 0) ∧ x2 = wx) (fun iv _ => 17 - (intOf iv).toNat)
     case atStart => exact j4
     case round =>
      obtain ⟨i, hi, rfl, hz, rfl⟩ := hrel
      have HZ := Lib.hid hz
      clear hz
      by_cases hlt : i < 17
      ·have hc := HC.out i hlt
       have hbd := below_row row1 (by decide) i hlt
       have hval : wF (64896 + row1.getD i 0) = 16 := hval1 i hlt
       obtain ⟨z, hz⟩ : ∃ z, z = row1.getD i 0 := ⟨_, rfl⟩
       rw [← hz] at hc hbd hval
       have HV := Lib.hid hval
       have HZZ := Lib.hid hz
       clear hval hz
       have e1 : IntKind.i64.wrap (64896 + z) = 64896 + z := IntWalk.i64_in _ (by omega)
       by_cases hop : op = 64896 + z
       ·have hq : (op == 64896 + z) = true := by rw [hop]; simp
        exact kW
       ·have hq : (op == 64896 + z) = false := by simp [hop]
        exact n9
      ·obtain rfl : i = 17 := by omega
       have hn := Lib.hid (not_in row1 op 64896 HZ.out)
       go_wp2_with fail
       go_roundw
       case rel => first | exact ⟨2, by decide, rfl, fun _ => R0.out (by decide), fun _ => hn.out, fun h => absurd h (by decide), fun h => absurd h (by decide), hw2⟩ | ((repeat apply Exists.intro); exact ⟨⟨2, by decide, rfl, fun _ => R0.out (by decide), fun _ => hn.out, fun h => absurd h (by decide), fun h => absurd h (by decide), hw2⟩, rfl⟩)
       case measure => exact xL
  ·skip
   go_wp2_with fail
   go_loopw [4, 5] (fun wv jv wx => ∃ j : Nat, j ≤ 2 ∧ jv = .int .i64 j ∧ wv = .int .i64 ((8 * 2 ^ j : Nat) : Int) ∧ wr = wx) (fun _ jv _ => 2 - (intOf jv).toNat)
   case atStart => exact gE
   case round =>
    obtain ⟨j, hj, rfl, rfl, rfl⟩ := hrel
    obtain rfl | rfl | rfl : j = 0 ∨ j = 1 ∨ j = 2 := by omega
    ·exact nH
    ·go_wp2_with fail
     go_roundw
     case rel => exact jQ
     case measure => exact xL
    ·go_wp2_with (first | (have hgd := ho0; clear hgd; at_builtin; refine uN rfl _ _ rfl w.heap.size _ [0, 1, 11, 12, 13, 14, 17, 22, 23, 24, 25] [21] 11 1 _ _ rfl rfl rfl (ho0.alloc _) rfl (heap_alloc_new _ _) (by decide) (by decide) (by have := hw0.size; simp; omega) ?_; intro g1 c1 x1 ho1 hb1; have hw1 := (hw0.alloc hw0.size _).trans hb1; clear hb1) | (at_builtin; refine uN rfl _ _ rfl w.heap.size _ [0, 1, 11, 12, 13, 14, 17] [22, 23, 24, 25] 7 4 _ _ rfl rfl rfl (own7 w.heap.size wr _ hs.size) rfl (heap_alloc2_new _ _ _) (by decide) (by decide) (by have := hs.size; simp; omega) ?_; intro g0 c0 x0 ho0 hb0; have hw0 := ((hs.alloc hs.size _).alloc (by have := hs.size; simp; omega) _).trans hb0; clear hb0))
     have hcell : ∀ i, i < 12 → x1.cell? ⟨g1, i, none⟩ = some (.int .i64 (row2.getD i 0)) := fun i hi => by
      have := ho1.cellAt i (by omega)
      rw [this]
      show (row2.map (Value.int .i64))[i]? = _
      rw [List.getElem?_map, List.getElem?_eq_getElem (show i < row2.length from hi), getD_at _ _ (show i < row2.length from hi)]; rfl
     have HC := Lib.hid hcell
     clear hcell ho0 ho1
     go_loopw [8] (fun iv wx => ∃ i : Nat, i ≤ 12 ∧ iv = .int .i64 i ∧ (∀ t, t < i → op ≠ 64928 + row2.getD t 0) ∧ x1 = wx) (fun iv _ => 12 - (intOf iv).toNat)
     case atStart => exact j4
     case round =>
      obtain ⟨i, hi, rfl, hz, rfl⟩ := hrel
      have HZ := Lib.hid hz
      clear hz
      by_cases hlt : i < 12
      ·have hc := HC.out i hlt
       have hbd := below_row row2 (by decide) i hlt
       have hval : wF (64928 + row2.getD i 0) = 32 := hval2 i hlt
       obtain ⟨z, hz⟩ : ∃ z, z = row2.getD i 0 := ⟨_, rfl⟩
       rw [← hz] at hc hbd hval
       have HV := Lib.hid hval
       have HZZ := Lib.hid hz
       clear hval hz
       have e1 : IntKind.i64.wrap (64928 + z) = 64928 + z := IntWalk.i64_in _ (by omega)
       by_cases hop : op = 64928 + z
       ·have hq : (op == 64928 + z) = true := by rw [hop]; simp
        have HOP := Lib.hid hop
        clear hop
        go_wp2_with fail
        go_ret
        exact ⟨by rw [HR.out, HOP.out, HV.out]; rfl, hw1⟩
       ·have hq : (op == 64928 + z) = false := by simp [hop]
        exact n9
      ·obtain rfl : i = 12 := by omega
       have hn := Lib.hid (not_in row2 op 64928 HZ.out)
       go_wp2_with fail
       go_roundw
       case rel => first | exact ⟨3, by decide, rfl, fun _ => R0.out (by decide), fun _ => R1.out (by decide), fun _ => hn.out, fun h => absurd h (by decide), hw1⟩ | ((repeat apply Exists.intro); exact ⟨⟨3, by decide, rfl, fun _ => R0.out (by decide), fun _ => R1.out (by decide), fun _ => hn.out, fun h => absurd h (by decide), hw1⟩, rfl⟩)
       case measure => exact xL
  ·skip
   go_wp2_with fail
   go_loopw [4, 5] (fun wv jv wx => ∃ j : Nat, j ≤ 3 ∧ jv = .int .i64 j ∧ wv = .int .i64 ((8 * 2 ^ j : Nat) : Int) ∧ wr = wx) (fun _ jv _ => 3 - (intOf jv).toNat)
   case atStart => exact gE
   case round =>
    obtain ⟨j, hj, rfl, rfl, rfl⟩ := hrel
    obtain rfl | rfl | rfl | rfl : j = 0 ∨ j = 1 ∨ j = 2 ∨ j = 3 := by omega
    ·exact nH
    ·go_wp2_with fail
     go_roundw
     case rel => exact jQ
     case measure => exact xL
    ·go_wp2_with fail
     go_roundw
     case rel => first | exact ⟨3, by decide, rfl, rfl, by first | trivial | rfl⟩ | ((repeat apply Exists.intro); exact ⟨⟨3, by decide, rfl, rfl, by first | trivial | rfl⟩, rfl⟩)
     case measure => exact xL
    ·go_wp2_with (first | (at_builtin; refine uN rfl _ _ rfl w.heap.size _ [0, 1, 11, 12, 13, 14, 17] [21] 7 1 _ _ rfl rfl rfl (own7 w.heap.size wr _ hs.size) rfl (heap_alloc2_new _ _ _) (by decide) (by decide) (by have := hs.size; simp; omega) ?_; intro g0 c0 x0 ho0 hb0; have hw0 := ((hs.alloc hs.size _).alloc (by have := hs.size; simp; omega) _).trans hb0; clear hb0))
     have hcell : ∀ i, i < 8 → x0.cell? ⟨g0, i, none⟩ = some (.int .i64 (row3.getD i 0)) := fun i hi => by
      have := ho0.cellAt i (by omega)
      rw [this]
      show (row3.map (Value.int .i64))[i]? = _
      rw [List.getElem?_map, List.getElem?_eq_getElem (show i < row3.length from hi), getD_at _ _ (show i < row3.length from hi)]; rfl
     have HC := Lib.hid hcell
     clear hcell ho0
     go_loopw [8] (fun iv wx => ∃ i : Nat, i ≤ 8 ∧ iv = .int .i64 i ∧ (∀ t, t < i → op ≠ 64960 + row3.getD t 0) ∧ x0 = wx) (fun iv _ => 8 - (intOf iv).toNat)
     case atStart => exact j4
     case round =>
      obtain ⟨i, hi, rfl, hz, rfl⟩ := hrel
      have HZ := Lib.hid hz
      clear hz
      by_cases hlt : i < 8
      ·have hc := HC.out i hlt
       have hbd := below_row row3 (by decide) i hlt
       have hval : wF (64960 + row3.getD i 0) = 64 := hval3 i hlt
       obtain ⟨z, hz⟩ : ∃ z, z = row3.getD i 0 := ⟨_, rfl⟩
       rw [← hz] at hc hbd hval
       have HV := Lib.hid hval
       have HZZ := Lib.hid hz
       clear hval hz
       have e1 : IntKind.i64.wrap (64960 + z) = 64960 + z := IntWalk.i64_in _ (by omega)
       by_cases hop : op = 64960 + z
       ·have hq : (op == 64960 + z) = true := by rw [hop]; simp
        have HOP := Lib.hid hop
        clear hop
        go_wp2_with fail
        go_ret
        exact ⟨by rw [HR.out, HOP.out, HV.out]; rfl, hw0⟩
       ·have hq : (op == 64960 + z) = false := by simp [hop]
        exact n9
      ·obtain rfl : i = 8 := by omega
       have hn := Lib.hid (not_in row3 op 64960 HZ.out)
       go_wp2_with fail
       go_roundw
       case rel => first | exact ⟨4, by decide, rfl, fun _ => R0.out (by decide), fun _ => R1.out (by decide), fun _ => R2.out (by decide), fun _ => hn.out, hw0⟩ | ((repeat apply Exists.intro); exact ⟨⟨4, by decide, rfl, fun _ => R0.out (by decide), fun _ => R1.out (by decide), fun _ => R2.out (by decide), fun _ => hn.out, hw0⟩, rfl⟩)
       case measure => exact xL
  ·go_wp2_with fail
   go_ret
   have e : R = 0 := by
    rw [HR.out]
    unfold wF
    rw [R0.out (by decide), R1.out (by decide), R2.out (by decide), R3.out (by decide)]
    rfl
   exact ⟨congrArg (fun z => Ending.returned (.int .i64 z)) e.symm, hs⟩
end Go.Proofs.Ytcpfabkokgiepaa
end
section
namespace Go.Proofs.Ytcpfabkokgiepaa
open Go.RowKit Pl
end Go.Proofs.Ytcpfabkokgiepaa
namespace Pl
end Pl
namespace Go.Proofs.Ytcpfabkokgiepaa
open Go.RowKit Pl
end Go.Proofs.Ytcpfabkokgiepaa
end
