
/-
  arith.Bin by opcode; plaitlaw05.base, two, one, all.
-/
import Derived.Test.YtcpfabkokgiepaaAriB
import Derived.Test.YtcpfabkokgiepaaAriS
import Derived.Test.YtcpfabkokgiepaaNew
set_option linter.unusedSimpArgs false
set_option linter.unusedVariables false
namespace Go.Proofs.Ytcpfabkokgiepaa
open Go.RowKit Pl
set_option linter.unusedVariables false
set_option linter.unusedSimpArgs false

theorem bin_8_14 (a b : Vec) (w : World) : Calls Try.prog 21 #[.int .i64 64878, .agg (cells a), .agg (cells b)] w fun e w' => e = .returned (.tuple #[.agg (cells (vb 8 14 a b)), .int .i64 0]) ∧ Below w.heap.size w w' :=
  bin_w8 64878 14 a b w (by decide) kind_64878 (fun x y s t w hx hy hs ht => lane_8_14 x y s t w hx hy hs ht)
theorem bin_8_15 (a b : Vec) (w : World) : Calls Try.prog 21 #[.int .i64 64879, .agg (cells a), .agg (cells b)] w fun e w' => e = .returned (.tuple #[.agg (cells (vb 8 15 a b)), .int .i64 0]) ∧ Below w.heap.size w w' :=
  bin_w8 64879 15 a b w (by decide) kind_64879 (fun x y s t w hx hy hs ht => lane_8_15 x y s t w hx hy hs ht)
theorem bin_8_16 (a b : Vec) (w : World) : Calls Try.prog 21 #[.int .i64 64880, .agg (cells a), .agg (cells b)] w fun e w' => e = .returned (.tuple #[.agg (cells (vb 8 16 a b)), .int .i64 0]) ∧ Below w.heap.size w w' :=
  bin_w8 64880 16 a b w (by decide) kind_64880 (fun x y s t w hx hy hs ht => lane_8_16 x y s t w hx hy hs ht)
theorem bin_8_17 (a b : Vec) (w : World) : Calls Try.prog 21 #[.int .i64 64881, .agg (cells a), .agg (cells b)] w fun e w' => e = .returned (.tuple #[.agg (cells (vb 8 17 a b)), .int .i64 0]) ∧ Below w.heap.size w w' :=
  bin_w8 64881 17 a b w (by decide) kind_64881 (fun x y s t w hx hy hs ht => lane_8_17 x y s t w hx hy hs ht)
theorem bin_8_18 (a b : Vec) (w : World) : Calls Try.prog 21 #[.int .i64 64882, .agg (cells a), .agg (cells b)] w fun e w' => e = .returned (.tuple #[.agg (cells (vb 8 18 a b)), .int .i64 0]) ∧ Below w.heap.size w w' :=
  bin_w8 64882 18 a b w (by decide) kind_64882 (fun x y s t w hx hy hs ht => lane_8_18 x y s t w hx hy hs ht)
theorem bin_8_19 (a b : Vec) (w : World) : Calls Try.prog 21 #[.int .i64 64883, .agg (cells a), .agg (cells b)] w fun e w' => e = .returned (.tuple #[.agg (cells (vb 8 19 a b)), .int .i64 0]) ∧ Below w.heap.size w w' :=
  bin_w8 64883 19 a b w (by decide) kind_64883 (fun x y s t w hx hy hs ht => lane_8_19 x y s t w hx hy hs ht)
theorem bin_8_22 (a b : Vec) (w : World) : Calls Try.prog 21 #[.int .i64 64886, .agg (cells a), .agg (cells b)] w fun e w' => e = .returned (.tuple #[.agg (cells (vb 8 22 a b)), .int .i64 0]) ∧ Below w.heap.size w w' :=
  bin_w8 64886 22 a b w (by decide) kind_64886 (fun x y s t w hx hy hs ht => lane_8_22 x y s t w hx hy hs ht)
theorem bin_8_23 (a b : Vec) (w : World) : Calls Try.prog 21 #[.int .i64 64887, .agg (cells a), .agg (cells b)] w fun e w' => e = .returned (.tuple #[.agg (cells (vb 8 23 a b)), .int .i64 0]) ∧ Below w.heap.size w w' :=
  bin_w8 64887 23 a b w (by decide) kind_64887 (fun x y s t w hx hy hs ht => lane_8_23 x y s t w hx hy hs ht)
theorem bin_8_24 (a b : Vec) (w : World) : Calls Try.prog 21 #[.int .i64 64888, .agg (cells a), .agg (cells b)] w fun e w' => e = .returned (.tuple #[.agg (cells (vb 8 24 a b)), .int .i64 0]) ∧ Below w.heap.size w w' :=
  bin_w8 64888 24 a b w (by decide) kind_64888 (fun x y s t w hx hy hs ht => lane_8_24 x y s t w hx hy hs ht)
theorem bin_8_25 (a b : Vec) (w : World) : Calls Try.prog 21 #[.int .i64 64889, .agg (cells a), .agg (cells b)] w fun e w' => e = .returned (.tuple #[.agg (cells (vb 8 25 a b)), .int .i64 0]) ∧ Below w.heap.size w w' :=
  bin_w8 64889 25 a b w (by decide) kind_64889 (fun x y s t w hx hy hs ht => lane_8_25 x y s t w hx hy hs ht)
theorem bin_8_27 (a b : Vec) (w : World) : Calls Try.prog 21 #[.int .i64 64891, .agg (cells a), .agg (cells b)] w fun e w' => e = .returned (.tuple #[.agg (cells (vb 8 27 a b)), .int .i64 0]) ∧ Below w.heap.size w w' :=
  bin_w8 64891 27 a b w (by decide) kind_64891 (fun x y s t w hx hy hs ht => lane_8_27 x y s t w hx hy hs ht)
theorem bin_16_14 (a b : Vec) (w : World) : Calls Try.prog 21 #[.int .i64 64910, .agg (cells a), .agg (cells b)] w fun e w' => e = .returned (.tuple #[.agg (cells (vb 16 14 a b)), .int .i64 0]) ∧ Below w.heap.size w w' :=
  bin_w16 64910 14 a b w (by decide) kind_64910 (fun x y s t w hx hy hs ht => lane_16_14 x y s t w hx hy hs ht)
theorem bin_16_15 (a b : Vec) (w : World) : Calls Try.prog 21 #[.int .i64 64911, .agg (cells a), .agg (cells b)] w fun e w' => e = .returned (.tuple #[.agg (cells (vb 16 15 a b)), .int .i64 0]) ∧ Below w.heap.size w w' :=
  bin_w16 64911 15 a b w (by decide) kind_64911 (fun x y s t w hx hy hs ht => lane_16_15 x y s t w hx hy hs ht)
theorem bin_16_16 (a b : Vec) (w : World) : Calls Try.prog 21 #[.int .i64 64912, .agg (cells a), .agg (cells b)] w fun e w' => e = .returned (.tuple #[.agg (cells (vb 16 16 a b)), .int .i64 0]) ∧ Below w.heap.size w w' :=
  bin_w16 64912 16 a b w (by decide) kind_64912 (fun x y s t w hx hy hs ht => lane_16_16 x y s t w hx hy hs ht)
theorem bin_16_17 (a b : Vec) (w : World) : Calls Try.prog 21 #[.int .i64 64913, .agg (cells a), .agg (cells b)] w fun e w' => e = .returned (.tuple #[.agg (cells (vb 16 17 a b)), .int .i64 0]) ∧ Below w.heap.size w w' :=
  bin_w16 64913 17 a b w (by decide) kind_64913 (fun x y s t w hx hy hs ht => lane_16_17 x y s t w hx hy hs ht)
theorem bin_16_18 (a b : Vec) (w : World) : Calls Try.prog 21 #[.int .i64 64914, .agg (cells a), .agg (cells b)] w fun e w' => e = .returned (.tuple #[.agg (cells (vb 16 18 a b)), .int .i64 0]) ∧ Below w.heap.size w w' :=
  bin_w16 64914 18 a b w (by decide) kind_64914 (fun x y s t w hx hy hs ht => lane_16_18 x y s t w hx hy hs ht)
theorem bin_16_19 (a b : Vec) (w : World) : Calls Try.prog 21 #[.int .i64 64915, .agg (cells a), .agg (cells b)] w fun e w' => e = .returned (.tuple #[.agg (cells (vb 16 19 a b)), .int .i64 0]) ∧ Below w.heap.size w w' :=
  bin_w16 64915 19 a b w (by decide) kind_64915 (fun x y s t w hx hy hs ht => lane_16_19 x y s t w hx hy hs ht)
theorem bin_16_21 (a b : Vec) (w : World) : Calls Try.prog 21 #[.int .i64 64917, .agg (cells a), .agg (cells b)] w fun e w' => e = .returned (.tuple #[.agg (cells (vb 16 21 a b)), .int .i64 0]) ∧ Below w.heap.size w w' :=
  bin_w16 64917 21 a b w (by decide) kind_64917 (fun x y s t w hx hy hs ht => lane_16_21 x y s t w hx hy hs ht)
theorem bin_16_22 (a b : Vec) (w : World) : Calls Try.prog 21 #[.int .i64 64918, .agg (cells a), .agg (cells b)] w fun e w' => e = .returned (.tuple #[.agg (cells (vb 16 22 a b)), .int .i64 0]) ∧ Below w.heap.size w w' :=
  bin_w16 64918 22 a b w (by decide) kind_64918 (fun x y s t w hx hy hs ht => lane_16_22 x y s t w hx hy hs ht)
theorem bin_16_23 (a b : Vec) (w : World) : Calls Try.prog 21 #[.int .i64 64919, .agg (cells a), .agg (cells b)] w fun e w' => e = .returned (.tuple #[.agg (cells (vb 16 23 a b)), .int .i64 0]) ∧ Below w.heap.size w w' :=
  bin_w16 64919 23 a b w (by decide) kind_64919 (fun x y s t w hx hy hs ht => lane_16_23 x y s t w hx hy hs ht)
theorem bin_16_24 (a b : Vec) (w : World) : Calls Try.prog 21 #[.int .i64 64920, .agg (cells a), .agg (cells b)] w fun e w' => e = .returned (.tuple #[.agg (cells (vb 16 24 a b)), .int .i64 0]) ∧ Below w.heap.size w w' :=
  bin_w16 64920 24 a b w (by decide) kind_64920 (fun x y s t w hx hy hs ht => lane_16_24 x y s t w hx hy hs ht)
theorem bin_16_25 (a b : Vec) (w : World) : Calls Try.prog 21 #[.int .i64 64921, .agg (cells a), .agg (cells b)] w fun e w' => e = .returned (.tuple #[.agg (cells (vb 16 25 a b)), .int .i64 0]) ∧ Below w.heap.size w w' :=
  bin_w16 64921 25 a b w (by decide) kind_64921 (fun x y s t w hx hy hs ht => lane_16_25 x y s t w hx hy hs ht)
theorem bin_16_27 (a b : Vec) (w : World) : Calls Try.prog 21 #[.int .i64 64923, .agg (cells a), .agg (cells b)] w fun e w' => e = .returned (.tuple #[.agg (cells (vb 16 27 a b)), .int .i64 0]) ∧ Below w.heap.size w w' :=
  bin_w16 64923 27 a b w (by decide) kind_64923 (fun x y s t w hx hy hs ht => lane_16_27 x y s t w hx hy hs ht)
theorem bin_32_14 (a b : Vec) (w : World) : Calls Try.prog 21 #[.int .i64 64942, .agg (cells a), .agg (cells b)] w fun e w' => e = .returned (.tuple #[.agg (cells (vb 32 14 a b)), .int .i64 0]) ∧ Below w.heap.size w w' :=
  bin_w32 64942 14 a b w (by decide) kind_64942 (fun x y s t w hx hy hs ht => lane_32_14 x y s t w hx hy hs ht)
theorem bin_32_17 (a b : Vec) (w : World) : Calls Try.prog 21 #[.int .i64 64945, .agg (cells a), .agg (cells b)] w fun e w' => e = .returned (.tuple #[.agg (cells (vb 32 17 a b)), .int .i64 0]) ∧ Below w.heap.size w w' :=
  bin_w32 64945 17 a b w (by decide) kind_64945 (fun x y s t w hx hy hs ht => lane_32_17 x y s t w hx hy hs ht)
theorem bin_32_21 (a b : Vec) (w : World) : Calls Try.prog 21 #[.int .i64 64949, .agg (cells a), .agg (cells b)] w fun e w' => e = .returned (.tuple #[.agg (cells (vb 32 21 a b)), .int .i64 0]) ∧ Below w.heap.size w w' :=
  bin_w32 64949 21 a b w (by decide) kind_64949 (fun x y s t w hx hy hs ht => lane_32_21 x y s t w hx hy hs ht)
theorem bin_32_22 (a b : Vec) (w : World) : Calls Try.prog 21 #[.int .i64 64950, .agg (cells a), .agg (cells b)] w fun e w' => e = .returned (.tuple #[.agg (cells (vb 32 22 a b)), .int .i64 0]) ∧ Below w.heap.size w w' :=
  bin_w32 64950 22 a b w (by decide) kind_64950 (fun x y s t w hx hy hs ht => lane_32_22 x y s t w hx hy hs ht)
theorem bin_32_23 (a b : Vec) (w : World) : Calls Try.prog 21 #[.int .i64 64951, .agg (cells a), .agg (cells b)] w fun e w' => e = .returned (.tuple #[.agg (cells (vb 32 23 a b)), .int .i64 0]) ∧ Below w.heap.size w w' :=
  bin_w32 64951 23 a b w (by decide) kind_64951 (fun x y s t w hx hy hs ht => lane_32_23 x y s t w hx hy hs ht)
theorem bin_32_24 (a b : Vec) (w : World) : Calls Try.prog 21 #[.int .i64 64952, .agg (cells a), .agg (cells b)] w fun e w' => e = .returned (.tuple #[.agg (cells (vb 32 24 a b)), .int .i64 0]) ∧ Below w.heap.size w w' :=
  bin_w32 64952 24 a b w (by decide) kind_64952 (fun x y s t w hx hy hs ht => lane_32_24 x y s t w hx hy hs ht)
theorem bin_32_25 (a b : Vec) (w : World) : Calls Try.prog 21 #[.int .i64 64953, .agg (cells a), .agg (cells b)] w fun e w' => e = .returned (.tuple #[.agg (cells (vb 32 25 a b)), .int .i64 0]) ∧ Below w.heap.size w w' :=
  bin_w32 64953 25 a b w (by decide) kind_64953 (fun x y s t w hx hy hs ht => lane_32_25 x y s t w hx hy hs ht)
theorem bin_64_14 (a b : Vec) (w : World) : Calls Try.prog 21 #[.int .i64 64974, .agg (cells a), .agg (cells b)] w fun e w' => e = .returned (.tuple #[.agg (cells (vb 64 14 a b)), .int .i64 0]) ∧ Below w.heap.size w w' :=
  bin_w64 64974 14 a b w (by decide) kind_64974 (fun x y s t w hx hy hs ht => lane_64_14 x y s t w hx hy hs ht)
theorem bin_64_17 (a b : Vec) (w : World) : Calls Try.prog 21 #[.int .i64 64977, .agg (cells a), .agg (cells b)] w fun e w' => e = .returned (.tuple #[.agg (cells (vb 64 17 a b)), .int .i64 0]) ∧ Below w.heap.size w w' :=
  bin_w64 64977 17 a b w (by decide) kind_64977 (fun x y s t w hx hy hs ht => lane_64_17 x y s t w hx hy hs ht)
theorem bin_64_21 (a b : Vec) (w : World) : Calls Try.prog 21 #[.int .i64 64981, .agg (cells a), .agg (cells b)] w fun e w' => e = .returned (.tuple #[.agg (cells (vb 64 21 a b)), .int .i64 0]) ∧ Below w.heap.size w w' :=
  bin_w64 64981 21 a b w (by decide) kind_64981 (fun x y s t w hx hy hs ht => lane_64_21 x y s t w hx hy hs ht)
theorem same_below {f : FuncId} {args : Array Value} {w : World} {v : Ending} (h : Calls Try.prog f args w fun e w' => e = v ∧ w' = w) : Calls Try.prog f args w fun e w' => e = v ∧ Below w.heap.size w w' :=
  h.mono fun e w' ⟨h1, h2⟩ => ⟨h1, by subst h2; exact Below.refl _ _⟩
theorem heap_z3 (w : World) (A B : Obj) (t : TypeId) : (((w.alloc A).alloc B).alloc (.cells #[.int .u8 0, .int .u8 0, .int .u8 0, .int .u8 0, .int .u8 0, .int .u8 0, .int .u8 0, .int .u8 0, .int .u8 0, .int .u8 0, .int .u8 0, .int .u8 0, .int .u8 0, .int .u8 0, .int .u8 0, .int .u8 0] t)).heap[w.heap.size + 2]? = some (.cells (cells 0) t (0, 0)) := by
  rw [cells_zero]; exact heap_alloc3_2 _ _ _ _
theorem heap_z2 (w : World) (A : Obj) (t : TypeId) : ((w.alloc A).alloc (.cells #[.int .u8 0, .int .u8 0, .int .u8 0, .int .u8 0, .int .u8 0, .int .u8 0, .int .u8 0, .int .u8 0, .int .u8 0, .int .u8 0, .int .u8 0, .int .u8 0, .int .u8 0, .int .u8 0, .int .u8 0, .int .u8 0] t)).heap[w.heap.size + 1]? = some (.cells (cells 0) t (0, 0)) := by
  rw [cells_zero]; exact heap_alloc2_new _ _ _
theorem bin_no (op z k : Int) (a b : Vec) (w : World) (ho : ∀ w, Calls Try.prog 49 #[.int .i64 op] w fun e w' => e = .returned (.tuple #[.int .i64 z, .int .i64 k]) ∧ w' = w) (h : z = 0 ∨ k < 14) :
    Calls Try.prog 21 #[.int .i64 op, .agg (cells a), .agg (cells b)] w fun e w' => e = .returned (.tuple #[.agg (cells 0), .int .i64 1]) ∧ Below w.heap.size w w' := by
  have H := Lib.hid ho
  clear ho
  by_cases hz : z = 0
  · subst hz
    clear h
    go_enter Try.func21, Try.ntmps21
    go_wp2_with (first | (go_at_call 49; refine (H.out _).mono ?_; rintro e w' ⟨rfl, rfl⟩))
    exact bodyPost_ret (results_vec_tmp rfl _ _ (w.heap.size + 2) _ _ rfl rfl (heap_z3 w _ _ _)) rfl ⟨rfl, below_alloc3 _ _ _ _⟩
  · have hk : k < 14 := by rcases h with h | h; exact absurd h hz; exact h
    have t1 : (z == 0) = false := beq_eq_false_iff_ne.2 hz
    clear h hz
    go_enter Try.func21, Try.ntmps21
    go_wp2_with (first | (go_at_call 49; refine (H.out _).mono ?_; rintro e w' ⟨rfl, rfl⟩))
    exact bodyPost_ret (results_vec_tmp rfl _ _ (w.heap.size + 2) _ _ rfl rfl (heap_z3 w _ _ _)) rfl ⟨rfl, below_alloc3 _ _ _ _⟩
theorem un_no (op z k : Int) (a : Vec) (w : World) (ho : ∀ w, Calls Try.prog 49 #[.int .i64 op] w fun e w' => e = .returned (.tuple #[.int .i64 z, .int .i64 k]) ∧ w' = w) (h : z = 0 ∨ 2 < k) :
    Calls Try.prog 17 #[.int .i64 op, .agg (cells a)] w fun e w' => e = .returned (.tuple #[.agg (cells 0), .int .i64 1]) ∧ Below w.heap.size w w' := by
  have H := Lib.hid ho
  clear ho
  by_cases hz : z = 0
  · subst hz
    clear h
    go_enter Try.func17, Try.ntmps17
    go_wp2_with (first | (go_at_call 49; refine (H.out _).mono ?_; rintro e w' ⟨rfl, rfl⟩))
    exact bodyPost_ret (results_vec_tmp rfl _ _ (w.heap.size + 1) _ _ rfl rfl (heap_z2 w _ _)) rfl ⟨rfl, ((Below.refl _ _).alloc (Nat.le_refl _) _).alloc (by simp) _⟩
  · have hk : 2 < k := by rcases h with h | h; exact absurd h hz; exact h
    have t1 : (z == 0) = false := beq_eq_false_iff_ne.2 hz
    clear h hz
    go_enter Try.func17, Try.ntmps17
    go_wp2_with (first | (go_at_call 49; refine (H.out _).mono ?_; rintro e w' ⟨rfl, rfl⟩))
    exact bodyPost_ret (results_vec_tmp rfl _ _ (w.heap.size + 1) _ _ rfl rfl (heap_z2 w _ _)) rfl ⟨rfl, ((Below.refl _ _).alloc (Nat.le_refl _) _).alloc (by simp) _⟩
theorem sh_no (op z k : Int) (a : Vec) (n : Int) (w : World) (ho : ∀ w, Calls Try.prog 49 #[.int .i64 op] w fun e w' => e = .returned (.tuple #[.int .i64 z, .int .i64 k]) ∧ w' = w) (h : z = 0 ∨ k < 11 ∨ 13 < k) :
    Calls Try.prog 24 #[.int .i64 op, .agg (cells a), .int .u32 n] w fun e w' => e = .returned (.tuple #[.agg (cells 0), .int .i64 1]) ∧ Below w.heap.size w w' := by
  have H := Lib.hid ho
  clear ho
  by_cases hz : z = 0
  · subst hz
    clear h
    go_enter Try.func24, Try.ntmps24
    go_wp2_with (first | (go_at_call 49; refine (H.out _).mono ?_; rintro e w' ⟨rfl, rfl⟩))
    exact bodyPost_ret (results_vec_tmp rfl _ _ (w.heap.size + 1) _ _ rfl rfl (heap_z2 w _ _)) rfl ⟨rfl, ((Below.refl _ _).alloc (Nat.le_refl _) _).alloc (by simp) _⟩
  · have t1 : (z == 0) = false := beq_eq_false_iff_ne.2 hz
    rcases (show k < 11 ∨ 13 < k by rcases h with h | h; exact absurd h hz; exact h) with hk | hk
    all_goals
      clear h hz
      go_enter Try.func24, Try.ntmps24
      go_wp2_with (first | (go_at_call 49; refine (H.out _).mono ?_; rintro e w' ⟨rfl, rfl⟩))
      exact bodyPost_ret (results_vec_tmp rfl _ _ (w.heap.size + 1) _ _ rfl rfl (heap_z2 w _ _)) rfl ⟨rfl, ((Below.refl _ _).alloc (Nat.le_refl _) _).alloc (by simp) _⟩
end Go.Proofs.Ytcpfabkokgiepaa
