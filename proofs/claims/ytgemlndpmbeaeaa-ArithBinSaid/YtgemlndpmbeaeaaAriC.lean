/-
  arith.Bin by opcode; plaitlaw05.base, two, one, all.
-/
import Derived.Test.YtgemlndpmbeaeaaAriB
import Derived.Test.YtgemlndpmbeaeaaAriS
import Derived.Test.YtgemlndpmbeaeaaNew
set_option linter.unusedSimpArgs false
set_option linter.unusedVariables false
namespace Go.Proofs.Ytgemlndpmbeaeaa
open Go.RowKit Pl
set_option linter.unusedVariables false
set_option linter.unusedSimpArgs false

theorem bin_8_14 (a b : Vec) (w : World) : Calls Try.prog 22 #[.int .i64 64878, .agg (cells a), .agg (cells b)] w fun e w' => e = .returned (.tuple #[.agg (cells (vb 8 14 a b)), .int .i64 0]) ∧ Below w.heap.size w w' :=
  bin_w8 64878 14 a b w (by decide) kind_64878 (fun x y s t w hx hy hs ht => lane_8_14 x y s t w hx hy hs ht)
theorem bin_8_15 (a b : Vec) (w : World) : Calls Try.prog 22 #[.int .i64 64879, .agg (cells a), .agg (cells b)] w fun e w' => e = .returned (.tuple #[.agg (cells (vb 8 15 a b)), .int .i64 0]) ∧ Below w.heap.size w w' :=
  bin_w8 64879 15 a b w (by decide) kind_64879 (fun x y s t w hx hy hs ht => lane_8_15 x y s t w hx hy hs ht)
theorem bin_8_16 (a b : Vec) (w : World) : Calls Try.prog 22 #[.int .i64 64880, .agg (cells a), .agg (cells b)] w fun e w' => e = .returned (.tuple #[.agg (cells (vb 8 16 a b)), .int .i64 0]) ∧ Below w.heap.size w w' :=
  bin_w8 64880 16 a b w (by decide) kind_64880 (fun x y s t w hx hy hs ht => lane_8_16 x y s t w hx hy hs ht)
theorem bin_8_17 (a b : Vec) (w : World) : Calls Try.prog 22 #[.int .i64 64881, .agg (cells a), .agg (cells b)] w fun e w' => e = .returned (.tuple #[.agg (cells (vb 8 17 a b)), .int .i64 0]) ∧ Below w.heap.size w w' :=
  bin_w8 64881 17 a b w (by decide) kind_64881 (fun x y s t w hx hy hs ht => lane_8_17 x y s t w hx hy hs ht)
theorem bin_8_18 (a b : Vec) (w : World) : Calls Try.prog 22 #[.int .i64 64882, .agg (cells a), .agg (cells b)] w fun e w' => e = .returned (.tuple #[.agg (cells (vb 8 18 a b)), .int .i64 0]) ∧ Below w.heap.size w w' :=
  bin_w8 64882 18 a b w (by decide) kind_64882 (fun x y s t w hx hy hs ht => lane_8_18 x y s t w hx hy hs ht)
theorem bin_8_19 (a b : Vec) (w : World) : Calls Try.prog 22 #[.int .i64 64883, .agg (cells a), .agg (cells b)] w fun e w' => e = .returned (.tuple #[.agg (cells (vb 8 19 a b)), .int .i64 0]) ∧ Below w.heap.size w w' :=
  bin_w8 64883 19 a b w (by decide) kind_64883 (fun x y s t w hx hy hs ht => lane_8_19 x y s t w hx hy hs ht)
theorem bin_8_22 (a b : Vec) (w : World) : Calls Try.prog 22 #[.int .i64 64886, .agg (cells a), .agg (cells b)] w fun e w' => e = .returned (.tuple #[.agg (cells (vb 8 22 a b)), .int .i64 0]) ∧ Below w.heap.size w w' :=
  bin_w8 64886 22 a b w (by decide) kind_64886 (fun x y s t w hx hy hs ht => lane_8_22 x y s t w hx hy hs ht)
theorem bin_8_23 (a b : Vec) (w : World) : Calls Try.prog 22 #[.int .i64 64887, .agg (cells a), .agg (cells b)] w fun e w' => e = .returned (.tuple #[.agg (cells (vb 8 23 a b)), .int .i64 0]) ∧ Below w.heap.size w w' :=
  bin_w8 64887 23 a b w (by decide) kind_64887 (fun x y s t w hx hy hs ht => lane_8_23 x y s t w hx hy hs ht)
theorem bin_8_24 (a b : Vec) (w : World) : Calls Try.prog 22 #[.int .i64 64888, .agg (cells a), .agg (cells b)] w fun e w' => e = .returned (.tuple #[.agg (cells (vb 8 24 a b)), .int .i64 0]) ∧ Below w.heap.size w w' :=
  bin_w8 64888 24 a b w (by decide) kind_64888 (fun x y s t w hx hy hs ht => lane_8_24 x y s t w hx hy hs ht)
theorem bin_8_25 (a b : Vec) (w : World) : Calls Try.prog 22 #[.int .i64 64889, .agg (cells a), .agg (cells b)] w fun e w' => e = .returned (.tuple #[.agg (cells (vb 8 25 a b)), .int .i64 0]) ∧ Below w.heap.size w w' :=
  bin_w8 64889 25 a b w (by decide) kind_64889 (fun x y s t w hx hy hs ht => lane_8_25 x y s t w hx hy hs ht)
theorem bin_8_27 (a b : Vec) (w : World) : Calls Try.prog 22 #[.int .i64 64891, .agg (cells a), .agg (cells b)] w fun e w' => e = .returned (.tuple #[.agg (cells (vb 8 27 a b)), .int .i64 0]) ∧ Below w.heap.size w w' :=
  bin_w8 64891 27 a b w (by decide) kind_64891 (fun x y s t w hx hy hs ht => lane_8_27 x y s t w hx hy hs ht)
theorem bin_16_14 (a b : Vec) (w : World) : Calls Try.prog 22 #[.int .i64 64910, .agg (cells a), .agg (cells b)] w fun e w' => e = .returned (.tuple #[.agg (cells (vb 16 14 a b)), .int .i64 0]) ∧ Below w.heap.size w w' :=
  bin_w16 64910 14 a b w (by decide) kind_64910 (fun x y s t w hx hy hs ht => lane_16_14 x y s t w hx hy hs ht)
theorem bin_16_15 (a b : Vec) (w : World) : Calls Try.prog 22 #[.int .i64 64911, .agg (cells a), .agg (cells b)] w fun e w' => e = .returned (.tuple #[.agg (cells (vb 16 15 a b)), .int .i64 0]) ∧ Below w.heap.size w w' :=
  bin_w16 64911 15 a b w (by decide) kind_64911 (fun x y s t w hx hy hs ht => lane_16_15 x y s t w hx hy hs ht)
theorem bin_16_16 (a b : Vec) (w : World) : Calls Try.prog 22 #[.int .i64 64912, .agg (cells a), .agg (cells b)] w fun e w' => e = .returned (.tuple #[.agg (cells (vb 16 16 a b)), .int .i64 0]) ∧ Below w.heap.size w w' :=
  bin_w16 64912 16 a b w (by decide) kind_64912 (fun x y s t w hx hy hs ht => lane_16_16 x y s t w hx hy hs ht)
theorem bin_16_17 (a b : Vec) (w : World) : Calls Try.prog 22 #[.int .i64 64913, .agg (cells a), .agg (cells b)] w fun e w' => e = .returned (.tuple #[.agg (cells (vb 16 17 a b)), .int .i64 0]) ∧ Below w.heap.size w w' :=
  bin_w16 64913 17 a b w (by decide) kind_64913 (fun x y s t w hx hy hs ht => lane_16_17 x y s t w hx hy hs ht)
theorem bin_16_18 (a b : Vec) (w : World) : Calls Try.prog 22 #[.int .i64 64914, .agg (cells a), .agg (cells b)] w fun e w' => e = .returned (.tuple #[.agg (cells (vb 16 18 a b)), .int .i64 0]) ∧ Below w.heap.size w w' :=
  bin_w16 64914 18 a b w (by decide) kind_64914 (fun x y s t w hx hy hs ht => lane_16_18 x y s t w hx hy hs ht)
theorem bin_16_19 (a b : Vec) (w : World) : Calls Try.prog 22 #[.int .i64 64915, .agg (cells a), .agg (cells b)] w fun e w' => e = .returned (.tuple #[.agg (cells (vb 16 19 a b)), .int .i64 0]) ∧ Below w.heap.size w w' :=
  bin_w16 64915 19 a b w (by decide) kind_64915 (fun x y s t w hx hy hs ht => lane_16_19 x y s t w hx hy hs ht)
theorem bin_16_21 (a b : Vec) (w : World) : Calls Try.prog 22 #[.int .i64 64917, .agg (cells a), .agg (cells b)] w fun e w' => e = .returned (.tuple #[.agg (cells (vb 16 21 a b)), .int .i64 0]) ∧ Below w.heap.size w w' :=
  bin_w16 64917 21 a b w (by decide) kind_64917 (fun x y s t w hx hy hs ht => lane_16_21 x y s t w hx hy hs ht)
theorem bin_16_22 (a b : Vec) (w : World) : Calls Try.prog 22 #[.int .i64 64918, .agg (cells a), .agg (cells b)] w fun e w' => e = .returned (.tuple #[.agg (cells (vb 16 22 a b)), .int .i64 0]) ∧ Below w.heap.size w w' :=
  bin_w16 64918 22 a b w (by decide) kind_64918 (fun x y s t w hx hy hs ht => lane_16_22 x y s t w hx hy hs ht)
theorem bin_16_23 (a b : Vec) (w : World) : Calls Try.prog 22 #[.int .i64 64919, .agg (cells a), .agg (cells b)] w fun e w' => e = .returned (.tuple #[.agg (cells (vb 16 23 a b)), .int .i64 0]) ∧ Below w.heap.size w w' :=
  bin_w16 64919 23 a b w (by decide) kind_64919 (fun x y s t w hx hy hs ht => lane_16_23 x y s t w hx hy hs ht)
theorem bin_16_24 (a b : Vec) (w : World) : Calls Try.prog 22 #[.int .i64 64920, .agg (cells a), .agg (cells b)] w fun e w' => e = .returned (.tuple #[.agg (cells (vb 16 24 a b)), .int .i64 0]) ∧ Below w.heap.size w w' :=
  bin_w16 64920 24 a b w (by decide) kind_64920 (fun x y s t w hx hy hs ht => lane_16_24 x y s t w hx hy hs ht)
theorem bin_16_25 (a b : Vec) (w : World) : Calls Try.prog 22 #[.int .i64 64921, .agg (cells a), .agg (cells b)] w fun e w' => e = .returned (.tuple #[.agg (cells (vb 16 25 a b)), .int .i64 0]) ∧ Below w.heap.size w w' :=
  bin_w16 64921 25 a b w (by decide) kind_64921 (fun x y s t w hx hy hs ht => lane_16_25 x y s t w hx hy hs ht)
theorem bin_16_27 (a b : Vec) (w : World) : Calls Try.prog 22 #[.int .i64 64923, .agg (cells a), .agg (cells b)] w fun e w' => e = .returned (.tuple #[.agg (cells (vb 16 27 a b)), .int .i64 0]) ∧ Below w.heap.size w w' :=
  bin_w16 64923 27 a b w (by decide) kind_64923 (fun x y s t w hx hy hs ht => lane_16_27 x y s t w hx hy hs ht)
theorem bin_32_14 (a b : Vec) (w : World) : Calls Try.prog 22 #[.int .i64 64942, .agg (cells a), .agg (cells b)] w fun e w' => e = .returned (.tuple #[.agg (cells (vb 32 14 a b)), .int .i64 0]) ∧ Below w.heap.size w w' :=
  bin_w32 64942 14 a b w (by decide) kind_64942 (fun x y s t w hx hy hs ht => lane_32_14 x y s t w hx hy hs ht)
theorem bin_32_17 (a b : Vec) (w : World) : Calls Try.prog 22 #[.int .i64 64945, .agg (cells a), .agg (cells b)] w fun e w' => e = .returned (.tuple #[.agg (cells (vb 32 17 a b)), .int .i64 0]) ∧ Below w.heap.size w w' :=
  bin_w32 64945 17 a b w (by decide) kind_64945 (fun x y s t w hx hy hs ht => lane_32_17 x y s t w hx hy hs ht)
theorem bin_32_21 (a b : Vec) (w : World) : Calls Try.prog 22 #[.int .i64 64949, .agg (cells a), .agg (cells b)] w fun e w' => e = .returned (.tuple #[.agg (cells (vb 32 21 a b)), .int .i64 0]) ∧ Below w.heap.size w w' :=
  bin_w32 64949 21 a b w (by decide) kind_64949 (fun x y s t w hx hy hs ht => lane_32_21 x y s t w hx hy hs ht)
theorem bin_32_22 (a b : Vec) (w : World) : Calls Try.prog 22 #[.int .i64 64950, .agg (cells a), .agg (cells b)] w fun e w' => e = .returned (.tuple #[.agg (cells (vb 32 22 a b)), .int .i64 0]) ∧ Below w.heap.size w w' :=
  bin_w32 64950 22 a b w (by decide) kind_64950 (fun x y s t w hx hy hs ht => lane_32_22 x y s t w hx hy hs ht)
theorem bin_32_23 (a b : Vec) (w : World) : Calls Try.prog 22 #[.int .i64 64951, .agg (cells a), .agg (cells b)] w fun e w' => e = .returned (.tuple #[.agg (cells (vb 32 23 a b)), .int .i64 0]) ∧ Below w.heap.size w w' :=
  bin_w32 64951 23 a b w (by decide) kind_64951 (fun x y s t w hx hy hs ht => lane_32_23 x y s t w hx hy hs ht)
theorem bin_32_24 (a b : Vec) (w : World) : Calls Try.prog 22 #[.int .i64 64952, .agg (cells a), .agg (cells b)] w fun e w' => e = .returned (.tuple #[.agg (cells (vb 32 24 a b)), .int .i64 0]) ∧ Below w.heap.size w w' :=
  bin_w32 64952 24 a b w (by decide) kind_64952 (fun x y s t w hx hy hs ht => lane_32_24 x y s t w hx hy hs ht)
theorem bin_32_25 (a b : Vec) (w : World) : Calls Try.prog 22 #[.int .i64 64953, .agg (cells a), .agg (cells b)] w fun e w' => e = .returned (.tuple #[.agg (cells (vb 32 25 a b)), .int .i64 0]) ∧ Below w.heap.size w w' :=
  bin_w32 64953 25 a b w (by decide) kind_64953 (fun x y s t w hx hy hs ht => lane_32_25 x y s t w hx hy hs ht)
theorem bin_64_14 (a b : Vec) (w : World) : Calls Try.prog 22 #[.int .i64 64974, .agg (cells a), .agg (cells b)] w fun e w' => e = .returned (.tuple #[.agg (cells (vb 64 14 a b)), .int .i64 0]) ∧ Below w.heap.size w w' :=
  bin_w64 64974 14 a b w (by decide) kind_64974 (fun x y s t w hx hy hs ht => lane_64_14 x y s t w hx hy hs ht)
theorem bin_64_17 (a b : Vec) (w : World) : Calls Try.prog 22 #[.int .i64 64977, .agg (cells a), .agg (cells b)] w fun e w' => e = .returned (.tuple #[.agg (cells (vb 64 17 a b)), .int .i64 0]) ∧ Below w.heap.size w w' :=
  bin_w64 64977 17 a b w (by decide) kind_64977 (fun x y s t w hx hy hs ht => lane_64_17 x y s t w hx hy hs ht)
theorem bin_64_21 (a b : Vec) (w : World) : Calls Try.prog 22 #[.int .i64 64981, .agg (cells a), .agg (cells b)] w fun e w' => e = .returned (.tuple #[.agg (cells (vb 64 21 a b)), .int .i64 0]) ∧ Below w.heap.size w w' :=
  bin_w64 64981 21 a b w (by decide) kind_64981 (fun x y s t w hx hy hs ht => lane_64_21 x y s t w hx hy hs ht)
theorem same_below {f : FuncId} {args : Array Value} {w : World} {v : Ending} (h : Calls Try.prog f args w fun e w' => e = v ∧ w' = w) : Calls Try.prog f args w fun e w' => e = v ∧ Below w.heap.size w w' :=
  h.mono fun e w' ⟨h1, h2⟩ => ⟨h1, by subst h2; exact Below.refl _ _⟩
theorem heap_z3 (w : World) (A B : Obj) (t : TypeId) : (((w.alloc A).alloc B).alloc (.cells #[.int .u8 0, .int .u8 0, .int .u8 0, .int .u8 0, .int .u8 0, .int .u8 0, .int .u8 0, .int .u8 0, .int .u8 0, .int .u8 0, .int .u8 0, .int .u8 0, .int .u8 0, .int .u8 0, .int .u8 0, .int .u8 0] t)).heap[w.heap.size + 2]? = some (.cells (cells 0) t (0, 0)) := by
  rw [cells_zero]; exact heap_alloc3_2 _ _ _ _
theorem heap_z2 (w : World) (A : Obj) (t : TypeId) : ((w.alloc A).alloc (.cells #[.int .u8 0, .int .u8 0, .int .u8 0, .int .u8 0, .int .u8 0, .int .u8 0, .int .u8 0, .int .u8 0, .int .u8 0, .int .u8 0, .int .u8 0, .int .u8 0, .int .u8 0, .int .u8 0, .int .u8 0, .int .u8 0] t)).heap[w.heap.size + 1]? = some (.cells (cells 0) t (0, 0)) := by
  rw [cells_zero]; exact heap_alloc2_new _ _ _
theorem bin_no (op z k : Int) (a b : Vec) (w : World) (ho : ∀ w, Calls Try.prog 32 #[.int .i64 op] w fun e w' => e = .returned (.tuple #[.int .i64 z, .int .i64 k]) ∧ w' = w) (h : z = 0 ∨ k < 14) :
    Calls Try.prog 22 #[.int .i64 op, .agg (cells a), .agg (cells b)] w fun e w' => e = .returned (.tuple #[.agg (cells 0), .int .i64 1]) ∧ Below w.heap.size w w' := by
  have H := Lib.hid ho
  clear ho
  by_cases hz : z = 0
  · subst hz
    clear h
    go_enter Try.func22, Try.ntmps22
    go_wp2_with (first | (go_at_call 32; refine (H.out _).mono ?_; rintro e w' ⟨rfl, rfl⟩))
    exact bodyPost_ret (results_vec_tmp rfl _ _ (w.heap.size + 2) _ _ rfl rfl (heap_z3 w _ _ _)) rfl ⟨rfl, below_alloc3 _ _ _ _⟩
  · have hk : k < 14 := by rcases h with h | h; exact absurd h hz; exact h
    have t1 : (z == 0) = false := beq_eq_false_iff_ne.2 hz
    clear h hz
    go_enter Try.func22, Try.ntmps22
    go_wp2_with (first | (go_at_call 32; refine (H.out _).mono ?_; rintro e w' ⟨rfl, rfl⟩))
    exact bodyPost_ret (results_vec_tmp rfl _ _ (w.heap.size + 2) _ _ rfl rfl (heap_z3 w _ _ _)) rfl ⟨rfl, below_alloc3 _ _ _ _⟩
theorem un_no (op z k : Int) (a : Vec) (w : World) (ho : ∀ w, Calls Try.prog 32 #[.int .i64 op] w fun e w' => e = .returned (.tuple #[.int .i64 z, .int .i64 k]) ∧ w' = w) (h : z = 0 ∨ 2 < k) :
    Calls Try.prog 23 #[.int .i64 op, .agg (cells a)] w fun e w' => e = .returned (.tuple #[.agg (cells 0), .int .i64 1]) ∧ Below w.heap.size w w' := by
  have H := Lib.hid ho
  clear ho
  by_cases hz : z = 0
  · subst hz
    clear h
    go_enter Try.func23, Try.ntmps23
    go_wp2_with (first | (go_at_call 32; refine (H.out _).mono ?_; rintro e w' ⟨rfl, rfl⟩))
    exact bodyPost_ret (results_vec_tmp rfl _ _ (w.heap.size + 1) _ _ rfl rfl (heap_z2 w _ _)) rfl ⟨rfl, ((Below.refl _ _).alloc (Nat.le_refl _) _).alloc (by simp) _⟩
  · have hk : 2 < k := by rcases h with h | h; exact absurd h hz; exact h
    have t1 : (z == 0) = false := beq_eq_false_iff_ne.2 hz
    clear h hz
    go_enter Try.func23, Try.ntmps23
    go_wp2_with (first | (go_at_call 32; refine (H.out _).mono ?_; rintro e w' ⟨rfl, rfl⟩))
    exact bodyPost_ret (results_vec_tmp rfl _ _ (w.heap.size + 1) _ _ rfl rfl (heap_z2 w _ _)) rfl ⟨rfl, ((Below.refl _ _).alloc (Nat.le_refl _) _).alloc (by simp) _⟩
theorem sh_no (op z k : Int) (a : Vec) (n : Int) (w : World) (ho : ∀ w, Calls Try.prog 32 #[.int .i64 op] w fun e w' => e = .returned (.tuple #[.int .i64 z, .int .i64 k]) ∧ w' = w) (h : z = 0 ∨ k < 11 ∨ 13 < k) :
    Calls Try.prog 14 #[.int .i64 op, .agg (cells a), .int .u32 n] w fun e w' => e = .returned (.tuple #[.agg (cells 0), .int .i64 1]) ∧ Below w.heap.size w w' := by
  have H := Lib.hid ho
  clear ho
  by_cases hz : z = 0
  · subst hz
    clear h
    go_enter Try.func14, Try.ntmps14
    go_wp2_with (first | (go_at_call 32; refine (H.out _).mono ?_; rintro e w' ⟨rfl, rfl⟩))
    exact bodyPost_ret (results_vec_tmp rfl _ _ (w.heap.size + 1) _ _ rfl rfl (heap_z2 w _ _)) rfl ⟨rfl, ((Below.refl _ _).alloc (Nat.le_refl _) _).alloc (by simp) _⟩
  · have t1 : (z == 0) = false := beq_eq_false_iff_ne.2 hz
    rcases (show k < 11 ∨ 13 < k by rcases h with h | h; exact absurd h hz; exact h) with hk | hk
    all_goals
      clear h hz
      go_enter Try.func14, Try.ntmps14
      go_wp2_with (first | (go_at_call 32; refine (H.out _).mono ?_; rintro e w' ⟨rfl, rfl⟩))
      exact bodyPost_ret (results_vec_tmp rfl _ _ (w.heap.size + 1) _ _ rfl rfl (heap_z2 w _ _)) rfl ⟨rfl, ((Below.refl _ _).alloc (Nat.le_refl _) _).alloc (by simp) _⟩
theorem width_any (op z k : Int) (w : World) (ho : ∀ w, Calls Try.prog 32 #[.int .i64 op] w fun e w' => e = .returned (.tuple #[.int .i64 z, .int .i64 k]) ∧ w' = w) :
    Calls Try.prog 21 #[.int .i64 op] w fun e w' => e = .returned (.int .i64 z) ∧ w' = w := by
  have H := Lib.hid ho
  clear ho
  go_enter Try.func21, Try.ntmps21
  go_wp2_with (first | (go_at_call 32; refine (H.out _).mono ?_; rintro e w' ⟨rfl, rfl⟩))
  go_ret
  exact ⟨rfl, rfl⟩


set_option maxRecDepth 100000 in
set_option maxHeartbeats 1000000 in
theorem two_any (wd off bs op er : Int) (a b X : Vec) (w : World) (hb : ∀ w, Calls Try.prog 25 #[.int .i64 wd] w fun e w' => e = .returned (.int .i64 bs) ∧ w' = w) (ho : IntKind.i64.wrap (bs + off) = op)
    (hB : ∀ w, Calls Try.prog 22 #[.int .i64 op, .agg (cells a), .agg (cells b)] w fun e w' => e = .returned (.tuple #[.agg (cells X), .int .i64 er]) ∧ Below w.heap.size w w') :
    Calls Try.prog 19 #[.int .i64 wd, .int .i64 off, .agg (cells a), .agg (cells b)] w fun e w' => e = .returned (.agg (cells X)) ∧ Below w.heap.size w w' := by
  have HC := Lib.hid hb
  have HB := Lib.hid hB
  clear hb hB
  go_enter Try.func19, Try.ntmps19
  go_wp2_with fail
  have hN := N1.start (l := [(w.heap.size, a), (w.heap.size + 1, b), (w.heap.size + 2, 0)]) X (below_alloc3 w (.cells (cells a) 23) (.cells (cells b) 23) (.cells (cells 0) 23)) (by
    simp only [List.mem_cons, List.not_mem_nil, or_false, forall_eq_or_imp, forall_eq]
    exact ⟨heap_alloc3_0 _ _ _ _, heap_alloc3_1 _ _ _ _, heap_alloc3_2 _ _ _ _⟩)
  rw [cells_zero] at hN
  refine region_new1 w [(w.heap.size, a), (w.heap.size + 1, b), (w.heap.size + 2, 0)] X 12 10 11 [0, 1, 2, 3, 4, 5, 6, 7, 8, 9] (by kernel_rfl) rfl rfl rfl rfl rfl _ _ rfl rfl hN.drew ?_
  simp only [opsAt, List.getElem?_cons_zero, List.getElem?_cons_succ, List.drop_succ_cons, List.drop_zero]
  (refine wpDA_pure (v := ?_) rfl (fun u => ?_) ?_; rotate_left; (focus (go_simp; (try with_reducible rfl); done)); simp only [Act.put, List.setIfInBounds_toArray, List.set_cons_zero, List.set_cons_succ])
  (refine wpDA_call (v := .int .i64 bs) rfl 25 ?_ (fun u => ?_) (fun D u hS => ?_) ?_; rotate_left 1; (focus (go_simp; (try with_reducible rfl); done)); (focus (refine (same_below (HC.out _)).mono ?_; rintro e u2 ⟨rfl, hb⟩; exact ⟨rfl, hS.below hb⟩)); simp only [Act.put, List.setIfInBounds_toArray, List.set_cons_zero, List.set_cons_succ])
  repeat (first | (refine wpDA_pure (v := ?_) rfl (fun u => ?_) ?_; rotate_left; (focus (go_simp; (try with_reducible rfl); done)); simp only [Act.put, List.setIfInBounds_toArray, List.set_cons_zero, List.set_cons_succ]) | (refine do_loadA rfl _ rfl _ rfl _ (fun D u hS => hS.hold (w.heap.size, a) (by simp)) ?_; simp only [Act.put, List.setIfInBounds_toArray, List.set_cons_zero, List.set_cons_succ]) | (refine do_loadA rfl _ rfl _ rfl _ (fun D u hS => hS.hold (w.heap.size + 1, b) (by simp)) ?_; simp only [Act.put, List.setIfInBounds_toArray, List.set_cons_zero, List.set_cons_succ]))
  (refine wpDA_call (v := .tuple #[.agg (cells X), .int .i64 er]) rfl 22 ?_ (fun u => ?_) (fun D u hS => ?_) ?_; rotate_left 1; (focus (go_simp; (try with_reducible rfl); done)); (focus (refine (HB.out _).mono ?_; rintro e u2 ⟨rfl, hb⟩; exact ⟨rfl, hS.below hb⟩)); simp only [Act.put, List.setIfInBounds_toArray, List.set_cons_zero, List.set_cons_succ])
  repeat (refine wpDA_pure (v := ?_) rfl (fun u => ?_) ?_; rotate_left; (focus (go_simp; (try with_reducible rfl); done)); simp only [Act.put, List.setIfInBounds_toArray, List.set_cons_zero, List.set_cons_succ])
  refine wpDA_nil (fun x => ⟨rfl, rfl, fun wx hx => ?_⟩)
  clear hN
  have hq := hx.new x true rfl
  have hA : wx.heap[x]? = some (.cells (cells X) 23 (0, 0)) := hq.1
  have hR2 := hx.hold (w.heap.size + 2, 0) (by simp)
  have hZ2 := hx.bel
  clear hx hq
  unfold ptr
  simp only [Act.put, List.setIfInBounds_toArray, List.set_cons_zero, List.set_cons_succ]
  rw [show w.heap.size + 1 + 1 = w.heap.size + 2 from rfl]
  go_wp2_with (first | (with_reducible refine load_vec rfl _ rfl _ rfl _ hA ?_) | (with_reducible refine store_vec rfl _ _ rfl (w.heap.size + 2) _ rfl rfl _ hR2 ?_; intro wq hq3))
  exact bodyPost_ret (results_cell_row rfl _ _ (w.heap.size + 2) _ _ _ _ rfl hq3.this vunder rfl (vsize _)) rfl ⟨rfl, hZ2.trans (hq3.below.mono (by omega))⟩
theorem one_any (wd off bs op er : Int) (a X : Vec) (w : World) (hb : ∀ w, Calls Try.prog 25 #[.int .i64 wd] w fun e w' => e = .returned (.int .i64 bs) ∧ w' = w) (ho : IntKind.i64.wrap (bs + off) = op)
    (hB : ∀ w, Calls Try.prog 23 #[.int .i64 op, .agg (cells a)] w fun e w' => e = .returned (.tuple #[.agg (cells X), .int .i64 er]) ∧ Below w.heap.size w w') :
    Calls Try.prog 20 #[.int .i64 wd, .int .i64 off, .agg (cells a)] w fun e w' => e = .returned (.agg (cells X)) ∧ Below w.heap.size w w' := by
  have HC := Lib.hid hb
  have HB := Lib.hid hB
  clear hb hB
  go_enter Try.func20, Try.ntmps20
  go_wp2_with fail
  have hN := N1.start (w0 := w) (u := (w.alloc (.cells (cells a) 23)).alloc (.cells (cells 0) 23)) (l := [(w.heap.size, a), (w.heap.size + 1, 0)]) X (((Below.refl _ _).alloc (Nat.le_refl _) _).alloc (by simp) _) (by
    simp only [List.mem_cons, List.not_mem_nil, or_false, forall_eq_or_imp, forall_eq]
    exact ⟨heap_alloc2_old _ _ _, heap_alloc2_new _ _ _⟩)
  rw [cells_zero] at hN
  refine region_new1 w [(w.heap.size, a), (w.heap.size + 1, 0)] X 11 9 10 [0, 1, 2, 3, 4, 5, 6, 7, 8] (by kernel_rfl) rfl rfl rfl rfl rfl _ _ rfl rfl hN.drew ?_
  simp only [opsAt, List.getElem?_cons_zero, List.getElem?_cons_succ, List.drop_succ_cons, List.drop_zero]
  (refine wpDA_pure (v := ?_) rfl (fun u => ?_) ?_; rotate_left; (focus (go_simp; (try with_reducible rfl); done)); simp only [Act.put, List.setIfInBounds_toArray, List.set_cons_zero, List.set_cons_succ])
  (refine wpDA_call (v := .int .i64 bs) rfl 25 ?_ (fun u => ?_) (fun D u hS => ?_) ?_; rotate_left 1; (focus (go_simp; (try with_reducible rfl); done)); (focus (refine (same_below (HC.out _)).mono ?_; rintro e u2 ⟨rfl, hb⟩; exact ⟨rfl, hS.below hb⟩)); simp only [Act.put, List.setIfInBounds_toArray, List.set_cons_zero, List.set_cons_succ])
  repeat (first | (refine wpDA_pure (v := ?_) rfl (fun u => ?_) ?_; rotate_left; (focus (go_simp; (try with_reducible rfl); done)); simp only [Act.put, List.setIfInBounds_toArray, List.set_cons_zero, List.set_cons_succ]) | (refine do_loadA rfl _ rfl _ rfl _ (fun D u hS => hS.hold (w.heap.size, a) (by simp)) ?_; simp only [Act.put, List.setIfInBounds_toArray, List.set_cons_zero, List.set_cons_succ]))
  (refine wpDA_call (v := .tuple #[.agg (cells X), .int .i64 er]) rfl 23 ?_ (fun u => ?_) (fun D u hS => ?_) ?_; rotate_left 1; (focus (go_simp; (try with_reducible rfl); done)); (focus (refine (HB.out _).mono ?_; rintro e u2 ⟨rfl, hb⟩; exact ⟨rfl, hS.below hb⟩)); simp only [Act.put, List.setIfInBounds_toArray, List.set_cons_zero, List.set_cons_succ])
  repeat (refine wpDA_pure (v := ?_) rfl (fun u => ?_) ?_; rotate_left; (focus (go_simp; (try with_reducible rfl); done)); simp only [Act.put, List.setIfInBounds_toArray, List.set_cons_zero, List.set_cons_succ])
  refine wpDA_nil (fun x => ⟨rfl, rfl, fun wx hx => ?_⟩)
  clear hN
  have hq := hx.new x true rfl
  have hA : wx.heap[x]? = some (.cells (cells X) 23 (0, 0)) := hq.1
  have hR2 := hx.hold (w.heap.size + 1, 0) (by simp)
  have hZ2 := hx.bel
  clear hx hq
  unfold ptr
  simp only [Act.put, List.setIfInBounds_toArray, List.set_cons_zero, List.set_cons_succ]
  skip
  go_wp2_with (first | (with_reducible refine load_vec rfl _ rfl _ rfl _ hA ?_) | (with_reducible refine store_vec rfl _ _ rfl (w.heap.size + 1) _ rfl rfl _ hR2 ?_; intro wq hq3))
  exact bodyPost_ret (results_cell_row rfl _ _ (w.heap.size + 1) _ _ _ _ rfl hq3.this vunder rfl (vsize _)) rfl ⟨rfl, hZ2.trans (hq3.below.mono (by omega))⟩

theorem base8 (w : World) : Calls Try.prog 25 #[.int .i64 8] w fun e w' => e = .returned (.int .i64 64864) ∧ w' = w := by
  go_enter Try.func25, Try.ntmps25
  go_wp2
  refine wp_loop_rounds 1 ?_
  iterate 1 (rw [rounds_succ]; go_wp2)
  go_ret
  exact ⟨rfl, rfl⟩

theorem two_8_14 (a b : Vec) (w : World) : Calls Try.prog 19 #[.int .i64 8, .int .i64 14, .agg (cells a), .agg (cells b)] w fun e w' => e = .returned (.agg (cells (vb 8 14 a b))) ∧ Below w.heap.size w w' :=
  two_any 8 14 64864 64878 0 a b _ w base8 (IntWalk.i64_in _ (by decide)) (bin_8_14 a b)
theorem two_8_15 (a b : Vec) (w : World) : Calls Try.prog 19 #[.int .i64 8, .int .i64 15, .agg (cells a), .agg (cells b)] w fun e w' => e = .returned (.agg (cells (vb 8 15 a b))) ∧ Below w.heap.size w w' :=
  two_any 8 15 64864 64879 0 a b _ w base8 (IntWalk.i64_in _ (by decide)) (bin_8_15 a b)
theorem two_8_16 (a b : Vec) (w : World) : Calls Try.prog 19 #[.int .i64 8, .int .i64 16, .agg (cells a), .agg (cells b)] w fun e w' => e = .returned (.agg (cells (vb 8 16 a b))) ∧ Below w.heap.size w w' :=
  two_any 8 16 64864 64880 0 a b _ w base8 (IntWalk.i64_in _ (by decide)) (bin_8_16 a b)
theorem two_8_17 (a b : Vec) (w : World) : Calls Try.prog 19 #[.int .i64 8, .int .i64 17, .agg (cells a), .agg (cells b)] w fun e w' => e = .returned (.agg (cells (vb 8 17 a b))) ∧ Below w.heap.size w w' :=
  two_any 8 17 64864 64881 0 a b _ w base8 (IntWalk.i64_in _ (by decide)) (bin_8_17 a b)
theorem two_8_18 (a b : Vec) (w : World) : Calls Try.prog 19 #[.int .i64 8, .int .i64 18, .agg (cells a), .agg (cells b)] w fun e w' => e = .returned (.agg (cells (vb 8 18 a b))) ∧ Below w.heap.size w w' :=
  two_any 8 18 64864 64882 0 a b _ w base8 (IntWalk.i64_in _ (by decide)) (bin_8_18 a b)
theorem two_8_19 (a b : Vec) (w : World) : Calls Try.prog 19 #[.int .i64 8, .int .i64 19, .agg (cells a), .agg (cells b)] w fun e w' => e = .returned (.agg (cells (vb 8 19 a b))) ∧ Below w.heap.size w w' :=
  two_any 8 19 64864 64883 0 a b _ w base8 (IntWalk.i64_in _ (by decide)) (bin_8_19 a b)
theorem two_8_22 (a b : Vec) (w : World) : Calls Try.prog 19 #[.int .i64 8, .int .i64 22, .agg (cells a), .agg (cells b)] w fun e w' => e = .returned (.agg (cells (vb 8 22 a b))) ∧ Below w.heap.size w w' :=
  two_any 8 22 64864 64886 0 a b _ w base8 (IntWalk.i64_in _ (by decide)) (bin_8_22 a b)
theorem two_8_23 (a b : Vec) (w : World) : Calls Try.prog 19 #[.int .i64 8, .int .i64 23, .agg (cells a), .agg (cells b)] w fun e w' => e = .returned (.agg (cells (vb 8 23 a b))) ∧ Below w.heap.size w w' :=
  two_any 8 23 64864 64887 0 a b _ w base8 (IntWalk.i64_in _ (by decide)) (bin_8_23 a b)
theorem two_8_24 (a b : Vec) (w : World) : Calls Try.prog 19 #[.int .i64 8, .int .i64 24, .agg (cells a), .agg (cells b)] w fun e w' => e = .returned (.agg (cells (vb 8 24 a b))) ∧ Below w.heap.size w w' :=
  two_any 8 24 64864 64888 0 a b _ w base8 (IntWalk.i64_in _ (by decide)) (bin_8_24 a b)
theorem two_8_25 (a b : Vec) (w : World) : Calls Try.prog 19 #[.int .i64 8, .int .i64 25, .agg (cells a), .agg (cells b)] w fun e w' => e = .returned (.agg (cells (vb 8 25 a b))) ∧ Below w.heap.size w w' :=
  two_any 8 25 64864 64889 0 a b _ w base8 (IntWalk.i64_in _ (by decide)) (bin_8_25 a b)
theorem two_8_27 (a b : Vec) (w : World) : Calls Try.prog 19 #[.int .i64 8, .int .i64 27, .agg (cells a), .agg (cells b)] w fun e w' => e = .returned (.agg (cells (vb 8 27 a b))) ∧ Below w.heap.size w w' :=
  two_any 8 27 64864 64891 0 a b _ w base8 (IntWalk.i64_in _ (by decide)) (bin_8_27 a b)
theorem one_8_0 (a : Vec) (w : World) : Calls Try.prog 20 #[.int .i64 8, .int .i64 0, .agg (cells a)] w fun e w' => e = .returned (.agg (cells (vu 8 0 a))) ∧ Below w.heap.size w w' :=
  one_any 8 0 64864 64864 0 a _ w base8 (IntWalk.i64_in _ (by decide)) (un_8_0 a)
theorem one_8_1 (a : Vec) (w : World) : Calls Try.prog 20 #[.int .i64 8, .int .i64 1, .agg (cells a)] w fun e w' => e = .returned (.agg (cells (vu 8 1 a))) ∧ Below w.heap.size w w' :=
  one_any 8 1 64864 64865 0 a _ w base8 (IntWalk.i64_in _ (by decide)) (un_8_1 a)
theorem base16 (w : World) : Calls Try.prog 25 #[.int .i64 16] w fun e w' => e = .returned (.int .i64 64896) ∧ w' = w := by
  go_enter Try.func25, Try.ntmps25
  go_wp2
  refine wp_loop_rounds 2 ?_
  iterate 2 (rw [rounds_succ]; go_wp2)
  go_ret
  exact ⟨rfl, rfl⟩

theorem two_16_14 (a b : Vec) (w : World) : Calls Try.prog 19 #[.int .i64 16, .int .i64 14, .agg (cells a), .agg (cells b)] w fun e w' => e = .returned (.agg (cells (vb 16 14 a b))) ∧ Below w.heap.size w w' :=
  two_any 16 14 64896 64910 0 a b _ w base16 (IntWalk.i64_in _ (by decide)) (bin_16_14 a b)
theorem two_16_15 (a b : Vec) (w : World) : Calls Try.prog 19 #[.int .i64 16, .int .i64 15, .agg (cells a), .agg (cells b)] w fun e w' => e = .returned (.agg (cells (vb 16 15 a b))) ∧ Below w.heap.size w w' :=
  two_any 16 15 64896 64911 0 a b _ w base16 (IntWalk.i64_in _ (by decide)) (bin_16_15 a b)
theorem two_16_16 (a b : Vec) (w : World) : Calls Try.prog 19 #[.int .i64 16, .int .i64 16, .agg (cells a), .agg (cells b)] w fun e w' => e = .returned (.agg (cells (vb 16 16 a b))) ∧ Below w.heap.size w w' :=
  two_any 16 16 64896 64912 0 a b _ w base16 (IntWalk.i64_in _ (by decide)) (bin_16_16 a b)
theorem two_16_17 (a b : Vec) (w : World) : Calls Try.prog 19 #[.int .i64 16, .int .i64 17, .agg (cells a), .agg (cells b)] w fun e w' => e = .returned (.agg (cells (vb 16 17 a b))) ∧ Below w.heap.size w w' :=
  two_any 16 17 64896 64913 0 a b _ w base16 (IntWalk.i64_in _ (by decide)) (bin_16_17 a b)
theorem two_16_18 (a b : Vec) (w : World) : Calls Try.prog 19 #[.int .i64 16, .int .i64 18, .agg (cells a), .agg (cells b)] w fun e w' => e = .returned (.agg (cells (vb 16 18 a b))) ∧ Below w.heap.size w w' :=
  two_any 16 18 64896 64914 0 a b _ w base16 (IntWalk.i64_in _ (by decide)) (bin_16_18 a b)
theorem two_16_19 (a b : Vec) (w : World) : Calls Try.prog 19 #[.int .i64 16, .int .i64 19, .agg (cells a), .agg (cells b)] w fun e w' => e = .returned (.agg (cells (vb 16 19 a b))) ∧ Below w.heap.size w w' :=
  two_any 16 19 64896 64915 0 a b _ w base16 (IntWalk.i64_in _ (by decide)) (bin_16_19 a b)
theorem two_16_21 (a b : Vec) (w : World) : Calls Try.prog 19 #[.int .i64 16, .int .i64 21, .agg (cells a), .agg (cells b)] w fun e w' => e = .returned (.agg (cells (vb 16 21 a b))) ∧ Below w.heap.size w w' :=
  two_any 16 21 64896 64917 0 a b _ w base16 (IntWalk.i64_in _ (by decide)) (bin_16_21 a b)
theorem two_16_22 (a b : Vec) (w : World) : Calls Try.prog 19 #[.int .i64 16, .int .i64 22, .agg (cells a), .agg (cells b)] w fun e w' => e = .returned (.agg (cells (vb 16 22 a b))) ∧ Below w.heap.size w w' :=
  two_any 16 22 64896 64918 0 a b _ w base16 (IntWalk.i64_in _ (by decide)) (bin_16_22 a b)
theorem two_16_23 (a b : Vec) (w : World) : Calls Try.prog 19 #[.int .i64 16, .int .i64 23, .agg (cells a), .agg (cells b)] w fun e w' => e = .returned (.agg (cells (vb 16 23 a b))) ∧ Below w.heap.size w w' :=
  two_any 16 23 64896 64919 0 a b _ w base16 (IntWalk.i64_in _ (by decide)) (bin_16_23 a b)
theorem two_16_24 (a b : Vec) (w : World) : Calls Try.prog 19 #[.int .i64 16, .int .i64 24, .agg (cells a), .agg (cells b)] w fun e w' => e = .returned (.agg (cells (vb 16 24 a b))) ∧ Below w.heap.size w w' :=
  two_any 16 24 64896 64920 0 a b _ w base16 (IntWalk.i64_in _ (by decide)) (bin_16_24 a b)
theorem two_16_25 (a b : Vec) (w : World) : Calls Try.prog 19 #[.int .i64 16, .int .i64 25, .agg (cells a), .agg (cells b)] w fun e w' => e = .returned (.agg (cells (vb 16 25 a b))) ∧ Below w.heap.size w w' :=
  two_any 16 25 64896 64921 0 a b _ w base16 (IntWalk.i64_in _ (by decide)) (bin_16_25 a b)
theorem two_16_27 (a b : Vec) (w : World) : Calls Try.prog 19 #[.int .i64 16, .int .i64 27, .agg (cells a), .agg (cells b)] w fun e w' => e = .returned (.agg (cells (vb 16 27 a b))) ∧ Below w.heap.size w w' :=
  two_any 16 27 64896 64923 0 a b _ w base16 (IntWalk.i64_in _ (by decide)) (bin_16_27 a b)
theorem one_16_0 (a : Vec) (w : World) : Calls Try.prog 20 #[.int .i64 16, .int .i64 0, .agg (cells a)] w fun e w' => e = .returned (.agg (cells (vu 16 0 a))) ∧ Below w.heap.size w w' :=
  one_any 16 0 64896 64896 0 a _ w base16 (IntWalk.i64_in _ (by decide)) (un_16_0 a)
theorem one_16_1 (a : Vec) (w : World) : Calls Try.prog 20 #[.int .i64 16, .int .i64 1, .agg (cells a)] w fun e w' => e = .returned (.agg (cells (vu 16 1 a))) ∧ Below w.heap.size w w' :=
  one_any 16 1 64896 64897 0 a _ w base16 (IntWalk.i64_in _ (by decide)) (un_16_1 a)
theorem base32 (w : World) : Calls Try.prog 25 #[.int .i64 32] w fun e w' => e = .returned (.int .i64 64928) ∧ w' = w := by
  go_enter Try.func25, Try.ntmps25
  go_wp2
  refine wp_loop_rounds 3 ?_
  iterate 3 (rw [rounds_succ]; go_wp2)
  go_ret
  exact ⟨rfl, rfl⟩

theorem two_32_14 (a b : Vec) (w : World) : Calls Try.prog 19 #[.int .i64 32, .int .i64 14, .agg (cells a), .agg (cells b)] w fun e w' => e = .returned (.agg (cells (vb 32 14 a b))) ∧ Below w.heap.size w w' :=
  two_any 32 14 64928 64942 0 a b _ w base32 (IntWalk.i64_in _ (by decide)) (bin_32_14 a b)
theorem two_32_17 (a b : Vec) (w : World) : Calls Try.prog 19 #[.int .i64 32, .int .i64 17, .agg (cells a), .agg (cells b)] w fun e w' => e = .returned (.agg (cells (vb 32 17 a b))) ∧ Below w.heap.size w w' :=
  two_any 32 17 64928 64945 0 a b _ w base32 (IntWalk.i64_in _ (by decide)) (bin_32_17 a b)
theorem two_32_21 (a b : Vec) (w : World) : Calls Try.prog 19 #[.int .i64 32, .int .i64 21, .agg (cells a), .agg (cells b)] w fun e w' => e = .returned (.agg (cells (vb 32 21 a b))) ∧ Below w.heap.size w w' :=
  two_any 32 21 64928 64949 0 a b _ w base32 (IntWalk.i64_in _ (by decide)) (bin_32_21 a b)
theorem two_32_22 (a b : Vec) (w : World) : Calls Try.prog 19 #[.int .i64 32, .int .i64 22, .agg (cells a), .agg (cells b)] w fun e w' => e = .returned (.agg (cells (vb 32 22 a b))) ∧ Below w.heap.size w w' :=
  two_any 32 22 64928 64950 0 a b _ w base32 (IntWalk.i64_in _ (by decide)) (bin_32_22 a b)
theorem two_32_23 (a b : Vec) (w : World) : Calls Try.prog 19 #[.int .i64 32, .int .i64 23, .agg (cells a), .agg (cells b)] w fun e w' => e = .returned (.agg (cells (vb 32 23 a b))) ∧ Below w.heap.size w w' :=
  two_any 32 23 64928 64951 0 a b _ w base32 (IntWalk.i64_in _ (by decide)) (bin_32_23 a b)
theorem two_32_24 (a b : Vec) (w : World) : Calls Try.prog 19 #[.int .i64 32, .int .i64 24, .agg (cells a), .agg (cells b)] w fun e w' => e = .returned (.agg (cells (vb 32 24 a b))) ∧ Below w.heap.size w w' :=
  two_any 32 24 64928 64952 0 a b _ w base32 (IntWalk.i64_in _ (by decide)) (bin_32_24 a b)
theorem two_32_25 (a b : Vec) (w : World) : Calls Try.prog 19 #[.int .i64 32, .int .i64 25, .agg (cells a), .agg (cells b)] w fun e w' => e = .returned (.agg (cells (vb 32 25 a b))) ∧ Below w.heap.size w w' :=
  two_any 32 25 64928 64953 0 a b _ w base32 (IntWalk.i64_in _ (by decide)) (bin_32_25 a b)
theorem one_32_0 (a : Vec) (w : World) : Calls Try.prog 20 #[.int .i64 32, .int .i64 0, .agg (cells a)] w fun e w' => e = .returned (.agg (cells (vu 32 0 a))) ∧ Below w.heap.size w w' :=
  one_any 32 0 64928 64928 0 a _ w base32 (IntWalk.i64_in _ (by decide)) (un_32_0 a)
theorem one_32_1 (a : Vec) (w : World) : Calls Try.prog 20 #[.int .i64 32, .int .i64 1, .agg (cells a)] w fun e w' => e = .returned (.agg (cells (vu 32 1 a))) ∧ Below w.heap.size w w' :=
  one_any 32 1 64928 64929 0 a _ w base32 (IntWalk.i64_in _ (by decide)) (un_32_1 a)
theorem base64 (w : World) : Calls Try.prog 25 #[.int .i64 64] w fun e w' => e = .returned (.int .i64 64960) ∧ w' = w := by
  go_enter Try.func25, Try.ntmps25
  go_wp2
  refine wp_loop_rounds 4 ?_
  iterate 4 (rw [rounds_succ]; go_wp2)
  go_ret
  exact ⟨rfl, rfl⟩

theorem two_64_14 (a b : Vec) (w : World) : Calls Try.prog 19 #[.int .i64 64, .int .i64 14, .agg (cells a), .agg (cells b)] w fun e w' => e = .returned (.agg (cells (vb 64 14 a b))) ∧ Below w.heap.size w w' :=
  two_any 64 14 64960 64974 0 a b _ w base64 (IntWalk.i64_in _ (by decide)) (bin_64_14 a b)
theorem two_64_17 (a b : Vec) (w : World) : Calls Try.prog 19 #[.int .i64 64, .int .i64 17, .agg (cells a), .agg (cells b)] w fun e w' => e = .returned (.agg (cells (vb 64 17 a b))) ∧ Below w.heap.size w w' :=
  two_any 64 17 64960 64977 0 a b _ w base64 (IntWalk.i64_in _ (by decide)) (bin_64_17 a b)
theorem two_64_21 (a b : Vec) (w : World) : Calls Try.prog 19 #[.int .i64 64, .int .i64 21, .agg (cells a), .agg (cells b)] w fun e w' => e = .returned (.agg (cells (vb 64 21 a b))) ∧ Below w.heap.size w w' :=
  two_any 64 21 64960 64981 0 a b _ w base64 (IntWalk.i64_in _ (by decide)) (bin_64_21 a b)
theorem one_64_0 (a : Vec) (w : World) : Calls Try.prog 20 #[.int .i64 64, .int .i64 0, .agg (cells a)] w fun e w' => e = .returned (.agg (cells (vu 64 0 a))) ∧ Below w.heap.size w w' :=
  one_any 64 0 64960 64960 0 a _ w base64 (IntWalk.i64_in _ (by decide)) (un_64_0 a)
theorem one_64_1 (a : Vec) (w : World) : Calls Try.prog 20 #[.int .i64 64, .int .i64 1, .agg (cells a)] w fun e w' => e = .returned (.agg (cells (vu 64 1 a))) ∧ Below w.heap.size w w' :=
  one_any 64 1 64960 64961 0 a _ w base64 (IntWalk.i64_in _ (by decide)) (un_64_1 a)
end Go.Proofs.Ytgemlndpmbeaeaa
