/-
  Contracts of the functions of package widen.
-/
import Derived.Test.YtcpfabkokgiepaaPair
import Derived.Test.YtcpfabkokgiepaaWideSpec
set_option linter.unusedSimpArgs false
set_option linter.unusedVariables false
namespace Go.Proofs.Ytcpfabkokgiepaa
open Go.RowKit Pl


theorem ext8 (v : Vec) (k i : Nat) (j : Int) (w : World) (hj : j = i) (hk : k < 4) (hi : i < 8) :
    Calls Try.prog 56 #[.agg (cells v), .int .i64 8, .int .i64 k, .int .i64 j] w fun e w' => e = .returned (.int .u64 (extN v 8 k i : Nat)) ∧ Below w.heap.size w w' := by
  subst hj
  have hi' : (i : Int) < 8 := by omega
  have hk4 : k = 0 ∨ k = 1 ∨ k = 2 ∨ k = 3 := by omega
  rcases hk4 with rfl | rfl | rfl | rfl
  · go_enter Try.func56, Try.ntmps56
    go_wp2_with (first | (with_reducible refine load_vec rfl _ rfl _ rfl v (heap_alloc_new _ _) ?_) | (go_at_call 53; refine (signed8z v _ i _ (by omega) (by omega)).mono ?_; rintro e w' ⟨rfl, hb⟩))
    go_ret
    exact ⟨ret_u64z (by rw [wrap_u64]; rfl), ((Below.refl _ _).alloc (Nat.le_refl _) _).trans (hb.mono (by simp))⟩
  · go_enter Try.func56, Try.ntmps56
    go_wp2_with (first | (with_reducible refine load_vec rfl _ rfl _ rfl v (heap_alloc_new _ _) ?_) | (go_at_call 53; refine (signed8z v _ (i + 8) _ (by omega) (by omega)).mono ?_; rintro e w' ⟨rfl, hb⟩))
    go_ret
    exact ⟨ret_u64z (by rw [wrap_u64]; rfl), ((Below.refl _ _).alloc (Nat.le_refl _) _).trans (hb.mono (by simp))⟩
  · go_enter Try.func56, Try.ntmps56
    go_wp2_with (first | (with_reducible refine load_vec rfl _ rfl _ rfl v (heap_alloc_new _ _) ?_) | (go_at_call 51; refine (get8z v _ i _ (by omega) (by omega)).mono ?_; rintro e w' ⟨rfl, hb⟩))
    go_ret
    exact ⟨rfl, ((Below.refl _ _).alloc (Nat.le_refl _) _).trans (hb.mono (by simp))⟩
  · go_enter Try.func56, Try.ntmps56
    go_wp2_with (first | (with_reducible refine load_vec rfl _ rfl _ rfl v (heap_alloc_new _ _) ?_) | (go_at_call 51; refine (get8z v _ (i + 8) _ (by omega) (by omega)).mono ?_; rintro e w' ⟨rfl, hb⟩))
    go_ret
    exact ⟨rfl, ((Below.refl _ _).alloc (Nat.le_refl _) _).trans (hb.mono (by simp))⟩


theorem ext16 (v : Vec) (k i : Nat) (j : Int) (w : World) (hj : j = i) (hk : k < 4) (hi : i < 4) :
    Calls Try.prog 56 #[.agg (cells v), .int .i64 16, .int .i64 k, .int .i64 j] w fun e w' => e = .returned (.int .u64 (extN v 16 k i : Nat)) ∧ Below w.heap.size w w' := by
  subst hj
  have hi' : (i : Int) < 4 := by omega
  have hk4 : k = 0 ∨ k = 1 ∨ k = 2 ∨ k = 3 := by omega
  rcases hk4 with rfl | rfl | rfl | rfl
  · go_enter Try.func56, Try.ntmps56
    go_wp2_with (first | (with_reducible refine load_vec rfl _ rfl _ rfl v (heap_alloc_new _ _) ?_) | (go_at_call 53; refine (signed16z v _ i _ (by omega) (by omega)).mono ?_; rintro e w' ⟨rfl, hb⟩))
    go_ret
    exact ⟨ret_u64z (by rw [wrap_u64]; rfl), ((Below.refl _ _).alloc (Nat.le_refl _) _).trans (hb.mono (by simp))⟩
  · go_enter Try.func56, Try.ntmps56
    go_wp2_with (first | (with_reducible refine load_vec rfl _ rfl _ rfl v (heap_alloc_new _ _) ?_) | (go_at_call 53; refine (signed16z v _ (i + 4) _ (by omega) (by omega)).mono ?_; rintro e w' ⟨rfl, hb⟩))
    go_ret
    exact ⟨ret_u64z (by rw [wrap_u64]; rfl), ((Below.refl _ _).alloc (Nat.le_refl _) _).trans (hb.mono (by simp))⟩
  · go_enter Try.func56, Try.ntmps56
    go_wp2_with (first | (with_reducible refine load_vec rfl _ rfl _ rfl v (heap_alloc_new _ _) ?_) | (go_at_call 51; refine (get16z v _ i _ (by omega) (by omega)).mono ?_; rintro e w' ⟨rfl, hb⟩))
    go_ret
    exact ⟨rfl, ((Below.refl _ _).alloc (Nat.le_refl _) _).trans (hb.mono (by simp))⟩
  · go_enter Try.func56, Try.ntmps56
    go_wp2_with (first | (with_reducible refine load_vec rfl _ rfl _ rfl v (heap_alloc_new _ _) ?_) | (go_at_call 51; refine (get16z v _ (i + 4) _ (by omega) (by omega)).mono ?_; rintro e w' ⟨rfl, hb⟩))
    go_ret
    exact ⟨rfl, ((Below.refl _ _).alloc (Nat.le_refl _) _).trans (hb.mono (by simp))⟩


theorem ext32 (v : Vec) (k i : Nat) (j : Int) (w : World) (hj : j = i) (hk : k < 4) (hi : i < 2) :
    Calls Try.prog 56 #[.agg (cells v), .int .i64 32, .int .i64 k, .int .i64 j] w fun e w' => e = .returned (.int .u64 (extN v 32 k i : Nat)) ∧ Below w.heap.size w w' := by
  subst hj
  have hi' : (i : Int) < 2 := by omega
  have hk4 : k = 0 ∨ k = 1 ∨ k = 2 ∨ k = 3 := by omega
  rcases hk4 with rfl | rfl | rfl | rfl
  · go_enter Try.func56, Try.ntmps56
    go_wp2_with (first | (with_reducible refine load_vec rfl _ rfl _ rfl v (heap_alloc_new _ _) ?_) | (go_at_call 53; refine (signed32z v _ i _ (by omega) (by omega)).mono ?_; rintro e w' ⟨rfl, hb⟩))
    go_ret
    exact ⟨ret_u64z (by rw [wrap_u64]; rfl), ((Below.refl _ _).alloc (Nat.le_refl _) _).trans (hb.mono (by simp))⟩
  · go_enter Try.func56, Try.ntmps56
    go_wp2_with (first | (with_reducible refine load_vec rfl _ rfl _ rfl v (heap_alloc_new _ _) ?_) | (go_at_call 53; refine (signed32z v _ (i + 2) _ (by omega) (by omega)).mono ?_; rintro e w' ⟨rfl, hb⟩))
    go_ret
    exact ⟨ret_u64z (by rw [wrap_u64]; rfl), ((Below.refl _ _).alloc (Nat.le_refl _) _).trans (hb.mono (by simp))⟩
  · go_enter Try.func56, Try.ntmps56
    go_wp2_with (first | (with_reducible refine load_vec rfl _ rfl _ rfl v (heap_alloc_new _ _) ?_) | (go_at_call 51; refine (get32z v _ i _ (by omega) (by omega)).mono ?_; rintro e w' ⟨rfl, hb⟩))
    go_ret
    exact ⟨rfl, ((Below.refl _ _).alloc (Nat.le_refl _) _).trans (hb.mono (by simp))⟩
  · go_enter Try.func56, Try.ntmps56
    go_wp2_with (first | (with_reducible refine load_vec rfl _ rfl _ rfl v (heap_alloc_new _ _) ?_) | (go_at_call 51; refine (get32z v _ (i + 2) _ (by omega) (by omega)).mono ?_; rintro e w' ⟨rfl, hb⟩))
    go_ret
    exact ⟨rfl, ((Below.refl _ _).alloc (Nat.le_refl _) _).trans (hb.mono (by simp))⟩


theorem group0 (k f : Int) (a : Nat) (w : World) (ha : a < 4) (hk : k = f + 0 + a) (_hf : 0 ≤ f) (_hf2 : f ≤ 1000) :
    Calls Try.prog 55 #[.int .i64 k, .int .i64 f] w fun e w' => e = .returned (.tuple #[.int .i64 8, .int .i64 a]) ∧ w = w' := by
  subst hk
  go_enter Try.func55, Try.ntmps55
  go_wp2
  refine wp_loop_rounds 1 ?_
  repeat (rw [rounds_succ]; go_wp2)
  go_ret2
  exact ⟨ret_pair (by omega) (by omega), rfl⟩


theorem group1 (k f : Int) (a : Nat) (w : World) (ha : a < 4) (hk : k = f + 32 + a) (_hf : 0 ≤ f) (_hf2 : f ≤ 1000) :
    Calls Try.prog 55 #[.int .i64 k, .int .i64 f] w fun e w' => e = .returned (.tuple #[.int .i64 16, .int .i64 a]) ∧ w = w' := by
  subst hk
  go_enter Try.func55, Try.ntmps55
  go_wp2
  refine wp_loop_rounds 2 ?_
  repeat (rw [rounds_succ]; go_wp2)
  go_ret2
  exact ⟨ret_pair (by omega) (by omega), rfl⟩


theorem group2 (k f : Int) (a : Nat) (w : World) (ha : a < 4) (hk : k = f + 64 + a) (_hf : 0 ≤ f) (_hf2 : f ≤ 1000) :
    Calls Try.prog 55 #[.int .i64 k, .int .i64 f] w fun e w' => e = .returned (.tuple #[.int .i64 32, .int .i64 a]) ∧ w = w' := by
  subst hk
  go_enter Try.func55, Try.ntmps55
  go_wp2
  refine wp_loop_rounds 3 ?_
  repeat (rw [rounds_succ]; go_wp2)
  go_ret2
  exact ⟨ret_pair (by omega) (by omega), rfl⟩


theorem group_no (k f : Int) (w : World) (h0 : wrap64 (wrap64 (k - f)) < 0 ∨ 4 ≤ wrap64 (wrap64 (k - f))) (h1 : wrap64 (wrap64 (k - f) - 32) < 0 ∨ 4 ≤ wrap64 (wrap64 (k - f) - 32)) (h2 : wrap64 (wrap64 (k - f) - 64) < 0 ∨ 4 ≤ wrap64 (wrap64 (k - f) - 64)) :
    Calls Try.prog 55 #[.int .i64 k, .int .i64 f] w fun e w' => e = .returned (.tuple #[.int .i64 0, .int .i64 0]) ∧ w = w' := by
  rcases h0 with h0 | h0 <;> rcases h1 with h1 | h1 <;> rcases h2 with h2 | h2
  all_goals
    go_enter Try.func55, Try.ntmps55
    go_wp2
    refine wp_loop_rounds 4 ?_
    repeat (rw [rounds_succ]; go_wp2)
    go_ret2
    exact ⟨rfl, rfl⟩

end Go.Proofs.Ytcpfabkokgiepaa
