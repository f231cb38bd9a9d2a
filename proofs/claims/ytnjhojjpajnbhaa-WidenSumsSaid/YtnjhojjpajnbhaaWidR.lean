/-
  plaitref08.lane, plaitref08.Un (rows).
-/
import Derived.Test.YtnjhojjpajnbhaaRef
import Derived.Test.YtnjhojjpajnbhaaWideSpec
set_option linter.unusedSimpArgs false
set_option linter.unusedVariables false
namespace Go.Proofs.Ytnjhojjpajnbhaa
open Go.RowKit Pl


theorem rlane8 (v : Vec) (i : Nat) (j : Int) (s : Bool) (w : World) (hj : j = i) (hi : i < 16) :
    Calls Try.prog 24 #[.agg (cells v), .int .i64 8, .int .i64 j, .bool s] w fun e w' => e = .returned (.int .i64 (laneI s 8 v i)) ∧ Below w.heap.size w w' := by
  subst hj
  cases s
  · go_enter Try.func24, Try.ntmps24
    go_wp2_with (first | (with_reducible refine load_vec rfl _ rfl _ rfl v (heap_alloc_new _ _) ?_) | (go_at_call 28; refine (rget8 v i _ hi).mono ?_; rintro e w' ⟨rfl, hb⟩))
    go_ret
    exact ⟨ret_i64 (lane_u 8 v i (by decide)), ((Below.refl _ _).alloc (Nat.le_refl _) _).trans (hb.mono (by simp))⟩
  · go_enter Try.func24, Try.ntmps24
    go_wp2_with (first | (with_reducible refine load_vec rfl _ rfl _ rfl v (heap_alloc_new _ _) ?_) | (go_at_call 26; refine (rsigned8 v i _ hi).mono ?_; rintro e w' ⟨rfl, hb⟩))
    go_ret
    exact ⟨rfl, ((Below.refl _ _).alloc (Nat.le_refl _) _).trans (hb.mono (by simp))⟩


theorem rlane16 (v : Vec) (i : Nat) (j : Int) (s : Bool) (w : World) (hj : j = i) (hi : i < 8) :
    Calls Try.prog 24 #[.agg (cells v), .int .i64 16, .int .i64 j, .bool s] w fun e w' => e = .returned (.int .i64 (laneI s 16 v i)) ∧ Below w.heap.size w w' := by
  subst hj
  cases s
  · go_enter Try.func24, Try.ntmps24
    go_wp2_with (first | (with_reducible refine load_vec rfl _ rfl _ rfl v (heap_alloc_new _ _) ?_) | (go_at_call 28; refine (rget16 v i _ hi).mono ?_; rintro e w' ⟨rfl, hb⟩))
    go_ret
    exact ⟨ret_i64 (lane_u 16 v i (by decide)), ((Below.refl _ _).alloc (Nat.le_refl _) _).trans (hb.mono (by simp))⟩
  · go_enter Try.func24, Try.ntmps24
    go_wp2_with (first | (with_reducible refine load_vec rfl _ rfl _ rfl v (heap_alloc_new _ _) ?_) | (go_at_call 26; refine (rsigned16 v i _ hi).mono ?_; rintro e w' ⟨rfl, hb⟩))
    go_ret
    exact ⟨rfl, ((Below.refl _ _).alloc (Nat.le_refl _) _).trans (hb.mono (by simp))⟩


theorem rlane32 (v : Vec) (i : Nat) (j : Int) (s : Bool) (w : World) (hj : j = i) (hi : i < 4) :
    Calls Try.prog 24 #[.agg (cells v), .int .i64 32, .int .i64 j, .bool s] w fun e w' => e = .returned (.int .i64 (laneI s 32 v i)) ∧ Below w.heap.size w w' := by
  subst hj
  cases s
  · go_enter Try.func24, Try.ntmps24
    go_wp2_with (first | (with_reducible refine load_vec rfl _ rfl _ rfl v (heap_alloc_new _ _) ?_) | (go_at_call 28; refine (rget32 v i _ hi).mono ?_; rintro e w' ⟨rfl, hb⟩))
    go_ret
    exact ⟨ret_i64 (lane_u 32 v i (by decide)), ((Below.refl _ _).alloc (Nat.le_refl _) _).trans (hb.mono (by simp))⟩
  · go_enter Try.func24, Try.ntmps24
    go_wp2_with (first | (with_reducible refine load_vec rfl _ rfl _ rfl v (heap_alloc_new _ _) ?_) | (go_at_call 26; refine (rsigned32 v i _ hi).mono ?_; rintro e w' ⟨rfl, hb⟩))
    go_ret
    exact ⟨rfl, ((Below.refl _ _).alloc (Nat.le_refl _) _).trans (hb.mono (by simp))⟩

end Go.Proofs.Ytnjhojjpajnbhaa
