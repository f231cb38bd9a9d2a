/-
  plaitref08.hold; plaitref02.Signed out of range.
-/
import Derived.Test.YtnjhojjpajnbhaaRef
import Derived.Test.YtnjhojjpajnbhaaWideBin
namespace Go.Proofs.Ytnjhojjpajnbhaa
open Go.RowKit Pl


set_option maxRecDepth 100000 in
theorem rhold8s (x z : Int) (y : Nat) (w : World) (hz : z = x) (hy : y = u64 (min (max x (-128)) 127)) :
    Calls Try.prog 27 #[.int .i64 z, .int .i64 8, .bool true] w fun e w' => e = .returned (.int .u64 (y : Nat)) ∧ Below w.heap.size w w' := by
  subst hz hy
  by_cases h : z < -128
  · go_enter Try.func27, Try.ntmps27
    go_wp2
    go_ret
    exact ⟨ret_u64z (by rw [show min (max z (-128)) 127 = -128 by omega]; (first | rfl | exact wrap_u64 _ | (unfold u64; omega))), Below.refl _ _⟩
  · by_cases h2 : 127 < z
    · go_enter Try.func27, Try.ntmps27
      go_wp2
      go_ret
      exact ⟨ret_u64z (by rw [show min (max z (-128)) 127 = 127 by omega]; (first | rfl | exact wrap_u64 _ | (unfold u64; omega))), Below.refl _ _⟩
    · go_enter Try.func27, Try.ntmps27
      go_wp2
      go_ret
      exact ⟨ret_u64z (by rw [show min (max z (-128)) 127 = z by omega]; (first | rfl | exact wrap_u64 _ | (unfold u64; omega))), Below.refl _ _⟩


set_option maxRecDepth 100000 in
theorem rhold8u (x z : Int) (y : Nat) (w : World) (hz : z = x) (hy : y = u64 (min (max x (0)) 255)) :
    Calls Try.prog 27 #[.int .i64 z, .int .i64 8, .bool false] w fun e w' => e = .returned (.int .u64 (y : Nat)) ∧ Below w.heap.size w w' := by
  subst hz hy
  by_cases h : z < 0
  · go_enter Try.func27, Try.ntmps27
    go_wp2
    go_ret
    exact ⟨ret_u64z (by rw [show min (max z (0)) 255 = 0 by omega]; (first | rfl | exact wrap_u64 _ | (unfold u64; omega))), Below.refl _ _⟩
  · by_cases h2 : 255 < z
    · go_enter Try.func27, Try.ntmps27
      go_wp2
      go_ret
      exact ⟨ret_u64z (by rw [show min (max z (0)) 255 = 255 by omega]; (first | rfl | exact wrap_u64 _ | (unfold u64; omega))), Below.refl _ _⟩
    · go_enter Try.func27, Try.ntmps27
      go_wp2
      go_ret
      exact ⟨ret_u64z (by rw [show min (max z (0)) 255 = z by omega]; (first | rfl | exact wrap_u64 _ | (unfold u64; omega))), Below.refl _ _⟩


set_option maxRecDepth 100000 in
theorem rhold16s (x z : Int) (y : Nat) (w : World) (hz : z = x) (hy : y = u64 (min (max x (-32768)) 32767)) :
    Calls Try.prog 27 #[.int .i64 z, .int .i64 16, .bool true] w fun e w' => e = .returned (.int .u64 (y : Nat)) ∧ Below w.heap.size w w' := by
  subst hz hy
  by_cases h : z < -32768
  · go_enter Try.func27, Try.ntmps27
    go_wp2
    go_ret
    exact ⟨ret_u64z (by rw [show min (max z (-32768)) 32767 = -32768 by omega]; (first | rfl | exact wrap_u64 _ | (unfold u64; omega))), Below.refl _ _⟩
  · by_cases h2 : 32767 < z
    · go_enter Try.func27, Try.ntmps27
      go_wp2
      go_ret
      exact ⟨ret_u64z (by rw [show min (max z (-32768)) 32767 = 32767 by omega]; (first | rfl | exact wrap_u64 _ | (unfold u64; omega))), Below.refl _ _⟩
    · go_enter Try.func27, Try.ntmps27
      go_wp2
      go_ret
      exact ⟨ret_u64z (by rw [show min (max z (-32768)) 32767 = z by omega]; (first | rfl | exact wrap_u64 _ | (unfold u64; omega))), Below.refl _ _⟩


set_option maxRecDepth 100000 in
theorem rhold16u (x z : Int) (y : Nat) (w : World) (hz : z = x) (hy : y = u64 (min (max x (0)) 65535)) :
    Calls Try.prog 27 #[.int .i64 z, .int .i64 16, .bool false] w fun e w' => e = .returned (.int .u64 (y : Nat)) ∧ Below w.heap.size w w' := by
  subst hz hy
  by_cases h : z < 0
  · go_enter Try.func27, Try.ntmps27
    go_wp2
    go_ret
    exact ⟨ret_u64z (by rw [show min (max z (0)) 65535 = 0 by omega]; (first | rfl | exact wrap_u64 _ | (unfold u64; omega))), Below.refl _ _⟩
  · by_cases h2 : 65535 < z
    · go_enter Try.func27, Try.ntmps27
      go_wp2
      go_ret
      exact ⟨ret_u64z (by rw [show min (max z (0)) 65535 = 65535 by omega]; (first | rfl | exact wrap_u64 _ | (unfold u64; omega))), Below.refl _ _⟩
    · go_enter Try.func27, Try.ntmps27
      go_wp2
      go_ret
      exact ⟨ret_u64z (by rw [show min (max z (0)) 65535 = z by omega]; (first | rfl | exact wrap_u64 _ | (unfold u64; omega))), Below.refl _ _⟩


theorem rget_out16 (v : Vec) (i : Nat) (w : World) (hi : 8 ≤ i) :
    Calls Try.prog 28 #[.agg (cells v), .int .i64 16, .int .i64 i] w fun e w' => e = .returned (.int .u64 0) ∧ Below w.heap.size w w' := by
  have hi' : (8 : Int) ≤ (i : Int) := by omega
  go_enter Try.func28, Try.ntmps28
  go_wp2_with (first | (go_at_call 32; ((with_reducible refine (rlanes16 _).mono ?_); rintro e w' ⟨rfl, rfl⟩)))
  go_ret
  exact ⟨rfl, (Below.refl _ _).alloc (Nat.le_refl _) _⟩

theorem rsigned_out16 (v : Vec) (j : Int) (i : Nat) (w : World) (hj : j = i) (hi : 8 ≤ i) :
    Calls Try.prog 26 #[.agg (cells v), .int .i64 16, .int .i64 j] w fun e w' => e = .returned (.int .i64 0) ∧ Below w.heap.size w w' := by
  subst hj
  have hg := rget_out16 v i (w.alloc (.cells (cells v) 23)) hi
  have hs := fun W => rsign16 0 W (by decide)
  go_enter Try.func26, Try.ntmps26
  go_wp2_with (first | (go_at_call 32; ((with_reducible refine (rlanes16 _).mono ?_); rintro e w' ⟨rfl, rfl⟩)) | (with_reducible refine load_vec rfl _ rfl _ rfl v (heap_alloc_new _ _) ?_) | (go_at_call 28; refine hg.mono ?_; rintro e w' ⟨rfl, hb⟩) | (go_at_call 33; refine (hs _).mono ?_; rintro e w' ⟨rfl, rfl⟩))
  go_ret
  exact ⟨rfl, ((Below.refl _ _).alloc (Nat.le_refl _) _).trans (hb.mono (by simp))⟩


theorem rget_out32 (v : Vec) (i : Nat) (w : World) (hi : 4 ≤ i) :
    Calls Try.prog 28 #[.agg (cells v), .int .i64 32, .int .i64 i] w fun e w' => e = .returned (.int .u64 0) ∧ Below w.heap.size w w' := by
  have hi' : (4 : Int) ≤ (i : Int) := by omega
  go_enter Try.func28, Try.ntmps28
  go_wp2_with (first | (go_at_call 32; ((with_reducible refine (rlanes32 _).mono ?_); rintro e w' ⟨rfl, rfl⟩)))
  go_ret
  exact ⟨rfl, (Below.refl _ _).alloc (Nat.le_refl _) _⟩

theorem rsigned_out32 (v : Vec) (j : Int) (i : Nat) (w : World) (hj : j = i) (hi : 4 ≤ i) :
    Calls Try.prog 26 #[.agg (cells v), .int .i64 32, .int .i64 j] w fun e w' => e = .returned (.int .i64 0) ∧ Below w.heap.size w w' := by
  subst hj
  have hg := rget_out32 v i (w.alloc (.cells (cells v) 23)) hi
  have hs := fun W => rsign32 0 W (by decide)
  go_enter Try.func26, Try.ntmps26
  go_wp2_with (first | (go_at_call 32; ((with_reducible refine (rlanes32 _).mono ?_); rintro e w' ⟨rfl, rfl⟩)) | (with_reducible refine load_vec rfl _ rfl _ rfl v (heap_alloc_new _ _) ?_) | (go_at_call 28; refine hg.mono ?_; rintro e w' ⟨rfl, hb⟩) | (go_at_call 33; refine (hs _).mono ?_; rintro e w' ⟨rfl, rfl⟩))
  go_ret
  exact ⟨rfl, ((Below.refl _ _).alloc (Nat.le_refl _) _).trans (hb.mono (by simp))⟩

end Go.Proofs.Ytnjhojjpajnbhaa
