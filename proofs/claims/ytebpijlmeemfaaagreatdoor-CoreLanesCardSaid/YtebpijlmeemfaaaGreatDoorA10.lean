/- A part of the proof that plaittop.CoreLanes returns true. -/
import Derived.Test.YtebpijlmeemfaaaGreatDoorA01
import Derived.Test.YtebpijlmeemfaaaGreatDoorA02
set_option linter.all false
set_option linter.unusedSectionVars false
set_option linter.unusedSimpArgs false
set_option linter.unusedVariables false
section
namespace Pl
def extN (v : Vec) (w k i : Nat) : Nat := if k < 2 then u64 (sgn w (getN v w (i + k % 2 * (64 / w)))) else getN v w (i + k % 2 * (64 / w))
theorem ret_u64z {a : Int} {b : Nat} (h : a = b) : Go.Ending.returned (.int .u64 a) = Go.Ending.returned (.int .u64 (b : Int)) := by rw [h]
theorem ret_pair {a b c d : Int} (h : a = c) (k : b = d) : Go.Ending.returned (.tuple #[.int .i64 a, .int .i64 b]) = Go.Ending.returned (.tuple #[.int .i64 c, .int .i64 d]) := by rw [h, k]
end Pl
namespace Pl
open Go
def pairN (s : Bool) (w : Nat) (v : Vec) (i : Nat) : Nat := if s then u64 (sgn w (getN v w (2 * i)) + sgn w (getN v w (2 * i + 1))) else getN v w (2 * i) + getN v w (2 * i + 1)
def unW (op : Int) (v : Vec) : Vec × Int :=
 if 64903 ≤ op ∧ op < 64907 then (buildOn 0 16 (extN v 8 (op - 64903).toNat) 8, 0)
 else if 64935 ≤ op ∧ op < 64939 then (buildOn 0 32 (extN v 16 (op - 64935).toNat) 4, 0)
 else if 64967 ≤ op ∧ op < 64971 then (buildOn 0 64 (extN v 32 (op - 64967).toNat) 2, 0)
 else if op = 64892 then (buildOn 0 16 (pairN true 8 v) 8, 0)
 else if op = 64893 then (buildOn 0 16 (pairN false 8 v) 8, 0)
 else if op = 64894 then (buildOn 0 32 (pairN true 16 v) 4, 0)
 else if op = 64895 then (buildOn 0 32 (pairN false 16 v) 4, 0)
 else (0, 1)
end Pl
end
section
namespace Go.Proofs.YtebpijlmeemfaaaGreatDoor
open Go.RowKit Pl
theorem ext8 (v : Vec) (k i : Nat) (j : Int) (w : World) (hj : j = i) (hk : k < 4) (hi : i < 8) :
  Calls Tryz.prog 154 #[.agg (cells v), .int .i64 8, .int .i64 k, .int .i64 j] w fun e w' => e = .returned (.int .u64 (extN v 8 k i : Nat)) ∧ Below w.heap.size w w' := by
 subst hj
 have hi' : (i : Int) < 8 := by omega
 have hk4 : k = 0 ∨ k = 1 ∨ k = 2 ∨ k = 3 := by omega
 rcases hk4 with rfl | rfl | rfl | rfl
 ·go_enter Tryz.func154, Tryz.ntmps154
  go_wp2_with (first | (with_reducible refine load_vec rfl _ rfl _ rfl v (heap_alloc_new _ _) ?_) | (go_at_call 122; refine (signed8z v _ i _ (by omega) (by omega)).mono ?_; rintro e w' ⟨rfl, hb⟩))
  go_ret
  exact ⟨ret_u64z (by rw [wrap_u64]; rfl), ((Below.refl _ _).alloc (Nat.le_refl _) _).trans (hb.mono (by simp))⟩
 ·go_enter Tryz.func154, Tryz.ntmps154
  go_wp2_with (first | (with_reducible refine load_vec rfl _ rfl _ rfl v (heap_alloc_new _ _) ?_) | (go_at_call 122; refine (signed8z v _ (i + 8) _ (by omega) (by omega)).mono ?_; rintro e w' ⟨rfl, hb⟩))
  go_ret
  exact ⟨ret_u64z (by rw [wrap_u64]; rfl), ((Below.refl _ _).alloc (Nat.le_refl _) _).trans (hb.mono (by simp))⟩
 ·go_enter Tryz.func154, Tryz.ntmps154
  go_wp2_with (first | (with_reducible refine load_vec rfl _ rfl _ rfl v (heap_alloc_new _ _) ?_) | (go_at_call 82; refine (get8z v _ i _ (by omega) (by omega)).mono ?_; rintro e w' ⟨rfl, hb⟩))
  go_ret
  exact ⟨rfl, ((Below.refl _ _).alloc (Nat.le_refl _) _).trans (hb.mono (by simp))⟩
 ·go_enter Tryz.func154, Tryz.ntmps154
  go_wp2_with (first | (with_reducible refine load_vec rfl _ rfl _ rfl v (heap_alloc_new _ _) ?_) | (go_at_call 82; refine (get8z v _ (i + 8) _ (by omega) (by omega)).mono ?_; rintro e w' ⟨rfl, hb⟩))
  go_ret
  exact ⟨rfl, ((Below.refl _ _).alloc (Nat.le_refl _) _).trans (hb.mono (by simp))⟩
theorem ext16 (v : Vec) (k i : Nat) (j : Int) (w : World) (hj : j = i) (hk : k < 4) (hi : i < 4) :
  Calls Tryz.prog 154 #[.agg (cells v), .int .i64 16, .int .i64 k, .int .i64 j] w fun e w' => e = .returned (.int .u64 (extN v 16 k i : Nat)) ∧ Below w.heap.size w w' := by
 subst hj
 have hi' : (i : Int) < 4 := by omega
 have hk4 : k = 0 ∨ k = 1 ∨ k = 2 ∨ k = 3 := by omega
 rcases hk4 with rfl | rfl | rfl | rfl
 ·go_enter Tryz.func154, Tryz.ntmps154
  go_wp2_with (first | (with_reducible refine load_vec rfl _ rfl _ rfl v (heap_alloc_new _ _) ?_) | (go_at_call 122; refine (signed16z v _ i _ (by omega) (by omega)).mono ?_; rintro e w' ⟨rfl, hb⟩))
  go_ret
  exact ⟨ret_u64z (by rw [wrap_u64]; rfl), ((Below.refl _ _).alloc (Nat.le_refl _) _).trans (hb.mono (by simp))⟩
 ·go_enter Tryz.func154, Tryz.ntmps154
  go_wp2_with (first | (with_reducible refine load_vec rfl _ rfl _ rfl v (heap_alloc_new _ _) ?_) | (go_at_call 122; refine (signed16z v _ (i + 4) _ (by omega) (by omega)).mono ?_; rintro e w' ⟨rfl, hb⟩))
  go_ret
  exact ⟨ret_u64z (by rw [wrap_u64]; rfl), ((Below.refl _ _).alloc (Nat.le_refl _) _).trans (hb.mono (by simp))⟩
 ·go_enter Tryz.func154, Tryz.ntmps154
  go_wp2_with (first | (with_reducible refine load_vec rfl _ rfl _ rfl v (heap_alloc_new _ _) ?_) | (go_at_call 82; refine (get16z v _ i _ (by omega) (by omega)).mono ?_; rintro e w' ⟨rfl, hb⟩))
  go_ret
  exact ⟨rfl, ((Below.refl _ _).alloc (Nat.le_refl _) _).trans (hb.mono (by simp))⟩
 ·go_enter Tryz.func154, Tryz.ntmps154
  go_wp2_with (first | (with_reducible refine load_vec rfl _ rfl _ rfl v (heap_alloc_new _ _) ?_) | (go_at_call 82; refine (get16z v _ (i + 4) _ (by omega) (by omega)).mono ?_; rintro e w' ⟨rfl, hb⟩))
  go_ret
  exact ⟨rfl, ((Below.refl _ _).alloc (Nat.le_refl _) _).trans (hb.mono (by simp))⟩
theorem ext32 (v : Vec) (k i : Nat) (j : Int) (w : World) (hj : j = i) (hk : k < 4) (hi : i < 2) :
  Calls Tryz.prog 154 #[.agg (cells v), .int .i64 32, .int .i64 k, .int .i64 j] w fun e w' => e = .returned (.int .u64 (extN v 32 k i : Nat)) ∧ Below w.heap.size w w' := by
 subst hj
 have hi' : (i : Int) < 2 := by omega
 have hk4 : k = 0 ∨ k = 1 ∨ k = 2 ∨ k = 3 := by omega
 rcases hk4 with rfl | rfl | rfl | rfl
 ·go_enter Tryz.func154, Tryz.ntmps154
  go_wp2_with (first | (with_reducible refine load_vec rfl _ rfl _ rfl v (heap_alloc_new _ _) ?_) | (go_at_call 122; refine (signed32z v _ i _ (by omega) (by omega)).mono ?_; rintro e w' ⟨rfl, hb⟩))
  go_ret
  exact ⟨ret_u64z (by rw [wrap_u64]; rfl), ((Below.refl _ _).alloc (Nat.le_refl _) _).trans (hb.mono (by simp))⟩
 ·go_enter Tryz.func154, Tryz.ntmps154
  go_wp2_with (first | (with_reducible refine load_vec rfl _ rfl _ rfl v (heap_alloc_new _ _) ?_) | (go_at_call 122; refine (signed32z v _ (i + 2) _ (by omega) (by omega)).mono ?_; rintro e w' ⟨rfl, hb⟩))
  go_ret
  exact ⟨ret_u64z (by rw [wrap_u64]; rfl), ((Below.refl _ _).alloc (Nat.le_refl _) _).trans (hb.mono (by simp))⟩
 ·go_enter Tryz.func154, Tryz.ntmps154
  go_wp2_with (first | (with_reducible refine load_vec rfl _ rfl _ rfl v (heap_alloc_new _ _) ?_) | (go_at_call 82; refine (get32z v _ i _ (by omega) (by omega)).mono ?_; rintro e w' ⟨rfl, hb⟩))
  go_ret
  exact ⟨rfl, ((Below.refl _ _).alloc (Nat.le_refl _) _).trans (hb.mono (by simp))⟩
 ·go_enter Tryz.func154, Tryz.ntmps154
  go_wp2_with (first | (with_reducible refine load_vec rfl _ rfl _ rfl v (heap_alloc_new _ _) ?_) | (go_at_call 82; refine (get32z v _ (i + 2) _ (by omega) (by omega)).mono ?_; rintro e w' ⟨rfl, hb⟩))
  go_ret
  exact ⟨rfl, ((Below.refl _ _).alloc (Nat.le_refl _) _).trans (hb.mono (by simp))⟩
theorem group0 (k f : Int) (a : Nat) (w : World) (ha : a < 4) (hk : k = f + 0 + a) (_hf : 0 ≤ f) (_hf2 : f ≤ 1000) :
  Calls Tryz.prog 153 #[.int .i64 k, .int .i64 f] w fun e w' => e = .returned (.tuple #[.int .i64 8, .int .i64 a]) ∧ w = w' := by
 subst hk
 go_enter Tryz.func153, Tryz.ntmps153
 go_wp2
 refine wp_loop_rounds 1 ?_
 repeat (rw [rounds_succ]; go_wp2)
 go_ret2
 exact ⟨ret_pair (by omega) (by omega), rfl⟩
theorem group1 (k f : Int) (a : Nat) (w : World) (ha : a < 4) (hk : k = f + 32 + a) (_hf : 0 ≤ f) (_hf2 : f ≤ 1000) :
  Calls Tryz.prog 153 #[.int .i64 k, .int .i64 f] w fun e w' => e = .returned (.tuple #[.int .i64 16, .int .i64 a]) ∧ w = w' := by
 subst hk
 go_enter Tryz.func153, Tryz.ntmps153
 go_wp2
 refine wp_loop_rounds 2 ?_
 repeat (rw [rounds_succ]; go_wp2)
 go_ret2
 exact ⟨ret_pair (by omega) (by omega), rfl⟩
theorem group2 (k f : Int) (a : Nat) (w : World) (ha : a < 4) (hk : k = f + 64 + a) (_hf : 0 ≤ f) (_hf2 : f ≤ 1000) :
  Calls Tryz.prog 153 #[.int .i64 k, .int .i64 f] w fun e w' => e = .returned (.tuple #[.int .i64 32, .int .i64 a]) ∧ w = w' := by
 subst hk
 go_enter Tryz.func153, Tryz.ntmps153
 go_wp2
 refine wp_loop_rounds 3 ?_
 repeat (rw [rounds_succ]; go_wp2)
 go_ret2
 exact ⟨ret_pair (by omega) (by omega), rfl⟩
theorem group_no (k f : Int) (w : World) (h0 : wrap64 (wrap64 (k - f)) < 0 ∨ 4 ≤ wrap64 (wrap64 (k - f))) (h1 : wrap64 (wrap64 (k - f) - 32) < 0 ∨ 4 ≤ wrap64 (wrap64 (k - f) - 32)) (h2 : wrap64 (wrap64 (k - f) - 64) < 0 ∨ 4 ≤ wrap64 (wrap64 (k - f) - 64)) :
  Calls Tryz.prog 153 #[.int .i64 k, .int .i64 f] w fun e w' => e = .returned (.tuple #[.int .i64 0, .int .i64 0]) ∧ w = w' := by
 rcases h0 with h0 | h0 <;> rcases h1 with h1 | h1 <;> rcases h2 with h2 | h2
 all_goals
  go_enter Tryz.func153, Tryz.ntmps153
  go_wp2
  refine wp_loop_rounds 4 ?_
  repeat (rw [rounds_succ]; go_wp2)
  go_ret2
  exact ⟨rfl, rfl⟩
end Go.Proofs.YtebpijlmeemfaaaGreatDoor
end
