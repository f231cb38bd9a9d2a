/- A part of the proof that plaittop.CoreLanes returns true. -/
import Derived.Test.YtebpijlmeemfaaaGreatDoorA01
import Derived.Test.YtebpijlmeemfaaaGreatDoorA02
set_option linter.all false
set_option linter.unusedSectionVars false
set_option linter.unusedSimpArgs false
set_option linter.unusedVariables false
section
namespace Pl
def laneZ (w k : Nat) (x y : Nat) (s t : Int) : Int :=
 if k = 14 then x + y else if k = 15 then min (max (s + t) (-2 ^ (w - 1))) (2 ^ (w - 1) - 1) else if k = 16 then min (x + y) (2 ^ w - 1)
 else if k = 17 then x - y else if k = 18 then min (max (s - t) (-2 ^ (w - 1))) (2 ^ (w - 1) - 1) else if k = 19 then x - min x y
 else if k = 21 then x * y else if k = 22 then min s t else if k = 23 then min x y else if k = 24 then max s t else if k = 25 then max x y else (x + y + 1) / 2
def laneR (w k : Nat) (a b : Vec) (i : Nat) : Nat := u64 (laneZ w k (getN a w i) (getN b w i) (sgn w (getN a w i)) (sgn w (getN b w i)))
def vb (w k : Nat) (a b : Vec) : Vec := buildOn 0 w (laneR w k a b) (128 / w)
def unR (w k : Nat) (v : Vec) (i : Nat) : Nat := if k = 0 then (if sgn w (getN v w i) < 0 then u64 (-(getN v w i : Int)) else getN v w i) else u64 (-(getN v w i : Int))
theorem g_vb (w k : Nat) (a b : Vec) (i : Nat) (h : i < 128 / w) : getN (vb w k a b) w i = laneR w k a b i % 2 ^ w := by
 rw [vb, getN_buildOn _ _ _ _ _ (Nat.le_refl _), if_pos h]
theorem mul16 (a b : Vec) (i : Nat) (h : i < 8) : getN (vb 16 21 a b) 16 i = (getN a 16 i * getN b 16 i) % 65536 := by
 rw [g_vb 16 _ _ _ _ h]; show u64 ((getN a 16 i : Int) * (getN b 16 i : Int)) % 65536 = _
 rw [← Int.natCast_mul]; generalize getN a 16 i * getN b 16 i = n; unfold u64; omega
end Pl
end
section
namespace Go.Proofs.YtebpijlmeemfaaaGreatDoor
open Go.RowKit Pl
theorem ret_u64i {a : Int} {b : Nat} (h : a = b) : Ending.returned (.int .u64 a) = .returned (.int .u64 (b : Int)) := by rw [h]
theorem u64_in {z : Int} {n : Int} (h : z = n) (h0 : 0 ≤ n) (h1 : n < 18446744073709551616) : n = (Pl.u64 z : Nat) := by subst h; unfold Pl.u64; omega
theorem kind_64864 (w : World) : Calls Tryz.prog 151 #[.int .i64 64864] w fun e w' => e = .returned (.tuple #[.int .i64 8, .int .i64 0]) ∧ w' = w := by
 go_enter Tryz.func151, Tryz.ntmps151
 go_wp2
 all_goals go_ret2
 all_goals exact ⟨rfl, rfl⟩
theorem kind_64865 (w : World) : Calls Tryz.prog 151 #[.int .i64 64865] w fun e w' => e = .returned (.tuple #[.int .i64 8, .int .i64 1]) ∧ w' = w := by
 go_enter Tryz.func151, Tryz.ntmps151
 go_wp2
 all_goals go_ret2
 all_goals exact ⟨rfl, rfl⟩
theorem kind_64866 (w : World) : Calls Tryz.prog 151 #[.int .i64 64866] w fun e w' => e = .returned (.tuple #[.int .i64 8, .int .i64 2]) ∧ w' = w := by
 go_enter Tryz.func151, Tryz.ntmps151
 go_wp2
 all_goals go_ret2
 all_goals exact ⟨rfl, rfl⟩
theorem kind_64867 (w : World) : Calls Tryz.prog 151 #[.int .i64 64867] w fun e w' => e = .returned (.tuple #[.int .i64 0, .int .i64 0]) ∧ w' = w := by
 go_enter Tryz.func151, Tryz.ntmps151
 go_wp2
 all_goals go_ret2
 all_goals exact ⟨rfl, rfl⟩
theorem kind_64868 (w : World) : Calls Tryz.prog 151 #[.int .i64 64868] w fun e w' => e = .returned (.tuple #[.int .i64 0, .int .i64 0]) ∧ w' = w := by
 go_enter Tryz.func151, Tryz.ntmps151
 go_wp2
 all_goals go_ret2
 all_goals exact ⟨rfl, rfl⟩
theorem kind_64869 (w : World) : Calls Tryz.prog 151 #[.int .i64 64869] w fun e w' => e = .returned (.tuple #[.int .i64 0, .int .i64 0]) ∧ w' = w := by
 go_enter Tryz.func151, Tryz.ntmps151
 go_wp2
 all_goals go_ret2
 all_goals exact ⟨rfl, rfl⟩
theorem kind_64870 (w : World) : Calls Tryz.prog 151 #[.int .i64 64870] w fun e w' => e = .returned (.tuple #[.int .i64 0, .int .i64 0]) ∧ w' = w := by
 go_enter Tryz.func151, Tryz.ntmps151
 go_wp2
 all_goals go_ret2
 all_goals exact ⟨rfl, rfl⟩
theorem kind_64871 (w : World) : Calls Tryz.prog 151 #[.int .i64 64871] w fun e w' => e = .returned (.tuple #[.int .i64 0, .int .i64 0]) ∧ w' = w := by
 go_enter Tryz.func151, Tryz.ntmps151
 go_wp2
 all_goals go_ret2
 all_goals exact ⟨rfl, rfl⟩
theorem kind_64872 (w : World) : Calls Tryz.prog 151 #[.int .i64 64872] w fun e w' => e = .returned (.tuple #[.int .i64 0, .int .i64 0]) ∧ w' = w := by
 go_enter Tryz.func151, Tryz.ntmps151
 go_wp2
 all_goals go_ret2
 all_goals exact ⟨rfl, rfl⟩
theorem kind_64873 (w : World) : Calls Tryz.prog 151 #[.int .i64 64873] w fun e w' => e = .returned (.tuple #[.int .i64 0, .int .i64 0]) ∧ w' = w := by
 go_enter Tryz.func151, Tryz.ntmps151
 go_wp2
 all_goals go_ret2
 all_goals exact ⟨rfl, rfl⟩
theorem kind_64874 (w : World) : Calls Tryz.prog 151 #[.int .i64 64874] w fun e w' => e = .returned (.tuple #[.int .i64 0, .int .i64 0]) ∧ w' = w := by
 go_enter Tryz.func151, Tryz.ntmps151
 go_wp2
 all_goals go_ret2
 all_goals exact ⟨rfl, rfl⟩
theorem kind_64875 (w : World) : Calls Tryz.prog 151 #[.int .i64 64875] w fun e w' => e = .returned (.tuple #[.int .i64 8, .int .i64 11]) ∧ w' = w := by
 go_enter Tryz.func151, Tryz.ntmps151
 go_wp2
 all_goals go_ret2
 all_goals exact ⟨rfl, rfl⟩
theorem kind_64876 (w : World) : Calls Tryz.prog 151 #[.int .i64 64876] w fun e w' => e = .returned (.tuple #[.int .i64 8, .int .i64 12]) ∧ w' = w := by
 go_enter Tryz.func151, Tryz.ntmps151
 go_wp2
 all_goals go_ret2
 all_goals exact ⟨rfl, rfl⟩
theorem kind_64877 (w : World) : Calls Tryz.prog 151 #[.int .i64 64877] w fun e w' => e = .returned (.tuple #[.int .i64 8, .int .i64 13]) ∧ w' = w := by
 go_enter Tryz.func151, Tryz.ntmps151
 go_wp2
 all_goals go_ret2
 all_goals exact ⟨rfl, rfl⟩
theorem kind_64878 (w : World) : Calls Tryz.prog 151 #[.int .i64 64878] w fun e w' => e = .returned (.tuple #[.int .i64 8, .int .i64 14]) ∧ w' = w := by
 go_enter Tryz.func151, Tryz.ntmps151
 go_wp2
 all_goals go_ret2
 all_goals exact ⟨rfl, rfl⟩
theorem kind_64879 (w : World) : Calls Tryz.prog 151 #[.int .i64 64879] w fun e w' => e = .returned (.tuple #[.int .i64 8, .int .i64 15]) ∧ w' = w := by
 go_enter Tryz.func151, Tryz.ntmps151
 go_wp2
 all_goals go_ret2
 all_goals exact ⟨rfl, rfl⟩
theorem kind_64880 (w : World) : Calls Tryz.prog 151 #[.int .i64 64880] w fun e w' => e = .returned (.tuple #[.int .i64 8, .int .i64 16]) ∧ w' = w := by
 go_enter Tryz.func151, Tryz.ntmps151
 go_wp2
 all_goals go_ret2
 all_goals exact ⟨rfl, rfl⟩
theorem kind_64881 (w : World) : Calls Tryz.prog 151 #[.int .i64 64881] w fun e w' => e = .returned (.tuple #[.int .i64 8, .int .i64 17]) ∧ w' = w := by
 go_enter Tryz.func151, Tryz.ntmps151
 go_wp2
 all_goals go_ret2
 all_goals exact ⟨rfl, rfl⟩
theorem kind_64882 (w : World) : Calls Tryz.prog 151 #[.int .i64 64882] w fun e w' => e = .returned (.tuple #[.int .i64 8, .int .i64 18]) ∧ w' = w := by
 go_enter Tryz.func151, Tryz.ntmps151
 go_wp2
 all_goals go_ret2
 all_goals exact ⟨rfl, rfl⟩
theorem kind_64883 (w : World) : Calls Tryz.prog 151 #[.int .i64 64883] w fun e w' => e = .returned (.tuple #[.int .i64 8, .int .i64 19]) ∧ w' = w := by
 go_enter Tryz.func151, Tryz.ntmps151
 go_wp2
 all_goals go_ret2
 all_goals exact ⟨rfl, rfl⟩
theorem kind_64884 (w : World) : Calls Tryz.prog 151 #[.int .i64 64884] w fun e w' => e = .returned (.tuple #[.int .i64 0, .int .i64 0]) ∧ w' = w := by
 go_enter Tryz.func151, Tryz.ntmps151
 go_wp2
 all_goals go_ret2
 all_goals exact ⟨rfl, rfl⟩
theorem kind_64885 (w : World) : Calls Tryz.prog 151 #[.int .i64 64885] w fun e w' => e = .returned (.tuple #[.int .i64 0, .int .i64 0]) ∧ w' = w := by
 go_enter Tryz.func151, Tryz.ntmps151
 go_wp2
 all_goals go_ret2
 all_goals exact ⟨rfl, rfl⟩
theorem kind_64886 (w : World) : Calls Tryz.prog 151 #[.int .i64 64886] w fun e w' => e = .returned (.tuple #[.int .i64 8, .int .i64 22]) ∧ w' = w := by
 go_enter Tryz.func151, Tryz.ntmps151
 go_wp2
 all_goals go_ret2
 all_goals exact ⟨rfl, rfl⟩
theorem kind_64887 (w : World) : Calls Tryz.prog 151 #[.int .i64 64887] w fun e w' => e = .returned (.tuple #[.int .i64 8, .int .i64 23]) ∧ w' = w := by
 go_enter Tryz.func151, Tryz.ntmps151
 go_wp2
 all_goals go_ret2
 all_goals exact ⟨rfl, rfl⟩
theorem kind_64888 (w : World) : Calls Tryz.prog 151 #[.int .i64 64888] w fun e w' => e = .returned (.tuple #[.int .i64 8, .int .i64 24]) ∧ w' = w := by
 go_enter Tryz.func151, Tryz.ntmps151
 go_wp2
 all_goals go_ret2
 all_goals exact ⟨rfl, rfl⟩
theorem kind_64889 (w : World) : Calls Tryz.prog 151 #[.int .i64 64889] w fun e w' => e = .returned (.tuple #[.int .i64 8, .int .i64 25]) ∧ w' = w := by
 go_enter Tryz.func151, Tryz.ntmps151
 go_wp2
 all_goals go_ret2
 all_goals exact ⟨rfl, rfl⟩
theorem kind_64890 (w : World) : Calls Tryz.prog 151 #[.int .i64 64890] w fun e w' => e = .returned (.tuple #[.int .i64 0, .int .i64 0]) ∧ w' = w := by
 go_enter Tryz.func151, Tryz.ntmps151
 go_wp2
 all_goals go_ret2
 all_goals exact ⟨rfl, rfl⟩
theorem kind_64891 (w : World) : Calls Tryz.prog 151 #[.int .i64 64891] w fun e w' => e = .returned (.tuple #[.int .i64 8, .int .i64 27]) ∧ w' = w := by
 go_enter Tryz.func151, Tryz.ntmps151
 go_wp2
 all_goals go_ret2
 all_goals exact ⟨rfl, rfl⟩
theorem kind_64892 (w : World) : Calls Tryz.prog 151 #[.int .i64 64892] w fun e w' => e = .returned (.tuple #[.int .i64 0, .int .i64 0]) ∧ w' = w := by
 go_enter Tryz.func151, Tryz.ntmps151
 go_wp2
 all_goals go_ret2
 all_goals exact ⟨rfl, rfl⟩
theorem kind_64893 (w : World) : Calls Tryz.prog 151 #[.int .i64 64893] w fun e w' => e = .returned (.tuple #[.int .i64 0, .int .i64 0]) ∧ w' = w := by
 go_enter Tryz.func151, Tryz.ntmps151
 go_wp2
 all_goals go_ret2
 all_goals exact ⟨rfl, rfl⟩
theorem kind_64894 (w : World) : Calls Tryz.prog 151 #[.int .i64 64894] w fun e w' => e = .returned (.tuple #[.int .i64 0, .int .i64 0]) ∧ w' = w := by
 go_enter Tryz.func151, Tryz.ntmps151
 go_wp2
 all_goals go_ret2
 all_goals exact ⟨rfl, rfl⟩
theorem kind_64895 (w : World) : Calls Tryz.prog 151 #[.int .i64 64895] w fun e w' => e = .returned (.tuple #[.int .i64 0, .int .i64 0]) ∧ w' = w := by
 go_enter Tryz.func151, Tryz.ntmps151
 go_wp2
 all_goals go_ret2
 all_goals exact ⟨rfl, rfl⟩
theorem kind_64896 (w : World) : Calls Tryz.prog 151 #[.int .i64 64896] w fun e w' => e = .returned (.tuple #[.int .i64 16, .int .i64 0]) ∧ w' = w := by
 go_enter Tryz.func151, Tryz.ntmps151
 go_wp2
 all_goals go_ret2
 all_goals exact ⟨rfl, rfl⟩
theorem kind_64897 (w : World) : Calls Tryz.prog 151 #[.int .i64 64897] w fun e w' => e = .returned (.tuple #[.int .i64 16, .int .i64 1]) ∧ w' = w := by
 go_enter Tryz.func151, Tryz.ntmps151
 go_wp2
 all_goals go_ret2
 all_goals exact ⟨rfl, rfl⟩
theorem kind_64898 (w : World) : Calls Tryz.prog 151 #[.int .i64 64898] w fun e w' => e = .returned (.tuple #[.int .i64 0, .int .i64 0]) ∧ w' = w := by
 go_enter Tryz.func151, Tryz.ntmps151
 go_wp2
 all_goals go_ret2
 all_goals exact ⟨rfl, rfl⟩
theorem kind_64899 (w : World) : Calls Tryz.prog 151 #[.int .i64 64899] w fun e w' => e = .returned (.tuple #[.int .i64 0, .int .i64 0]) ∧ w' = w := by
 go_enter Tryz.func151, Tryz.ntmps151
 go_wp2
 all_goals go_ret2
 all_goals exact ⟨rfl, rfl⟩
theorem kind_64900 (w : World) : Calls Tryz.prog 151 #[.int .i64 64900] w fun e w' => e = .returned (.tuple #[.int .i64 0, .int .i64 0]) ∧ w' = w := by
 go_enter Tryz.func151, Tryz.ntmps151
 go_wp2
 all_goals go_ret2
 all_goals exact ⟨rfl, rfl⟩
theorem kind_64901 (w : World) : Calls Tryz.prog 151 #[.int .i64 64901] w fun e w' => e = .returned (.tuple #[.int .i64 0, .int .i64 0]) ∧ w' = w := by
 go_enter Tryz.func151, Tryz.ntmps151
 go_wp2
 all_goals go_ret2
 all_goals exact ⟨rfl, rfl⟩
theorem kind_64902 (w : World) : Calls Tryz.prog 151 #[.int .i64 64902] w fun e w' => e = .returned (.tuple #[.int .i64 0, .int .i64 0]) ∧ w' = w := by
 go_enter Tryz.func151, Tryz.ntmps151
 go_wp2
 all_goals go_ret2
 all_goals exact ⟨rfl, rfl⟩
theorem kind_64903 (w : World) : Calls Tryz.prog 151 #[.int .i64 64903] w fun e w' => e = .returned (.tuple #[.int .i64 0, .int .i64 0]) ∧ w' = w := by
 go_enter Tryz.func151, Tryz.ntmps151
 go_wp2
 all_goals go_ret2
 all_goals exact ⟨rfl, rfl⟩
theorem kind_64904 (w : World) : Calls Tryz.prog 151 #[.int .i64 64904] w fun e w' => e = .returned (.tuple #[.int .i64 0, .int .i64 0]) ∧ w' = w := by
 go_enter Tryz.func151, Tryz.ntmps151
 go_wp2
 all_goals go_ret2
 all_goals exact ⟨rfl, rfl⟩
theorem kind_64905 (w : World) : Calls Tryz.prog 151 #[.int .i64 64905] w fun e w' => e = .returned (.tuple #[.int .i64 0, .int .i64 0]) ∧ w' = w := by
 go_enter Tryz.func151, Tryz.ntmps151
 go_wp2
 all_goals go_ret2
 all_goals exact ⟨rfl, rfl⟩
theorem kind_64906 (w : World) : Calls Tryz.prog 151 #[.int .i64 64906] w fun e w' => e = .returned (.tuple #[.int .i64 0, .int .i64 0]) ∧ w' = w := by
 go_enter Tryz.func151, Tryz.ntmps151
 go_wp2
 all_goals go_ret2
 all_goals exact ⟨rfl, rfl⟩
theorem kind_64907 (w : World) : Calls Tryz.prog 151 #[.int .i64 64907] w fun e w' => e = .returned (.tuple #[.int .i64 16, .int .i64 11]) ∧ w' = w := by
 go_enter Tryz.func151, Tryz.ntmps151
 go_wp2
 all_goals go_ret2
 all_goals exact ⟨rfl, rfl⟩
theorem kind_64908 (w : World) : Calls Tryz.prog 151 #[.int .i64 64908] w fun e w' => e = .returned (.tuple #[.int .i64 16, .int .i64 12]) ∧ w' = w := by
 go_enter Tryz.func151, Tryz.ntmps151
 go_wp2
 all_goals go_ret2
 all_goals exact ⟨rfl, rfl⟩
theorem kind_64909 (w : World) : Calls Tryz.prog 151 #[.int .i64 64909] w fun e w' => e = .returned (.tuple #[.int .i64 16, .int .i64 13]) ∧ w' = w := by
 go_enter Tryz.func151, Tryz.ntmps151
 go_wp2
 all_goals go_ret2
 all_goals exact ⟨rfl, rfl⟩
theorem kind_64910 (w : World) : Calls Tryz.prog 151 #[.int .i64 64910] w fun e w' => e = .returned (.tuple #[.int .i64 16, .int .i64 14]) ∧ w' = w := by
 go_enter Tryz.func151, Tryz.ntmps151
 go_wp2
 all_goals go_ret2
 all_goals exact ⟨rfl, rfl⟩
theorem kind_64911 (w : World) : Calls Tryz.prog 151 #[.int .i64 64911] w fun e w' => e = .returned (.tuple #[.int .i64 16, .int .i64 15]) ∧ w' = w := by
 go_enter Tryz.func151, Tryz.ntmps151
 go_wp2
 all_goals go_ret2
 all_goals exact ⟨rfl, rfl⟩
theorem kind_64912 (w : World) : Calls Tryz.prog 151 #[.int .i64 64912] w fun e w' => e = .returned (.tuple #[.int .i64 16, .int .i64 16]) ∧ w' = w := by
 go_enter Tryz.func151, Tryz.ntmps151
 go_wp2
 all_goals go_ret2
 all_goals exact ⟨rfl, rfl⟩
theorem kind_64913 (w : World) : Calls Tryz.prog 151 #[.int .i64 64913] w fun e w' => e = .returned (.tuple #[.int .i64 16, .int .i64 17]) ∧ w' = w := by
 go_enter Tryz.func151, Tryz.ntmps151
 go_wp2
 all_goals go_ret2
 all_goals exact ⟨rfl, rfl⟩
theorem kind_64914 (w : World) : Calls Tryz.prog 151 #[.int .i64 64914] w fun e w' => e = .returned (.tuple #[.int .i64 16, .int .i64 18]) ∧ w' = w := by
 go_enter Tryz.func151, Tryz.ntmps151
 go_wp2
 all_goals go_ret2
 all_goals exact ⟨rfl, rfl⟩
theorem kind_64915 (w : World) : Calls Tryz.prog 151 #[.int .i64 64915] w fun e w' => e = .returned (.tuple #[.int .i64 16, .int .i64 19]) ∧ w' = w := by
 go_enter Tryz.func151, Tryz.ntmps151
 go_wp2
 all_goals go_ret2
 all_goals exact ⟨rfl, rfl⟩
theorem kind_64916 (w : World) : Calls Tryz.prog 151 #[.int .i64 64916] w fun e w' => e = .returned (.tuple #[.int .i64 0, .int .i64 0]) ∧ w' = w := by
 go_enter Tryz.func151, Tryz.ntmps151
 go_wp2
 all_goals go_ret2
 all_goals exact ⟨rfl, rfl⟩
theorem kind_64917 (w : World) : Calls Tryz.prog 151 #[.int .i64 64917] w fun e w' => e = .returned (.tuple #[.int .i64 16, .int .i64 21]) ∧ w' = w := by
 go_enter Tryz.func151, Tryz.ntmps151
 go_wp2
 all_goals go_ret2
 all_goals exact ⟨rfl, rfl⟩
theorem kind_64918 (w : World) : Calls Tryz.prog 151 #[.int .i64 64918] w fun e w' => e = .returned (.tuple #[.int .i64 16, .int .i64 22]) ∧ w' = w := by
 go_enter Tryz.func151, Tryz.ntmps151
 go_wp2
 all_goals go_ret2
 all_goals exact ⟨rfl, rfl⟩
theorem kind_64919 (w : World) : Calls Tryz.prog 151 #[.int .i64 64919] w fun e w' => e = .returned (.tuple #[.int .i64 16, .int .i64 23]) ∧ w' = w := by
 go_enter Tryz.func151, Tryz.ntmps151
 go_wp2
 all_goals go_ret2
 all_goals exact ⟨rfl, rfl⟩
theorem kind_64920 (w : World) : Calls Tryz.prog 151 #[.int .i64 64920] w fun e w' => e = .returned (.tuple #[.int .i64 16, .int .i64 24]) ∧ w' = w := by
 go_enter Tryz.func151, Tryz.ntmps151
 go_wp2
 all_goals go_ret2
 all_goals exact ⟨rfl, rfl⟩
theorem kind_64921 (w : World) : Calls Tryz.prog 151 #[.int .i64 64921] w fun e w' => e = .returned (.tuple #[.int .i64 16, .int .i64 25]) ∧ w' = w := by
 go_enter Tryz.func151, Tryz.ntmps151
 go_wp2
 all_goals go_ret2
 all_goals exact ⟨rfl, rfl⟩
theorem kind_64922 (w : World) : Calls Tryz.prog 151 #[.int .i64 64922] w fun e w' => e = .returned (.tuple #[.int .i64 0, .int .i64 0]) ∧ w' = w := by
 go_enter Tryz.func151, Tryz.ntmps151
 go_wp2
 all_goals go_ret2
 all_goals exact ⟨rfl, rfl⟩
theorem kind_64923 (w : World) : Calls Tryz.prog 151 #[.int .i64 64923] w fun e w' => e = .returned (.tuple #[.int .i64 16, .int .i64 27]) ∧ w' = w := by
 go_enter Tryz.func151, Tryz.ntmps151
 go_wp2
 all_goals go_ret2
 all_goals exact ⟨rfl, rfl⟩
theorem kind_64924 (w : World) : Calls Tryz.prog 151 #[.int .i64 64924] w fun e w' => e = .returned (.tuple #[.int .i64 0, .int .i64 0]) ∧ w' = w := by
 go_enter Tryz.func151, Tryz.ntmps151
 go_wp2
 all_goals go_ret2
 all_goals exact ⟨rfl, rfl⟩
theorem kind_64925 (w : World) : Calls Tryz.prog 151 #[.int .i64 64925] w fun e w' => e = .returned (.tuple #[.int .i64 0, .int .i64 0]) ∧ w' = w := by
 go_enter Tryz.func151, Tryz.ntmps151
 go_wp2
 all_goals go_ret2
 all_goals exact ⟨rfl, rfl⟩
theorem kind_64926 (w : World) : Calls Tryz.prog 151 #[.int .i64 64926] w fun e w' => e = .returned (.tuple #[.int .i64 0, .int .i64 0]) ∧ w' = w := by
 go_enter Tryz.func151, Tryz.ntmps151
 go_wp2
 all_goals go_ret2
 all_goals exact ⟨rfl, rfl⟩
theorem kind_64927 (w : World) : Calls Tryz.prog 151 #[.int .i64 64927] w fun e w' => e = .returned (.tuple #[.int .i64 0, .int .i64 0]) ∧ w' = w := by
 go_enter Tryz.func151, Tryz.ntmps151
 go_wp2
 all_goals go_ret2
 all_goals exact ⟨rfl, rfl⟩
theorem kind_64928 (w : World) : Calls Tryz.prog 151 #[.int .i64 64928] w fun e w' => e = .returned (.tuple #[.int .i64 32, .int .i64 0]) ∧ w' = w := by
 go_enter Tryz.func151, Tryz.ntmps151
 go_wp2
 all_goals go_ret2
 all_goals exact ⟨rfl, rfl⟩
theorem kind_64929 (w : World) : Calls Tryz.prog 151 #[.int .i64 64929] w fun e w' => e = .returned (.tuple #[.int .i64 32, .int .i64 1]) ∧ w' = w := by
 go_enter Tryz.func151, Tryz.ntmps151
 go_wp2
 all_goals go_ret2
 all_goals exact ⟨rfl, rfl⟩
theorem kind_64930 (w : World) : Calls Tryz.prog 151 #[.int .i64 64930] w fun e w' => e = .returned (.tuple #[.int .i64 0, .int .i64 0]) ∧ w' = w := by
 go_enter Tryz.func151, Tryz.ntmps151
 go_wp2
 all_goals go_ret2
 all_goals exact ⟨rfl, rfl⟩
theorem kind_64931 (w : World) : Calls Tryz.prog 151 #[.int .i64 64931] w fun e w' => e = .returned (.tuple #[.int .i64 0, .int .i64 0]) ∧ w' = w := by
 go_enter Tryz.func151, Tryz.ntmps151
 go_wp2
 all_goals go_ret2
 all_goals exact ⟨rfl, rfl⟩
theorem kind_64932 (w : World) : Calls Tryz.prog 151 #[.int .i64 64932] w fun e w' => e = .returned (.tuple #[.int .i64 0, .int .i64 0]) ∧ w' = w := by
 go_enter Tryz.func151, Tryz.ntmps151
 go_wp2
 all_goals go_ret2
 all_goals exact ⟨rfl, rfl⟩
theorem kind_64933 (w : World) : Calls Tryz.prog 151 #[.int .i64 64933] w fun e w' => e = .returned (.tuple #[.int .i64 0, .int .i64 0]) ∧ w' = w := by
 go_enter Tryz.func151, Tryz.ntmps151
 go_wp2
 all_goals go_ret2
 all_goals exact ⟨rfl, rfl⟩
theorem kind_64934 (w : World) : Calls Tryz.prog 151 #[.int .i64 64934] w fun e w' => e = .returned (.tuple #[.int .i64 0, .int .i64 0]) ∧ w' = w := by
 go_enter Tryz.func151, Tryz.ntmps151
 go_wp2
 all_goals go_ret2
 all_goals exact ⟨rfl, rfl⟩
theorem kind_64935 (w : World) : Calls Tryz.prog 151 #[.int .i64 64935] w fun e w' => e = .returned (.tuple #[.int .i64 0, .int .i64 0]) ∧ w' = w := by
 go_enter Tryz.func151, Tryz.ntmps151
 go_wp2
 all_goals go_ret2
 all_goals exact ⟨rfl, rfl⟩
theorem kind_64936 (w : World) : Calls Tryz.prog 151 #[.int .i64 64936] w fun e w' => e = .returned (.tuple #[.int .i64 0, .int .i64 0]) ∧ w' = w := by
 go_enter Tryz.func151, Tryz.ntmps151
 go_wp2
 all_goals go_ret2
 all_goals exact ⟨rfl, rfl⟩
theorem kind_64937 (w : World) : Calls Tryz.prog 151 #[.int .i64 64937] w fun e w' => e = .returned (.tuple #[.int .i64 0, .int .i64 0]) ∧ w' = w := by
 go_enter Tryz.func151, Tryz.ntmps151
 go_wp2
 all_goals go_ret2
 all_goals exact ⟨rfl, rfl⟩
theorem kind_64938 (w : World) : Calls Tryz.prog 151 #[.int .i64 64938] w fun e w' => e = .returned (.tuple #[.int .i64 0, .int .i64 0]) ∧ w' = w := by
 go_enter Tryz.func151, Tryz.ntmps151
 go_wp2
 all_goals go_ret2
 all_goals exact ⟨rfl, rfl⟩
theorem kind_64939 (w : World) : Calls Tryz.prog 151 #[.int .i64 64939] w fun e w' => e = .returned (.tuple #[.int .i64 32, .int .i64 11]) ∧ w' = w := by
 go_enter Tryz.func151, Tryz.ntmps151
 go_wp2
 all_goals go_ret2
 all_goals exact ⟨rfl, rfl⟩
theorem kind_64940 (w : World) : Calls Tryz.prog 151 #[.int .i64 64940] w fun e w' => e = .returned (.tuple #[.int .i64 32, .int .i64 12]) ∧ w' = w := by
 go_enter Tryz.func151, Tryz.ntmps151
 go_wp2
 all_goals go_ret2
 all_goals exact ⟨rfl, rfl⟩
theorem kind_64941 (w : World) : Calls Tryz.prog 151 #[.int .i64 64941] w fun e w' => e = .returned (.tuple #[.int .i64 32, .int .i64 13]) ∧ w' = w := by
 go_enter Tryz.func151, Tryz.ntmps151
 go_wp2
 all_goals go_ret2
 all_goals exact ⟨rfl, rfl⟩
theorem kind_64942 (w : World) : Calls Tryz.prog 151 #[.int .i64 64942] w fun e w' => e = .returned (.tuple #[.int .i64 32, .int .i64 14]) ∧ w' = w := by
 go_enter Tryz.func151, Tryz.ntmps151
 go_wp2
 all_goals go_ret2
 all_goals exact ⟨rfl, rfl⟩
theorem kind_64943 (w : World) : Calls Tryz.prog 151 #[.int .i64 64943] w fun e w' => e = .returned (.tuple #[.int .i64 0, .int .i64 0]) ∧ w' = w := by
 go_enter Tryz.func151, Tryz.ntmps151
 go_wp2
 all_goals go_ret2
 all_goals exact ⟨rfl, rfl⟩
theorem kind_64944 (w : World) : Calls Tryz.prog 151 #[.int .i64 64944] w fun e w' => e = .returned (.tuple #[.int .i64 0, .int .i64 0]) ∧ w' = w := by
 go_enter Tryz.func151, Tryz.ntmps151
 go_wp2
 all_goals go_ret2
 all_goals exact ⟨rfl, rfl⟩
theorem kind_64945 (w : World) : Calls Tryz.prog 151 #[.int .i64 64945] w fun e w' => e = .returned (.tuple #[.int .i64 32, .int .i64 17]) ∧ w' = w := by
 go_enter Tryz.func151, Tryz.ntmps151
 go_wp2
 all_goals go_ret2
 all_goals exact ⟨rfl, rfl⟩
theorem kind_64946 (w : World) : Calls Tryz.prog 151 #[.int .i64 64946] w fun e w' => e = .returned (.tuple #[.int .i64 0, .int .i64 0]) ∧ w' = w := by
 go_enter Tryz.func151, Tryz.ntmps151
 go_wp2
 all_goals go_ret2
 all_goals exact ⟨rfl, rfl⟩
theorem kind_64947 (w : World) : Calls Tryz.prog 151 #[.int .i64 64947] w fun e w' => e = .returned (.tuple #[.int .i64 0, .int .i64 0]) ∧ w' = w := by
 go_enter Tryz.func151, Tryz.ntmps151
 go_wp2
 all_goals go_ret2
 all_goals exact ⟨rfl, rfl⟩
theorem kind_64948 (w : World) : Calls Tryz.prog 151 #[.int .i64 64948] w fun e w' => e = .returned (.tuple #[.int .i64 0, .int .i64 0]) ∧ w' = w := by
 go_enter Tryz.func151, Tryz.ntmps151
 go_wp2
 all_goals go_ret2
 all_goals exact ⟨rfl, rfl⟩
theorem kind_64949 (w : World) : Calls Tryz.prog 151 #[.int .i64 64949] w fun e w' => e = .returned (.tuple #[.int .i64 32, .int .i64 21]) ∧ w' = w := by
 go_enter Tryz.func151, Tryz.ntmps151
 go_wp2
 all_goals go_ret2
 all_goals exact ⟨rfl, rfl⟩
theorem kind_64950 (w : World) : Calls Tryz.prog 151 #[.int .i64 64950] w fun e w' => e = .returned (.tuple #[.int .i64 32, .int .i64 22]) ∧ w' = w := by
 go_enter Tryz.func151, Tryz.ntmps151
 go_wp2
 all_goals go_ret2
 all_goals exact ⟨rfl, rfl⟩
theorem kind_64951 (w : World) : Calls Tryz.prog 151 #[.int .i64 64951] w fun e w' => e = .returned (.tuple #[.int .i64 32, .int .i64 23]) ∧ w' = w := by
 go_enter Tryz.func151, Tryz.ntmps151
 go_wp2
 all_goals go_ret2
 all_goals exact ⟨rfl, rfl⟩
theorem kind_64952 (w : World) : Calls Tryz.prog 151 #[.int .i64 64952] w fun e w' => e = .returned (.tuple #[.int .i64 32, .int .i64 24]) ∧ w' = w := by
 go_enter Tryz.func151, Tryz.ntmps151
 go_wp2
 all_goals go_ret2
 all_goals exact ⟨rfl, rfl⟩
theorem kind_64953 (w : World) : Calls Tryz.prog 151 #[.int .i64 64953] w fun e w' => e = .returned (.tuple #[.int .i64 32, .int .i64 25]) ∧ w' = w := by
 go_enter Tryz.func151, Tryz.ntmps151
 go_wp2
 all_goals go_ret2
 all_goals exact ⟨rfl, rfl⟩
theorem kind_64954 (w : World) : Calls Tryz.prog 151 #[.int .i64 64954] w fun e w' => e = .returned (.tuple #[.int .i64 0, .int .i64 0]) ∧ w' = w := by
 go_enter Tryz.func151, Tryz.ntmps151
 go_wp2
 all_goals go_ret2
 all_goals exact ⟨rfl, rfl⟩
theorem kind_64955 (w : World) : Calls Tryz.prog 151 #[.int .i64 64955] w fun e w' => e = .returned (.tuple #[.int .i64 0, .int .i64 0]) ∧ w' = w := by
 go_enter Tryz.func151, Tryz.ntmps151
 go_wp2
 all_goals go_ret2
 all_goals exact ⟨rfl, rfl⟩
theorem kind_64956 (w : World) : Calls Tryz.prog 151 #[.int .i64 64956] w fun e w' => e = .returned (.tuple #[.int .i64 0, .int .i64 0]) ∧ w' = w := by
 go_enter Tryz.func151, Tryz.ntmps151
 go_wp2
 all_goals go_ret2
 all_goals exact ⟨rfl, rfl⟩
theorem kind_64957 (w : World) : Calls Tryz.prog 151 #[.int .i64 64957] w fun e w' => e = .returned (.tuple #[.int .i64 0, .int .i64 0]) ∧ w' = w := by
 go_enter Tryz.func151, Tryz.ntmps151
 go_wp2
 all_goals go_ret2
 all_goals exact ⟨rfl, rfl⟩
theorem kind_64958 (w : World) : Calls Tryz.prog 151 #[.int .i64 64958] w fun e w' => e = .returned (.tuple #[.int .i64 0, .int .i64 0]) ∧ w' = w := by
 go_enter Tryz.func151, Tryz.ntmps151
 go_wp2
 all_goals go_ret2
 all_goals exact ⟨rfl, rfl⟩
theorem kind_64959 (w : World) : Calls Tryz.prog 151 #[.int .i64 64959] w fun e w' => e = .returned (.tuple #[.int .i64 0, .int .i64 0]) ∧ w' = w := by
 go_enter Tryz.func151, Tryz.ntmps151
 go_wp2
 all_goals go_ret2
 all_goals exact ⟨rfl, rfl⟩
theorem kind_64960 (w : World) : Calls Tryz.prog 151 #[.int .i64 64960] w fun e w' => e = .returned (.tuple #[.int .i64 64, .int .i64 0]) ∧ w' = w := by
 go_enter Tryz.func151, Tryz.ntmps151
 go_wp2
 all_goals go_ret2
 all_goals exact ⟨rfl, rfl⟩
theorem kind_64961 (w : World) : Calls Tryz.prog 151 #[.int .i64 64961] w fun e w' => e = .returned (.tuple #[.int .i64 64, .int .i64 1]) ∧ w' = w := by
 go_enter Tryz.func151, Tryz.ntmps151
 go_wp2
 all_goals go_ret2
 all_goals exact ⟨rfl, rfl⟩
theorem kind_64962 (w : World) : Calls Tryz.prog 151 #[.int .i64 64962] w fun e w' => e = .returned (.tuple #[.int .i64 0, .int .i64 0]) ∧ w' = w := by
 go_enter Tryz.func151, Tryz.ntmps151
 go_wp2
 all_goals go_ret2
 all_goals exact ⟨rfl, rfl⟩
theorem kind_64963 (w : World) : Calls Tryz.prog 151 #[.int .i64 64963] w fun e w' => e = .returned (.tuple #[.int .i64 0, .int .i64 0]) ∧ w' = w := by
 go_enter Tryz.func151, Tryz.ntmps151
 go_wp2
 all_goals go_ret2
 all_goals exact ⟨rfl, rfl⟩
theorem kind_64964 (w : World) : Calls Tryz.prog 151 #[.int .i64 64964] w fun e w' => e = .returned (.tuple #[.int .i64 0, .int .i64 0]) ∧ w' = w := by
 go_enter Tryz.func151, Tryz.ntmps151
 go_wp2
 all_goals go_ret2
 all_goals exact ⟨rfl, rfl⟩
theorem kind_64965 (w : World) : Calls Tryz.prog 151 #[.int .i64 64965] w fun e w' => e = .returned (.tuple #[.int .i64 0, .int .i64 0]) ∧ w' = w := by
 go_enter Tryz.func151, Tryz.ntmps151
 go_wp2
 all_goals go_ret2
 all_goals exact ⟨rfl, rfl⟩
theorem kind_64966 (w : World) : Calls Tryz.prog 151 #[.int .i64 64966] w fun e w' => e = .returned (.tuple #[.int .i64 0, .int .i64 0]) ∧ w' = w := by
 go_enter Tryz.func151, Tryz.ntmps151
 go_wp2
 all_goals go_ret2
 all_goals exact ⟨rfl, rfl⟩
theorem kind_64967 (w : World) : Calls Tryz.prog 151 #[.int .i64 64967] w fun e w' => e = .returned (.tuple #[.int .i64 0, .int .i64 0]) ∧ w' = w := by
 go_enter Tryz.func151, Tryz.ntmps151
 go_wp2
 all_goals go_ret2
 all_goals exact ⟨rfl, rfl⟩
theorem kind_64968 (w : World) : Calls Tryz.prog 151 #[.int .i64 64968] w fun e w' => e = .returned (.tuple #[.int .i64 0, .int .i64 0]) ∧ w' = w := by
 go_enter Tryz.func151, Tryz.ntmps151
 go_wp2
 all_goals go_ret2
 all_goals exact ⟨rfl, rfl⟩
theorem kind_64969 (w : World) : Calls Tryz.prog 151 #[.int .i64 64969] w fun e w' => e = .returned (.tuple #[.int .i64 0, .int .i64 0]) ∧ w' = w := by
 go_enter Tryz.func151, Tryz.ntmps151
 go_wp2
 all_goals go_ret2
 all_goals exact ⟨rfl, rfl⟩
theorem kind_64970 (w : World) : Calls Tryz.prog 151 #[.int .i64 64970] w fun e w' => e = .returned (.tuple #[.int .i64 0, .int .i64 0]) ∧ w' = w := by
 go_enter Tryz.func151, Tryz.ntmps151
 go_wp2
 all_goals go_ret2
 all_goals exact ⟨rfl, rfl⟩
theorem kind_64971 (w : World) : Calls Tryz.prog 151 #[.int .i64 64971] w fun e w' => e = .returned (.tuple #[.int .i64 64, .int .i64 11]) ∧ w' = w := by
 go_enter Tryz.func151, Tryz.ntmps151
 go_wp2
 all_goals go_ret2
 all_goals exact ⟨rfl, rfl⟩
theorem kind_64972 (w : World) : Calls Tryz.prog 151 #[.int .i64 64972] w fun e w' => e = .returned (.tuple #[.int .i64 64, .int .i64 12]) ∧ w' = w := by
 go_enter Tryz.func151, Tryz.ntmps151
 go_wp2
 all_goals go_ret2
 all_goals exact ⟨rfl, rfl⟩
theorem kind_64973 (w : World) : Calls Tryz.prog 151 #[.int .i64 64973] w fun e w' => e = .returned (.tuple #[.int .i64 64, .int .i64 13]) ∧ w' = w := by
 go_enter Tryz.func151, Tryz.ntmps151
 go_wp2
 all_goals go_ret2
 all_goals exact ⟨rfl, rfl⟩
theorem kind_64974 (w : World) : Calls Tryz.prog 151 #[.int .i64 64974] w fun e w' => e = .returned (.tuple #[.int .i64 64, .int .i64 14]) ∧ w' = w := by
 go_enter Tryz.func151, Tryz.ntmps151
 go_wp2
 all_goals go_ret2
 all_goals exact ⟨rfl, rfl⟩
theorem kind_64975 (w : World) : Calls Tryz.prog 151 #[.int .i64 64975] w fun e w' => e = .returned (.tuple #[.int .i64 0, .int .i64 0]) ∧ w' = w := by
 go_enter Tryz.func151, Tryz.ntmps151
 go_wp2
 all_goals go_ret2
 all_goals exact ⟨rfl, rfl⟩
theorem kind_64976 (w : World) : Calls Tryz.prog 151 #[.int .i64 64976] w fun e w' => e = .returned (.tuple #[.int .i64 0, .int .i64 0]) ∧ w' = w := by
 go_enter Tryz.func151, Tryz.ntmps151
 go_wp2
 all_goals go_ret2
 all_goals exact ⟨rfl, rfl⟩
theorem kind_64977 (w : World) : Calls Tryz.prog 151 #[.int .i64 64977] w fun e w' => e = .returned (.tuple #[.int .i64 64, .int .i64 17]) ∧ w' = w := by
 go_enter Tryz.func151, Tryz.ntmps151
 go_wp2
 all_goals go_ret2
 all_goals exact ⟨rfl, rfl⟩
theorem kind_64978 (w : World) : Calls Tryz.prog 151 #[.int .i64 64978] w fun e w' => e = .returned (.tuple #[.int .i64 0, .int .i64 0]) ∧ w' = w := by
 go_enter Tryz.func151, Tryz.ntmps151
 go_wp2
 all_goals go_ret2
 all_goals exact ⟨rfl, rfl⟩
theorem kind_64979 (w : World) : Calls Tryz.prog 151 #[.int .i64 64979] w fun e w' => e = .returned (.tuple #[.int .i64 0, .int .i64 0]) ∧ w' = w := by
 go_enter Tryz.func151, Tryz.ntmps151
 go_wp2
 all_goals go_ret2
 all_goals exact ⟨rfl, rfl⟩
theorem kind_64980 (w : World) : Calls Tryz.prog 151 #[.int .i64 64980] w fun e w' => e = .returned (.tuple #[.int .i64 0, .int .i64 0]) ∧ w' = w := by
 go_enter Tryz.func151, Tryz.ntmps151
 go_wp2
 all_goals go_ret2
 all_goals exact ⟨rfl, rfl⟩
theorem kind_64981 (w : World) : Calls Tryz.prog 151 #[.int .i64 64981] w fun e w' => e = .returned (.tuple #[.int .i64 64, .int .i64 21]) ∧ w' = w := by
 go_enter Tryz.func151, Tryz.ntmps151
 go_wp2
 all_goals go_ret2
 all_goals exact ⟨rfl, rfl⟩
theorem kind_64982 (w : World) : Calls Tryz.prog 151 #[.int .i64 64982] w fun e w' => e = .returned (.tuple #[.int .i64 0, .int .i64 0]) ∧ w' = w := by
 go_enter Tryz.func151, Tryz.ntmps151
 go_wp2
 all_goals go_ret2
 all_goals exact ⟨rfl, rfl⟩
theorem kind_64983 (w : World) : Calls Tryz.prog 151 #[.int .i64 64983] w fun e w' => e = .returned (.tuple #[.int .i64 0, .int .i64 0]) ∧ w' = w := by
 go_enter Tryz.func151, Tryz.ntmps151
 go_wp2
 all_goals go_ret2
 all_goals exact ⟨rfl, rfl⟩
theorem kind_64984 (w : World) : Calls Tryz.prog 151 #[.int .i64 64984] w fun e w' => e = .returned (.tuple #[.int .i64 0, .int .i64 0]) ∧ w' = w := by
 go_enter Tryz.func151, Tryz.ntmps151
 go_wp2
 all_goals go_ret2
 all_goals exact ⟨rfl, rfl⟩
theorem kind_64985 (w : World) : Calls Tryz.prog 151 #[.int .i64 64985] w fun e w' => e = .returned (.tuple #[.int .i64 0, .int .i64 0]) ∧ w' = w := by
 go_enter Tryz.func151, Tryz.ntmps151
 go_wp2
 all_goals go_ret2
 all_goals exact ⟨rfl, rfl⟩
theorem kind_64986 (w : World) : Calls Tryz.prog 151 #[.int .i64 64986] w fun e w' => e = .returned (.tuple #[.int .i64 0, .int .i64 0]) ∧ w' = w := by
 go_enter Tryz.func151, Tryz.ntmps151
 go_wp2
 all_goals go_ret2
 all_goals exact ⟨rfl, rfl⟩
theorem kind_64987 (w : World) : Calls Tryz.prog 151 #[.int .i64 64987] w fun e w' => e = .returned (.tuple #[.int .i64 0, .int .i64 0]) ∧ w' = w := by
 go_enter Tryz.func151, Tryz.ntmps151
 go_wp2
 all_goals go_ret2
 all_goals exact ⟨rfl, rfl⟩
theorem kind_64988 (w : World) : Calls Tryz.prog 151 #[.int .i64 64988] w fun e w' => e = .returned (.tuple #[.int .i64 0, .int .i64 0]) ∧ w' = w := by
 go_enter Tryz.func151, Tryz.ntmps151
 go_wp2
 all_goals go_ret2
 all_goals exact ⟨rfl, rfl⟩
theorem kind_64989 (w : World) : Calls Tryz.prog 151 #[.int .i64 64989] w fun e w' => e = .returned (.tuple #[.int .i64 0, .int .i64 0]) ∧ w' = w := by
 go_enter Tryz.func151, Tryz.ntmps151
 go_wp2
 all_goals go_ret2
 all_goals exact ⟨rfl, rfl⟩
theorem kind_64990 (w : World) : Calls Tryz.prog 151 #[.int .i64 64990] w fun e w' => e = .returned (.tuple #[.int .i64 0, .int .i64 0]) ∧ w' = w := by
 go_enter Tryz.func151, Tryz.ntmps151
 go_wp2
 all_goals go_ret2
 all_goals exact ⟨rfl, rfl⟩
theorem kind_64991 (w : World) : Calls Tryz.prog 151 #[.int .i64 64991] w fun e w' => e = .returned (.tuple #[.int .i64 0, .int .i64 0]) ∧ w' = w := by
 go_enter Tryz.func151, Tryz.ntmps151
 go_wp2
 all_goals go_ret2
 all_goals exact ⟨rfl, rfl⟩
theorem kind_none (op κ : Int) (w : World) (hκ : wrap64 (wrap64 (op - 64768) - 96) = κ) (h : κ < 0 ∨ 128 ≤ κ) : Calls Tryz.prog 151 #[.int .i64 op] w fun e w' => e = .returned (.tuple #[.int .i64 0, .int .i64 0]) ∧ w' = w := by
 rcases h with h | h
 all_goals
  go_enter Tryz.func151, Tryz.ntmps151
  go_wp2
  all_goals go_ret2
  all_goals exact ⟨rfl, rfl⟩
theorem lane_8_14 (x y : Nat) (s t : Int) (w : World) (hx : x < 256) (hy : y < 256) (hs : -128 ≤ s ∧ s < 128) (ht : -128 ≤ t ∧ t < 128) :
  Calls Tryz.prog 155 #[.int .i64 8, .int .i64 14, .int .u64 (x : Int), .int .u64 (y : Int), .int .i64 s, .int .i64 t] w fun e w' => e = .returned (.int .u64 ((Pl.u64 (laneZ 8 14 x y s t) : Nat) : Int)) ∧ Below w.heap.size w w' := by
 go_enter Tryz.func155, Tryz.ntmps155
 go_wp2
 all_goals (try go_region)
 all_goals go_wp2
 all_goals go_ret
 all_goals refine ⟨ret_u64i ?_, (by first | exact Below.refl _ _ | exact (Below.refl _ _).drew | exact (Below.refl _ _).drew.drew)⟩
 all_goals (rw [show laneZ 8 14 x y s t = (x : Int) + y from rfl]; (try simp only [IntKind.wrap_u64]); (try go_bits); unfold Pl.u64; omega)
theorem lane_8_17 (x y : Nat) (s t : Int) (w : World) (hx : x < 256) (hy : y < 256) (hs : -128 ≤ s ∧ s < 128) (ht : -128 ≤ t ∧ t < 128) :
  Calls Tryz.prog 155 #[.int .i64 8, .int .i64 17, .int .u64 (x : Int), .int .u64 (y : Int), .int .i64 s, .int .i64 t] w fun e w' => e = .returned (.int .u64 ((Pl.u64 (laneZ 8 17 x y s t) : Nat) : Int)) ∧ Below w.heap.size w w' := by
 go_enter Tryz.func155, Tryz.ntmps155
 go_wp2
 all_goals (try go_region)
 all_goals go_wp2
 all_goals go_ret
 all_goals refine ⟨ret_u64i ?_, (by first | exact Below.refl _ _ | exact (Below.refl _ _).drew | exact (Below.refl _ _).drew.drew)⟩
 all_goals (rw [show laneZ 8 17 x y s t = (x : Int) - y from rfl]; (try simp only [IntKind.wrap_u64]); (try go_bits); unfold Pl.u64; omega)
theorem lane_8_15 (x y : Nat) (s t : Int) (w : World) (hx : x < 256) (hy : y < 256) (hs : -128 ≤ s ∧ s < 128) (ht : -128 ≤ t ∧ t < 128) :
  Calls Tryz.prog 155 #[.int .i64 8, .int .i64 15, .int .u64 (x : Int), .int .u64 (y : Int), .int .i64 s, .int .i64 t] w fun e w' => e = .returned (.int .u64 ((Pl.u64 (laneZ 8 15 x y s t) : Nat) : Int)) ∧ Below w.heap.size w w' := by
 go_enter Tryz.func155, Tryz.ntmps155
 go_wp2
 all_goals (try go_region)
 all_goals go_wp2
 all_goals go_ret
 all_goals refine ⟨ret_u64i ?_, (by first | exact Below.refl _ _ | exact (Below.refl _ _).drew | exact (Below.refl _ _).drew.drew)⟩
 all_goals (rw [show laneZ 8 15 x y s t = min (max (s + t) (-128)) 127 from rfl]; (try simp only [IntKind.wrap_u64]); (try go_bits); unfold Pl.u64; omega)
theorem lane_8_16 (x y : Nat) (s t : Int) (w : World) (hx : x < 256) (hy : y < 256) (hs : -128 ≤ s ∧ s < 128) (ht : -128 ≤ t ∧ t < 128) :
  Calls Tryz.prog 155 #[.int .i64 8, .int .i64 16, .int .u64 (x : Int), .int .u64 (y : Int), .int .i64 s, .int .i64 t] w fun e w' => e = .returned (.int .u64 ((Pl.u64 (laneZ 8 16 x y s t) : Nat) : Int)) ∧ Below w.heap.size w w' := by
 go_enter Tryz.func155, Tryz.ntmps155
 go_wp2
 all_goals (try go_region)
 all_goals go_wp2
 all_goals go_ret
 all_goals refine ⟨ret_u64i ?_, (by first | exact Below.refl _ _ | exact (Below.refl _ _).drew | exact (Below.refl _ _).drew.drew)⟩
 all_goals (rw [show laneZ 8 16 x y s t = min ((x : Int) + y) 255 from rfl]; (try simp only [IntKind.wrap_u64]); (try go_bits); unfold Pl.u64; omega)
theorem lane_8_18 (x y : Nat) (s t : Int) (w : World) (hx : x < 256) (hy : y < 256) (hs : -128 ≤ s ∧ s < 128) (ht : -128 ≤ t ∧ t < 128) :
  Calls Tryz.prog 155 #[.int .i64 8, .int .i64 18, .int .u64 (x : Int), .int .u64 (y : Int), .int .i64 s, .int .i64 t] w fun e w' => e = .returned (.int .u64 ((Pl.u64 (laneZ 8 18 x y s t) : Nat) : Int)) ∧ Below w.heap.size w w' := by
 go_enter Tryz.func155, Tryz.ntmps155
 go_wp2
 all_goals (try go_region)
 all_goals go_wp2
 all_goals go_ret
 all_goals refine ⟨ret_u64i ?_, (by first | exact Below.refl _ _ | exact (Below.refl _ _).drew | exact (Below.refl _ _).drew.drew)⟩
 all_goals (rw [show laneZ 8 18 x y s t = min (max (s - t) (-128)) 127 from rfl]; (try simp only [IntKind.wrap_u64]); (try go_bits); unfold Pl.u64; omega)
theorem lane_8_19 (x y : Nat) (s t : Int) (w : World) (hx : x < 256) (hy : y < 256) (hs : -128 ≤ s ∧ s < 128) (ht : -128 ≤ t ∧ t < 128) :
  Calls Tryz.prog 155 #[.int .i64 8, .int .i64 19, .int .u64 (x : Int), .int .u64 (y : Int), .int .i64 s, .int .i64 t] w fun e w' => e = .returned (.int .u64 ((Pl.u64 (laneZ 8 19 x y s t) : Nat) : Int)) ∧ Below w.heap.size w w' := by
 go_enter Tryz.func155, Tryz.ntmps155
 go_wp2
 all_goals (try go_region)
 all_goals go_wp2
 all_goals go_ret
 all_goals refine ⟨ret_u64i ?_, (by first | exact Below.refl _ _ | exact (Below.refl _ _).drew | exact (Below.refl _ _).drew.drew)⟩
 all_goals (rw [show laneZ 8 19 x y s t = (x : Int) - ((min x y : Nat) : Int) from rfl]; (try simp only [IntKind.wrap_u64]); (try go_bits); unfold Pl.u64; omega)
theorem lane_8_27 (x y : Nat) (s t : Int) (w : World) (hx : x < 256) (hy : y < 256) (hs : -128 ≤ s ∧ s < 128) (ht : -128 ≤ t ∧ t < 128) :
  Calls Tryz.prog 155 #[.int .i64 8, .int .i64 27, .int .u64 (x : Int), .int .u64 (y : Int), .int .i64 s, .int .i64 t] w fun e w' => e = .returned (.int .u64 ((Pl.u64 (laneZ 8 27 x y s t) : Nat) : Int)) ∧ Below w.heap.size w w' := by
 go_enter Tryz.func155, Tryz.ntmps155
 go_wp2
 all_goals (try go_region)
 all_goals go_wp2
 all_goals go_ret
 all_goals refine ⟨ret_u64i ?_, (by first | exact Below.refl _ _ | exact (Below.refl _ _).drew | exact (Below.refl _ _).drew.drew)⟩
 all_goals (rw [show laneZ 8 27 x y s t = ((x : Int) + y + 1) / 2 from rfl]; (try simp only [IntKind.wrap_u64]); (try go_bits); unfold Pl.u64; omega)
theorem lane_8_22 (x y : Nat) (s t : Int) (w : World) (hx : x < 256) (hy : y < 256) (hs : -128 ≤ s ∧ s < 128) (ht : -128 ≤ t ∧ t < 128) :
  Calls Tryz.prog 155 #[.int .i64 8, .int .i64 22, .int .u64 (x : Int), .int .u64 (y : Int), .int .i64 s, .int .i64 t] w fun e w' => e = .returned (.int .u64 ((Pl.u64 (laneZ 8 22 x y s t) : Nat) : Int)) ∧ Below w.heap.size w w' := by
 go_enter Tryz.func155, Tryz.ntmps155
 go_wp2
 all_goals (try go_region)
 all_goals go_wp2
 all_goals go_ret
 all_goals refine ⟨ret_u64i ?_, (by first | exact Below.refl _ _ | exact (Below.refl _ _).drew | exact (Below.refl _ _).drew.drew)⟩
 all_goals (rw [show laneZ 8 22 x y s t = min s t from rfl]; (try simp only [IntKind.wrap_u64]); (try go_bits); unfold Pl.u64; omega)
theorem lane_8_23 (x y : Nat) (s t : Int) (w : World) (hx : x < 256) (hy : y < 256) (hs : -128 ≤ s ∧ s < 128) (ht : -128 ≤ t ∧ t < 128) :
  Calls Tryz.prog 155 #[.int .i64 8, .int .i64 23, .int .u64 (x : Int), .int .u64 (y : Int), .int .i64 s, .int .i64 t] w fun e w' => e = .returned (.int .u64 ((Pl.u64 (laneZ 8 23 x y s t) : Nat) : Int)) ∧ Below w.heap.size w w' := by
 go_enter Tryz.func155, Tryz.ntmps155
 go_wp2
 all_goals (try go_region)
 all_goals go_wp2
 all_goals go_ret
 all_goals refine ⟨ret_u64i ?_, (by first | exact Below.refl _ _ | exact (Below.refl _ _).drew | exact (Below.refl _ _).drew.drew)⟩
 all_goals (rw [show laneZ 8 23 x y s t = min (x : Int) y from rfl]; (try simp only [IntKind.wrap_u64]); (try go_bits); unfold Pl.u64; omega)
theorem lane_8_24 (x y : Nat) (s t : Int) (w : World) (hx : x < 256) (hy : y < 256) (hs : -128 ≤ s ∧ s < 128) (ht : -128 ≤ t ∧ t < 128) :
  Calls Tryz.prog 155 #[.int .i64 8, .int .i64 24, .int .u64 (x : Int), .int .u64 (y : Int), .int .i64 s, .int .i64 t] w fun e w' => e = .returned (.int .u64 ((Pl.u64 (laneZ 8 24 x y s t) : Nat) : Int)) ∧ Below w.heap.size w w' := by
 go_enter Tryz.func155, Tryz.ntmps155
 go_wp2
 all_goals (try go_region)
 all_goals go_wp2
 all_goals go_ret
 all_goals refine ⟨ret_u64i ?_, (by first | exact Below.refl _ _ | exact (Below.refl _ _).drew | exact (Below.refl _ _).drew.drew)⟩
 all_goals (rw [show laneZ 8 24 x y s t = max s t from rfl]; (try simp only [IntKind.wrap_u64]); (try go_bits); unfold Pl.u64; omega)
theorem lane_8_25 (x y : Nat) (s t : Int) (w : World) (hx : x < 256) (hy : y < 256) (hs : -128 ≤ s ∧ s < 128) (ht : -128 ≤ t ∧ t < 128) :
  Calls Tryz.prog 155 #[.int .i64 8, .int .i64 25, .int .u64 (x : Int), .int .u64 (y : Int), .int .i64 s, .int .i64 t] w fun e w' => e = .returned (.int .u64 ((Pl.u64 (laneZ 8 25 x y s t) : Nat) : Int)) ∧ Below w.heap.size w w' := by
 go_enter Tryz.func155, Tryz.ntmps155
 go_wp2
 all_goals (try go_region)
 all_goals go_wp2
 all_goals go_ret
 all_goals refine ⟨ret_u64i ?_, (by first | exact Below.refl _ _ | exact (Below.refl _ _).drew | exact (Below.refl _ _).drew.drew)⟩
 all_goals (rw [show laneZ 8 25 x y s t = max (x : Int) y from rfl]; (try simp only [IntKind.wrap_u64]); (try go_bits); unfold Pl.u64; omega)
theorem lane_16_14 (x y : Nat) (s t : Int) (w : World) (hx : x < 65536) (hy : y < 65536) (hs : -32768 ≤ s ∧ s < 32768) (ht : -32768 ≤ t ∧ t < 32768) :
  Calls Tryz.prog 155 #[.int .i64 16, .int .i64 14, .int .u64 (x : Int), .int .u64 (y : Int), .int .i64 s, .int .i64 t] w fun e w' => e = .returned (.int .u64 ((Pl.u64 (laneZ 16 14 x y s t) : Nat) : Int)) ∧ Below w.heap.size w w' := by
 go_enter Tryz.func155, Tryz.ntmps155
 go_wp2
 all_goals (try go_region)
 all_goals go_wp2
 all_goals go_ret
 all_goals refine ⟨ret_u64i ?_, (by first | exact Below.refl _ _ | exact (Below.refl _ _).drew | exact (Below.refl _ _).drew.drew)⟩
 all_goals (rw [show laneZ 16 14 x y s t = (x : Int) + y from rfl]; (try simp only [IntKind.wrap_u64]); (try go_bits); unfold Pl.u64; omega)
theorem lane_16_17 (x y : Nat) (s t : Int) (w : World) (hx : x < 65536) (hy : y < 65536) (hs : -32768 ≤ s ∧ s < 32768) (ht : -32768 ≤ t ∧ t < 32768) :
  Calls Tryz.prog 155 #[.int .i64 16, .int .i64 17, .int .u64 (x : Int), .int .u64 (y : Int), .int .i64 s, .int .i64 t] w fun e w' => e = .returned (.int .u64 ((Pl.u64 (laneZ 16 17 x y s t) : Nat) : Int)) ∧ Below w.heap.size w w' := by
 go_enter Tryz.func155, Tryz.ntmps155
 go_wp2
 all_goals (try go_region)
 all_goals go_wp2
 all_goals go_ret
 all_goals refine ⟨ret_u64i ?_, (by first | exact Below.refl _ _ | exact (Below.refl _ _).drew | exact (Below.refl _ _).drew.drew)⟩
 all_goals (rw [show laneZ 16 17 x y s t = (x : Int) - y from rfl]; (try simp only [IntKind.wrap_u64]); (try go_bits); unfold Pl.u64; omega)
theorem lane_16_15 (x y : Nat) (s t : Int) (w : World) (hx : x < 65536) (hy : y < 65536) (hs : -32768 ≤ s ∧ s < 32768) (ht : -32768 ≤ t ∧ t < 32768) :
  Calls Tryz.prog 155 #[.int .i64 16, .int .i64 15, .int .u64 (x : Int), .int .u64 (y : Int), .int .i64 s, .int .i64 t] w fun e w' => e = .returned (.int .u64 ((Pl.u64 (laneZ 16 15 x y s t) : Nat) : Int)) ∧ Below w.heap.size w w' := by
 go_enter Tryz.func155, Tryz.ntmps155
 go_wp2
 all_goals (try go_region)
 all_goals go_wp2
 all_goals go_ret
 all_goals refine ⟨ret_u64i ?_, (by first | exact Below.refl _ _ | exact (Below.refl _ _).drew | exact (Below.refl _ _).drew.drew)⟩
 all_goals (rw [show laneZ 16 15 x y s t = min (max (s + t) (-32768)) 32767 from rfl]; (try simp only [IntKind.wrap_u64]); (try go_bits); unfold Pl.u64; omega)
theorem lane_16_16 (x y : Nat) (s t : Int) (w : World) (hx : x < 65536) (hy : y < 65536) (hs : -32768 ≤ s ∧ s < 32768) (ht : -32768 ≤ t ∧ t < 32768) :
  Calls Tryz.prog 155 #[.int .i64 16, .int .i64 16, .int .u64 (x : Int), .int .u64 (y : Int), .int .i64 s, .int .i64 t] w fun e w' => e = .returned (.int .u64 ((Pl.u64 (laneZ 16 16 x y s t) : Nat) : Int)) ∧ Below w.heap.size w w' := by
 go_enter Tryz.func155, Tryz.ntmps155
 go_wp2
 all_goals (try go_region)
 all_goals go_wp2
 all_goals go_ret
 all_goals refine ⟨ret_u64i ?_, (by first | exact Below.refl _ _ | exact (Below.refl _ _).drew | exact (Below.refl _ _).drew.drew)⟩
 all_goals (rw [show laneZ 16 16 x y s t = min ((x : Int) + y) 65535 from rfl]; (try simp only [IntKind.wrap_u64]); (try go_bits); unfold Pl.u64; omega)
theorem lane_16_18 (x y : Nat) (s t : Int) (w : World) (hx : x < 65536) (hy : y < 65536) (hs : -32768 ≤ s ∧ s < 32768) (ht : -32768 ≤ t ∧ t < 32768) :
  Calls Tryz.prog 155 #[.int .i64 16, .int .i64 18, .int .u64 (x : Int), .int .u64 (y : Int), .int .i64 s, .int .i64 t] w fun e w' => e = .returned (.int .u64 ((Pl.u64 (laneZ 16 18 x y s t) : Nat) : Int)) ∧ Below w.heap.size w w' := by
 go_enter Tryz.func155, Tryz.ntmps155
 go_wp2
 all_goals (try go_region)
 all_goals go_wp2
 all_goals go_ret
 all_goals refine ⟨ret_u64i ?_, (by first | exact Below.refl _ _ | exact (Below.refl _ _).drew | exact (Below.refl _ _).drew.drew)⟩
 all_goals (rw [show laneZ 16 18 x y s t = min (max (s - t) (-32768)) 32767 from rfl]; (try simp only [IntKind.wrap_u64]); (try go_bits); unfold Pl.u64; omega)
theorem lane_16_19 (x y : Nat) (s t : Int) (w : World) (hx : x < 65536) (hy : y < 65536) (hs : -32768 ≤ s ∧ s < 32768) (ht : -32768 ≤ t ∧ t < 32768) :
  Calls Tryz.prog 155 #[.int .i64 16, .int .i64 19, .int .u64 (x : Int), .int .u64 (y : Int), .int .i64 s, .int .i64 t] w fun e w' => e = .returned (.int .u64 ((Pl.u64 (laneZ 16 19 x y s t) : Nat) : Int)) ∧ Below w.heap.size w w' := by
 go_enter Tryz.func155, Tryz.ntmps155
 go_wp2
 all_goals (try go_region)
 all_goals go_wp2
 all_goals go_ret
 all_goals refine ⟨ret_u64i ?_, (by first | exact Below.refl _ _ | exact (Below.refl _ _).drew | exact (Below.refl _ _).drew.drew)⟩
 all_goals (rw [show laneZ 16 19 x y s t = (x : Int) - ((min x y : Nat) : Int) from rfl]; (try simp only [IntKind.wrap_u64]); (try go_bits); unfold Pl.u64; omega)
theorem lane_16_27 (x y : Nat) (s t : Int) (w : World) (hx : x < 65536) (hy : y < 65536) (hs : -32768 ≤ s ∧ s < 32768) (ht : -32768 ≤ t ∧ t < 32768) :
  Calls Tryz.prog 155 #[.int .i64 16, .int .i64 27, .int .u64 (x : Int), .int .u64 (y : Int), .int .i64 s, .int .i64 t] w fun e w' => e = .returned (.int .u64 ((Pl.u64 (laneZ 16 27 x y s t) : Nat) : Int)) ∧ Below w.heap.size w w' := by
 go_enter Tryz.func155, Tryz.ntmps155
 go_wp2
 all_goals (try go_region)
 all_goals go_wp2
 all_goals go_ret
 all_goals refine ⟨ret_u64i ?_, (by first | exact Below.refl _ _ | exact (Below.refl _ _).drew | exact (Below.refl _ _).drew.drew)⟩
 all_goals (rw [show laneZ 16 27 x y s t = ((x : Int) + y + 1) / 2 from rfl]; (try simp only [IntKind.wrap_u64]); (try go_bits); unfold Pl.u64; omega)
theorem lane_16_21 (x y : Nat) (s t : Int) (w : World) (hx : x < 65536) (hy : y < 65536) (hs : -32768 ≤ s ∧ s < 32768) (ht : -32768 ≤ t ∧ t < 32768) :
  Calls Tryz.prog 155 #[.int .i64 16, .int .i64 21, .int .u64 (x : Int), .int .u64 (y : Int), .int .i64 s, .int .i64 t] w fun e w' => e = .returned (.int .u64 ((Pl.u64 (laneZ 16 21 x y s t) : Nat) : Int)) ∧ Below w.heap.size w w' := by
 go_enter Tryz.func155, Tryz.ntmps155
 go_wp2
 all_goals (try go_region)
 all_goals go_wp2
 all_goals go_ret
 all_goals refine ⟨ret_u64i ?_, (by first | exact Below.refl _ _ | exact (Below.refl _ _).drew | exact (Below.refl _ _).drew.drew)⟩
 all_goals (rw [show laneZ 16 21 x y s t = (x : Int) * y from rfl]; (try simp only [IntKind.wrap_u64]); (try go_bits); unfold Pl.u64; omega)
theorem lane_16_22 (x y : Nat) (s t : Int) (w : World) (hx : x < 65536) (hy : y < 65536) (hs : -32768 ≤ s ∧ s < 32768) (ht : -32768 ≤ t ∧ t < 32768) :
  Calls Tryz.prog 155 #[.int .i64 16, .int .i64 22, .int .u64 (x : Int), .int .u64 (y : Int), .int .i64 s, .int .i64 t] w fun e w' => e = .returned (.int .u64 ((Pl.u64 (laneZ 16 22 x y s t) : Nat) : Int)) ∧ Below w.heap.size w w' := by
 go_enter Tryz.func155, Tryz.ntmps155
 go_wp2
 all_goals (try go_region)
 all_goals go_wp2
 all_goals go_ret
 all_goals refine ⟨ret_u64i ?_, (by first | exact Below.refl _ _ | exact (Below.refl _ _).drew | exact (Below.refl _ _).drew.drew)⟩
 all_goals (rw [show laneZ 16 22 x y s t = min s t from rfl]; (try simp only [IntKind.wrap_u64]); (try go_bits); unfold Pl.u64; omega)
theorem lane_16_23 (x y : Nat) (s t : Int) (w : World) (hx : x < 65536) (hy : y < 65536) (hs : -32768 ≤ s ∧ s < 32768) (ht : -32768 ≤ t ∧ t < 32768) :
  Calls Tryz.prog 155 #[.int .i64 16, .int .i64 23, .int .u64 (x : Int), .int .u64 (y : Int), .int .i64 s, .int .i64 t] w fun e w' => e = .returned (.int .u64 ((Pl.u64 (laneZ 16 23 x y s t) : Nat) : Int)) ∧ Below w.heap.size w w' := by
 go_enter Tryz.func155, Tryz.ntmps155
 go_wp2
 all_goals (try go_region)
 all_goals go_wp2
 all_goals go_ret
 all_goals refine ⟨ret_u64i ?_, (by first | exact Below.refl _ _ | exact (Below.refl _ _).drew | exact (Below.refl _ _).drew.drew)⟩
 all_goals (rw [show laneZ 16 23 x y s t = min (x : Int) y from rfl]; (try simp only [IntKind.wrap_u64]); (try go_bits); unfold Pl.u64; omega)
theorem lane_16_24 (x y : Nat) (s t : Int) (w : World) (hx : x < 65536) (hy : y < 65536) (hs : -32768 ≤ s ∧ s < 32768) (ht : -32768 ≤ t ∧ t < 32768) :
  Calls Tryz.prog 155 #[.int .i64 16, .int .i64 24, .int .u64 (x : Int), .int .u64 (y : Int), .int .i64 s, .int .i64 t] w fun e w' => e = .returned (.int .u64 ((Pl.u64 (laneZ 16 24 x y s t) : Nat) : Int)) ∧ Below w.heap.size w w' := by
 go_enter Tryz.func155, Tryz.ntmps155
 go_wp2
 all_goals (try go_region)
 all_goals go_wp2
 all_goals go_ret
 all_goals refine ⟨ret_u64i ?_, (by first | exact Below.refl _ _ | exact (Below.refl _ _).drew | exact (Below.refl _ _).drew.drew)⟩
 all_goals (rw [show laneZ 16 24 x y s t = max s t from rfl]; (try simp only [IntKind.wrap_u64]); (try go_bits); unfold Pl.u64; omega)
theorem lane_16_25 (x y : Nat) (s t : Int) (w : World) (hx : x < 65536) (hy : y < 65536) (hs : -32768 ≤ s ∧ s < 32768) (ht : -32768 ≤ t ∧ t < 32768) :
  Calls Tryz.prog 155 #[.int .i64 16, .int .i64 25, .int .u64 (x : Int), .int .u64 (y : Int), .int .i64 s, .int .i64 t] w fun e w' => e = .returned (.int .u64 ((Pl.u64 (laneZ 16 25 x y s t) : Nat) : Int)) ∧ Below w.heap.size w w' := by
 go_enter Tryz.func155, Tryz.ntmps155
 go_wp2
 all_goals (try go_region)
 all_goals go_wp2
 all_goals go_ret
 all_goals refine ⟨ret_u64i ?_, (by first | exact Below.refl _ _ | exact (Below.refl _ _).drew | exact (Below.refl _ _).drew.drew)⟩
 all_goals (rw [show laneZ 16 25 x y s t = max (x : Int) y from rfl]; (try simp only [IntKind.wrap_u64]); (try go_bits); unfold Pl.u64; omega)
theorem lane_32_14 (x y : Nat) (s t : Int) (w : World) (hx : x < 4294967296) (hy : y < 4294967296) (hs : -2147483648 ≤ s ∧ s < 2147483648) (ht : -2147483648 ≤ t ∧ t < 2147483648) :
  Calls Tryz.prog 155 #[.int .i64 32, .int .i64 14, .int .u64 (x : Int), .int .u64 (y : Int), .int .i64 s, .int .i64 t] w fun e w' => e = .returned (.int .u64 ((Pl.u64 (laneZ 32 14 x y s t) : Nat) : Int)) ∧ Below w.heap.size w w' := by
 go_enter Tryz.func155, Tryz.ntmps155
 go_wp2
 all_goals (try go_region)
 all_goals go_wp2
 all_goals go_ret
 all_goals refine ⟨ret_u64i ?_, (by first | exact Below.refl _ _ | exact (Below.refl _ _).drew | exact (Below.refl _ _).drew.drew)⟩
 all_goals (rw [show laneZ 32 14 x y s t = (x : Int) + y from rfl]; (try simp only [IntKind.wrap_u64]); (try go_bits); unfold Pl.u64; omega)
theorem lane_32_17 (x y : Nat) (s t : Int) (w : World) (hx : x < 4294967296) (hy : y < 4294967296) (hs : -2147483648 ≤ s ∧ s < 2147483648) (ht : -2147483648 ≤ t ∧ t < 2147483648) :
  Calls Tryz.prog 155 #[.int .i64 32, .int .i64 17, .int .u64 (x : Int), .int .u64 (y : Int), .int .i64 s, .int .i64 t] w fun e w' => e = .returned (.int .u64 ((Pl.u64 (laneZ 32 17 x y s t) : Nat) : Int)) ∧ Below w.heap.size w w' := by
 go_enter Tryz.func155, Tryz.ntmps155
 go_wp2
 all_goals (try go_region)
 all_goals go_wp2
 all_goals go_ret
 all_goals refine ⟨ret_u64i ?_, (by first | exact Below.refl _ _ | exact (Below.refl _ _).drew | exact (Below.refl _ _).drew.drew)⟩
 all_goals (rw [show laneZ 32 17 x y s t = (x : Int) - y from rfl]; (try simp only [IntKind.wrap_u64]); (try go_bits); unfold Pl.u64; omega)
theorem lane_32_21 (x y : Nat) (s t : Int) (w : World) (hx : x < 4294967296) (hy : y < 4294967296) (hs : -2147483648 ≤ s ∧ s < 2147483648) (ht : -2147483648 ≤ t ∧ t < 2147483648) :
  Calls Tryz.prog 155 #[.int .i64 32, .int .i64 21, .int .u64 (x : Int), .int .u64 (y : Int), .int .i64 s, .int .i64 t] w fun e w' => e = .returned (.int .u64 ((Pl.u64 (laneZ 32 21 x y s t) : Nat) : Int)) ∧ Below w.heap.size w w' := by
 go_enter Tryz.func155, Tryz.ntmps155
 go_wp2
 all_goals (try go_region)
 all_goals go_wp2
 all_goals go_ret
 all_goals refine ⟨ret_u64i ?_, (by first | exact Below.refl _ _ | exact (Below.refl _ _).drew | exact (Below.refl _ _).drew.drew)⟩
 all_goals (rw [show laneZ 32 21 x y s t = (x : Int) * y from rfl]; (try simp only [IntKind.wrap_u64]); (try go_bits); unfold Pl.u64; omega)
theorem lane_32_22 (x y : Nat) (s t : Int) (w : World) (hx : x < 4294967296) (hy : y < 4294967296) (hs : -2147483648 ≤ s ∧ s < 2147483648) (ht : -2147483648 ≤ t ∧ t < 2147483648) :
  Calls Tryz.prog 155 #[.int .i64 32, .int .i64 22, .int .u64 (x : Int), .int .u64 (y : Int), .int .i64 s, .int .i64 t] w fun e w' => e = .returned (.int .u64 ((Pl.u64 (laneZ 32 22 x y s t) : Nat) : Int)) ∧ Below w.heap.size w w' := by
 go_enter Tryz.func155, Tryz.ntmps155
 go_wp2
 all_goals (try go_region)
 all_goals go_wp2
 all_goals go_ret
 all_goals refine ⟨ret_u64i ?_, (by first | exact Below.refl _ _ | exact (Below.refl _ _).drew | exact (Below.refl _ _).drew.drew)⟩
 all_goals (rw [show laneZ 32 22 x y s t = min s t from rfl]; (try simp only [IntKind.wrap_u64]); (try go_bits); unfold Pl.u64; omega)
theorem lane_32_23 (x y : Nat) (s t : Int) (w : World) (hx : x < 4294967296) (hy : y < 4294967296) (hs : -2147483648 ≤ s ∧ s < 2147483648) (ht : -2147483648 ≤ t ∧ t < 2147483648) :
  Calls Tryz.prog 155 #[.int .i64 32, .int .i64 23, .int .u64 (x : Int), .int .u64 (y : Int), .int .i64 s, .int .i64 t] w fun e w' => e = .returned (.int .u64 ((Pl.u64 (laneZ 32 23 x y s t) : Nat) : Int)) ∧ Below w.heap.size w w' := by
 go_enter Tryz.func155, Tryz.ntmps155
 go_wp2
 all_goals (try go_region)
 all_goals go_wp2
 all_goals go_ret
 all_goals refine ⟨ret_u64i ?_, (by first | exact Below.refl _ _ | exact (Below.refl _ _).drew | exact (Below.refl _ _).drew.drew)⟩
 all_goals (rw [show laneZ 32 23 x y s t = min (x : Int) y from rfl]; (try simp only [IntKind.wrap_u64]); (try go_bits); unfold Pl.u64; omega)
theorem lane_32_24 (x y : Nat) (s t : Int) (w : World) (hx : x < 4294967296) (hy : y < 4294967296) (hs : -2147483648 ≤ s ∧ s < 2147483648) (ht : -2147483648 ≤ t ∧ t < 2147483648) :
  Calls Tryz.prog 155 #[.int .i64 32, .int .i64 24, .int .u64 (x : Int), .int .u64 (y : Int), .int .i64 s, .int .i64 t] w fun e w' => e = .returned (.int .u64 ((Pl.u64 (laneZ 32 24 x y s t) : Nat) : Int)) ∧ Below w.heap.size w w' := by
 go_enter Tryz.func155, Tryz.ntmps155
 go_wp2
 all_goals (try go_region)
 all_goals go_wp2
 all_goals go_ret
 all_goals refine ⟨ret_u64i ?_, (by first | exact Below.refl _ _ | exact (Below.refl _ _).drew | exact (Below.refl _ _).drew.drew)⟩
 all_goals (rw [show laneZ 32 24 x y s t = max s t from rfl]; (try simp only [IntKind.wrap_u64]); (try go_bits); unfold Pl.u64; omega)
theorem lane_32_25 (x y : Nat) (s t : Int) (w : World) (hx : x < 4294967296) (hy : y < 4294967296) (hs : -2147483648 ≤ s ∧ s < 2147483648) (ht : -2147483648 ≤ t ∧ t < 2147483648) :
  Calls Tryz.prog 155 #[.int .i64 32, .int .i64 25, .int .u64 (x : Int), .int .u64 (y : Int), .int .i64 s, .int .i64 t] w fun e w' => e = .returned (.int .u64 ((Pl.u64 (laneZ 32 25 x y s t) : Nat) : Int)) ∧ Below w.heap.size w w' := by
 go_enter Tryz.func155, Tryz.ntmps155
 go_wp2
 all_goals (try go_region)
 all_goals go_wp2
 all_goals go_ret
 all_goals refine ⟨ret_u64i ?_, (by first | exact Below.refl _ _ | exact (Below.refl _ _).drew | exact (Below.refl _ _).drew.drew)⟩
 all_goals (rw [show laneZ 32 25 x y s t = max (x : Int) y from rfl]; (try simp only [IntKind.wrap_u64]); (try go_bits); unfold Pl.u64; omega)
theorem lane_64_14 (x y : Nat) (s t : Int) (w : World) (hx : x < 18446744073709551616) (hy : y < 18446744073709551616) (hs : -9223372036854775808 ≤ s ∧ s < 9223372036854775808) (ht : -9223372036854775808 ≤ t ∧ t < 9223372036854775808) :
  Calls Tryz.prog 155 #[.int .i64 64, .int .i64 14, .int .u64 (x : Int), .int .u64 (y : Int), .int .i64 s, .int .i64 t] w fun e w' => e = .returned (.int .u64 ((Pl.u64 (laneZ 64 14 x y s t) : Nat) : Int)) ∧ Below w.heap.size w w' := by
 go_enter Tryz.func155, Tryz.ntmps155
 go_wp2
 all_goals (try go_region)
 all_goals go_wp2
 all_goals go_ret
 all_goals refine ⟨ret_u64i ?_, (by first | exact Below.refl _ _ | exact (Below.refl _ _).drew | exact (Below.refl _ _).drew.drew)⟩
 all_goals (rw [show laneZ 64 14 x y s t = (x : Int) + y from rfl]; (try simp only [IntKind.wrap_u64]); (try go_bits); unfold Pl.u64; omega)
theorem lane_64_17 (x y : Nat) (s t : Int) (w : World) (hx : x < 18446744073709551616) (hy : y < 18446744073709551616) (hs : -9223372036854775808 ≤ s ∧ s < 9223372036854775808) (ht : -9223372036854775808 ≤ t ∧ t < 9223372036854775808) :
  Calls Tryz.prog 155 #[.int .i64 64, .int .i64 17, .int .u64 (x : Int), .int .u64 (y : Int), .int .i64 s, .int .i64 t] w fun e w' => e = .returned (.int .u64 ((Pl.u64 (laneZ 64 17 x y s t) : Nat) : Int)) ∧ Below w.heap.size w w' := by
 go_enter Tryz.func155, Tryz.ntmps155
 go_wp2
 all_goals (try go_region)
 all_goals go_wp2
 all_goals go_ret
 all_goals refine ⟨ret_u64i ?_, (by first | exact Below.refl _ _ | exact (Below.refl _ _).drew | exact (Below.refl _ _).drew.drew)⟩
 all_goals (rw [show laneZ 64 17 x y s t = (x : Int) - y from rfl]; (try simp only [IntKind.wrap_u64]); (try go_bits); unfold Pl.u64; omega)
theorem lane_64_21 (x y : Nat) (s t : Int) (w : World) (hx : x < 18446744073709551616) (hy : y < 18446744073709551616) (hs : -9223372036854775808 ≤ s ∧ s < 9223372036854775808) (ht : -9223372036854775808 ≤ t ∧ t < 9223372036854775808) :
  Calls Tryz.prog 155 #[.int .i64 64, .int .i64 21, .int .u64 (x : Int), .int .u64 (y : Int), .int .i64 s, .int .i64 t] w fun e w' => e = .returned (.int .u64 ((Pl.u64 (laneZ 64 21 x y s t) : Nat) : Int)) ∧ Below w.heap.size w w' := by
 go_enter Tryz.func155, Tryz.ntmps155
 go_wp2
 all_goals (try go_region)
 all_goals go_wp2
 all_goals go_ret
 all_goals refine ⟨ret_u64i ?_, (by first | exact Below.refl _ _ | exact (Below.refl _ _).drew | exact (Below.refl _ _).drew.drew)⟩
 all_goals (rw [show laneZ 64 21 x y s t = (x : Int) * y from rfl]; (try simp only [IntKind.wrap_u64]); (try go_bits); unfold Pl.u64; omega)
end Go.Proofs.YtebpijlmeemfaaaGreatDoor
end
