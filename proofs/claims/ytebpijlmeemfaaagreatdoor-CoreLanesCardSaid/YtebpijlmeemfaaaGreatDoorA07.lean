/- A part of the proof that plaittop.CoreLanes returns true. -/
import Derived.Test.YtebpijlmeemfaaaGreatDoorA02
import Derived.Test.YtebpijlmeemfaaaGreatDoorA06
set_option linter.all false
set_option linter.unusedSectionVars false
set_option linter.unusedSimpArgs false
set_option linter.unusedVariables false
section
namespace Pl
open Go
def kF (op : Int) : Int := (op - 64768) % 32
def unV (op : Int) (v : Vec) : Vec × Int := if wF op ≠ 0 ∧ kF op ≤ 2 then (vu3 (wF op).toNat (kF op).toNat v, 0) else (0, 1)
def binV (op : Int) (a b : Vec) : Vec × Int := if wF op ≠ 0 ∧ 14 ≤ kF op then (vb (wF op).toNat (kF op).toNat a b, 0) else (0, 1)
def shV (op : Int) (v : Vec) (n : Nat) : Vec × Int := if wF op ≠ 0 ∧ 11 ≤ kF op ∧ kF op ≤ 13 then (vs (wF op).toNat (kF op).toNat (n % (wF op).toNat) v, 0) else (0, 1)
end Pl
namespace Go.Proofs.YtebpijlmeemfaaaGreatDoor
open Go.RowKit Pl
theorem vrow_out (op : Int) (h : op < 64864 ∨ 64991 < op) : wF op = 0 := by
 unfold wF row0 row1 row2 row3
 simp only [List.contains_cons, List.contains_nil, Bool.or_false, Bool.or_eq_true, beq_iff_eq]
 rw [if_neg (by omega), if_neg (by omega), if_neg (by omega), if_neg (by omega)]
theorem vkind_in (op : Int) (j : Nat) (hj : j < 128) (h : op = 64864 + (j : Int)) : ∃ z k : Int, (∀ W, Calls Tryz.prog 151 #[.int .i64 op] W fun e w' => e = .returned (.tuple #[.int .i64 z, .int .i64 k]) ∧ w' = W) ∧ z = wF op ∧ (z ≠ 0 → k = (op - 64768) % 32) :=
 match j, hj with
 | 0, _ => by
  obtain rfl : op = 64864 := by omega
  exact ⟨_, _, kind_64864, by decide, by decide⟩
 | 1, _ => by
  obtain rfl : op = 64865 := by omega
  exact ⟨_, _, kind_64865, by decide, by decide⟩
 | 2, _ => by
  obtain rfl : op = 64866 := by omega
  exact ⟨_, _, kind_64866, by decide, by decide⟩
 | 3, _ => by
  obtain rfl : op = 64867 := by omega
  exact ⟨_, _, kind_64867, by decide, by decide⟩
 | 4, _ => by
  obtain rfl : op = 64868 := by omega
  exact ⟨_, _, kind_64868, by decide, by decide⟩
 | 5, _ => by
  obtain rfl : op = 64869 := by omega
  exact ⟨_, _, kind_64869, by decide, by decide⟩
 | 6, _ => by
  obtain rfl : op = 64870 := by omega
  exact ⟨_, _, kind_64870, by decide, by decide⟩
 | 7, _ => by
  obtain rfl : op = 64871 := by omega
  exact ⟨_, _, kind_64871, by decide, by decide⟩
 | 8, _ => by
  obtain rfl : op = 64872 := by omega
  exact ⟨_, _, kind_64872, by decide, by decide⟩
 | 9, _ => by
  obtain rfl : op = 64873 := by omega
  exact ⟨_, _, kind_64873, by decide, by decide⟩
 | 10, _ => by
  obtain rfl : op = 64874 := by omega
  exact ⟨_, _, kind_64874, by decide, by decide⟩
 | 11, _ => by
  obtain rfl : op = 64875 := by omega
  exact ⟨_, _, kind_64875, by decide, by decide⟩
 | 12, _ => by
  obtain rfl : op = 64876 := by omega
  exact ⟨_, _, kind_64876, by decide, by decide⟩
 | 13, _ => by
  obtain rfl : op = 64877 := by omega
  exact ⟨_, _, kind_64877, by decide, by decide⟩
 | 14, _ => by
  obtain rfl : op = 64878 := by omega
  exact ⟨_, _, kind_64878, by decide, by decide⟩
 | 15, _ => by
  obtain rfl : op = 64879 := by omega
  exact ⟨_, _, kind_64879, by decide, by decide⟩
 | 16, _ => by
  obtain rfl : op = 64880 := by omega
  exact ⟨_, _, kind_64880, by decide, by decide⟩
 | 17, _ => by
  obtain rfl : op = 64881 := by omega
  exact ⟨_, _, kind_64881, by decide, by decide⟩
 | 18, _ => by
  obtain rfl : op = 64882 := by omega
  exact ⟨_, _, kind_64882, by decide, by decide⟩
 | 19, _ => by
  obtain rfl : op = 64883 := by omega
  exact ⟨_, _, kind_64883, by decide, by decide⟩
 | 20, _ => by
  obtain rfl : op = 64884 := by omega
  exact ⟨_, _, kind_64884, by decide, by decide⟩
 | 21, _ => by
  obtain rfl : op = 64885 := by omega
  exact ⟨_, _, kind_64885, by decide, by decide⟩
 | 22, _ => by
  obtain rfl : op = 64886 := by omega
  exact ⟨_, _, kind_64886, by decide, by decide⟩
 | 23, _ => by
  obtain rfl : op = 64887 := by omega
  exact ⟨_, _, kind_64887, by decide, by decide⟩
 | 24, _ => by
  obtain rfl : op = 64888 := by omega
  exact ⟨_, _, kind_64888, by decide, by decide⟩
 | 25, _ => by
  obtain rfl : op = 64889 := by omega
  exact ⟨_, _, kind_64889, by decide, by decide⟩
 | 26, _ => by
  obtain rfl : op = 64890 := by omega
  exact ⟨_, _, kind_64890, by decide, by decide⟩
 | 27, _ => by
  obtain rfl : op = 64891 := by omega
  exact ⟨_, _, kind_64891, by decide, by decide⟩
 | 28, _ => by
  obtain rfl : op = 64892 := by omega
  exact ⟨_, _, kind_64892, by decide, by decide⟩
 | 29, _ => by
  obtain rfl : op = 64893 := by omega
  exact ⟨_, _, kind_64893, by decide, by decide⟩
 | 30, _ => by
  obtain rfl : op = 64894 := by omega
  exact ⟨_, _, kind_64894, by decide, by decide⟩
 | 31, _ => by
  obtain rfl : op = 64895 := by omega
  exact ⟨_, _, kind_64895, by decide, by decide⟩
 | 32, _ => by
  obtain rfl : op = 64896 := by omega
  exact ⟨_, _, kind_64896, by decide, by decide⟩
 | 33, _ => by
  obtain rfl : op = 64897 := by omega
  exact ⟨_, _, kind_64897, by decide, by decide⟩
 | 34, _ => by
  obtain rfl : op = 64898 := by omega
  exact ⟨_, _, kind_64898, by decide, by decide⟩
 | 35, _ => by
  obtain rfl : op = 64899 := by omega
  exact ⟨_, _, kind_64899, by decide, by decide⟩
 | 36, _ => by
  obtain rfl : op = 64900 := by omega
  exact ⟨_, _, kind_64900, by decide, by decide⟩
 | 37, _ => by
  obtain rfl : op = 64901 := by omega
  exact ⟨_, _, kind_64901, by decide, by decide⟩
 | 38, _ => by
  obtain rfl : op = 64902 := by omega
  exact ⟨_, _, kind_64902, by decide, by decide⟩
 | 39, _ => by
  obtain rfl : op = 64903 := by omega
  exact ⟨_, _, kind_64903, by decide, by decide⟩
 | 40, _ => by
  obtain rfl : op = 64904 := by omega
  exact ⟨_, _, kind_64904, by decide, by decide⟩
 | 41, _ => by
  obtain rfl : op = 64905 := by omega
  exact ⟨_, _, kind_64905, by decide, by decide⟩
 | 42, _ => by
  obtain rfl : op = 64906 := by omega
  exact ⟨_, _, kind_64906, by decide, by decide⟩
 | 43, _ => by
  obtain rfl : op = 64907 := by omega
  exact ⟨_, _, kind_64907, by decide, by decide⟩
 | 44, _ => by
  obtain rfl : op = 64908 := by omega
  exact ⟨_, _, kind_64908, by decide, by decide⟩
 | 45, _ => by
  obtain rfl : op = 64909 := by omega
  exact ⟨_, _, kind_64909, by decide, by decide⟩
 | 46, _ => by
  obtain rfl : op = 64910 := by omega
  exact ⟨_, _, kind_64910, by decide, by decide⟩
 | 47, _ => by
  obtain rfl : op = 64911 := by omega
  exact ⟨_, _, kind_64911, by decide, by decide⟩
 | 48, _ => by
  obtain rfl : op = 64912 := by omega
  exact ⟨_, _, kind_64912, by decide, by decide⟩
 | 49, _ => by
  obtain rfl : op = 64913 := by omega
  exact ⟨_, _, kind_64913, by decide, by decide⟩
 | 50, _ => by
  obtain rfl : op = 64914 := by omega
  exact ⟨_, _, kind_64914, by decide, by decide⟩
 | 51, _ => by
  obtain rfl : op = 64915 := by omega
  exact ⟨_, _, kind_64915, by decide, by decide⟩
 | 52, _ => by
  obtain rfl : op = 64916 := by omega
  exact ⟨_, _, kind_64916, by decide, by decide⟩
 | 53, _ => by
  obtain rfl : op = 64917 := by omega
  exact ⟨_, _, kind_64917, by decide, by decide⟩
 | 54, _ => by
  obtain rfl : op = 64918 := by omega
  exact ⟨_, _, kind_64918, by decide, by decide⟩
 | 55, _ => by
  obtain rfl : op = 64919 := by omega
  exact ⟨_, _, kind_64919, by decide, by decide⟩
 | 56, _ => by
  obtain rfl : op = 64920 := by omega
  exact ⟨_, _, kind_64920, by decide, by decide⟩
 | 57, _ => by
  obtain rfl : op = 64921 := by omega
  exact ⟨_, _, kind_64921, by decide, by decide⟩
 | 58, _ => by
  obtain rfl : op = 64922 := by omega
  exact ⟨_, _, kind_64922, by decide, by decide⟩
 | 59, _ => by
  obtain rfl : op = 64923 := by omega
  exact ⟨_, _, kind_64923, by decide, by decide⟩
 | 60, _ => by
  obtain rfl : op = 64924 := by omega
  exact ⟨_, _, kind_64924, by decide, by decide⟩
 | 61, _ => by
  obtain rfl : op = 64925 := by omega
  exact ⟨_, _, kind_64925, by decide, by decide⟩
 | 62, _ => by
  obtain rfl : op = 64926 := by omega
  exact ⟨_, _, kind_64926, by decide, by decide⟩
 | 63, _ => by
  obtain rfl : op = 64927 := by omega
  exact ⟨_, _, kind_64927, by decide, by decide⟩
 | 64, _ => by
  obtain rfl : op = 64928 := by omega
  exact ⟨_, _, kind_64928, by decide, by decide⟩
 | 65, _ => by
  obtain rfl : op = 64929 := by omega
  exact ⟨_, _, kind_64929, by decide, by decide⟩
 | 66, _ => by
  obtain rfl : op = 64930 := by omega
  exact ⟨_, _, kind_64930, by decide, by decide⟩
 | 67, _ => by
  obtain rfl : op = 64931 := by omega
  exact ⟨_, _, kind_64931, by decide, by decide⟩
 | 68, _ => by
  obtain rfl : op = 64932 := by omega
  exact ⟨_, _, kind_64932, by decide, by decide⟩
 | 69, _ => by
  obtain rfl : op = 64933 := by omega
  exact ⟨_, _, kind_64933, by decide, by decide⟩
 | 70, _ => by
  obtain rfl : op = 64934 := by omega
  exact ⟨_, _, kind_64934, by decide, by decide⟩
 | 71, _ => by
  obtain rfl : op = 64935 := by omega
  exact ⟨_, _, kind_64935, by decide, by decide⟩
 | 72, _ => by
  obtain rfl : op = 64936 := by omega
  exact ⟨_, _, kind_64936, by decide, by decide⟩
 | 73, _ => by
  obtain rfl : op = 64937 := by omega
  exact ⟨_, _, kind_64937, by decide, by decide⟩
 | 74, _ => by
  obtain rfl : op = 64938 := by omega
  exact ⟨_, _, kind_64938, by decide, by decide⟩
 | 75, _ => by
  obtain rfl : op = 64939 := by omega
  exact ⟨_, _, kind_64939, by decide, by decide⟩
 | 76, _ => by
  obtain rfl : op = 64940 := by omega
  exact ⟨_, _, kind_64940, by decide, by decide⟩
 | 77, _ => by
  obtain rfl : op = 64941 := by omega
  exact ⟨_, _, kind_64941, by decide, by decide⟩
 | 78, _ => by
  obtain rfl : op = 64942 := by omega
  exact ⟨_, _, kind_64942, by decide, by decide⟩
 | 79, _ => by
  obtain rfl : op = 64943 := by omega
  exact ⟨_, _, kind_64943, by decide, by decide⟩
 | 80, _ => by
  obtain rfl : op = 64944 := by omega
  exact ⟨_, _, kind_64944, by decide, by decide⟩
 | 81, _ => by
  obtain rfl : op = 64945 := by omega
  exact ⟨_, _, kind_64945, by decide, by decide⟩
 | 82, _ => by
  obtain rfl : op = 64946 := by omega
  exact ⟨_, _, kind_64946, by decide, by decide⟩
 | 83, _ => by
  obtain rfl : op = 64947 := by omega
  exact ⟨_, _, kind_64947, by decide, by decide⟩
 | 84, _ => by
  obtain rfl : op = 64948 := by omega
  exact ⟨_, _, kind_64948, by decide, by decide⟩
 | 85, _ => by
  obtain rfl : op = 64949 := by omega
  exact ⟨_, _, kind_64949, by decide, by decide⟩
 | 86, _ => by
  obtain rfl : op = 64950 := by omega
  exact ⟨_, _, kind_64950, by decide, by decide⟩
 | 87, _ => by
  obtain rfl : op = 64951 := by omega
  exact ⟨_, _, kind_64951, by decide, by decide⟩
 | 88, _ => by
  obtain rfl : op = 64952 := by omega
  exact ⟨_, _, kind_64952, by decide, by decide⟩
 | 89, _ => by
  obtain rfl : op = 64953 := by omega
  exact ⟨_, _, kind_64953, by decide, by decide⟩
 | 90, _ => by
  obtain rfl : op = 64954 := by omega
  exact ⟨_, _, kind_64954, by decide, by decide⟩
 | 91, _ => by
  obtain rfl : op = 64955 := by omega
  exact ⟨_, _, kind_64955, by decide, by decide⟩
 | 92, _ => by
  obtain rfl : op = 64956 := by omega
  exact ⟨_, _, kind_64956, by decide, by decide⟩
 | 93, _ => by
  obtain rfl : op = 64957 := by omega
  exact ⟨_, _, kind_64957, by decide, by decide⟩
 | 94, _ => by
  obtain rfl : op = 64958 := by omega
  exact ⟨_, _, kind_64958, by decide, by decide⟩
 | 95, _ => by
  obtain rfl : op = 64959 := by omega
  exact ⟨_, _, kind_64959, by decide, by decide⟩
 | 96, _ => by
  obtain rfl : op = 64960 := by omega
  exact ⟨_, _, kind_64960, by decide, by decide⟩
 | 97, _ => by
  obtain rfl : op = 64961 := by omega
  exact ⟨_, _, kind_64961, by decide, by decide⟩
 | 98, _ => by
  obtain rfl : op = 64962 := by omega
  exact ⟨_, _, kind_64962, by decide, by decide⟩
 | 99, _ => by
  obtain rfl : op = 64963 := by omega
  exact ⟨_, _, kind_64963, by decide, by decide⟩
 | 100, _ => by
  obtain rfl : op = 64964 := by omega
  exact ⟨_, _, kind_64964, by decide, by decide⟩
 | 101, _ => by
  obtain rfl : op = 64965 := by omega
  exact ⟨_, _, kind_64965, by decide, by decide⟩
 | 102, _ => by
  obtain rfl : op = 64966 := by omega
  exact ⟨_, _, kind_64966, by decide, by decide⟩
 | 103, _ => by
  obtain rfl : op = 64967 := by omega
  exact ⟨_, _, kind_64967, by decide, by decide⟩
 | 104, _ => by
  obtain rfl : op = 64968 := by omega
  exact ⟨_, _, kind_64968, by decide, by decide⟩
 | 105, _ => by
  obtain rfl : op = 64969 := by omega
  exact ⟨_, _, kind_64969, by decide, by decide⟩
 | 106, _ => by
  obtain rfl : op = 64970 := by omega
  exact ⟨_, _, kind_64970, by decide, by decide⟩
 | 107, _ => by
  obtain rfl : op = 64971 := by omega
  exact ⟨_, _, kind_64971, by decide, by decide⟩
 | 108, _ => by
  obtain rfl : op = 64972 := by omega
  exact ⟨_, _, kind_64972, by decide, by decide⟩
 | 109, _ => by
  obtain rfl : op = 64973 := by omega
  exact ⟨_, _, kind_64973, by decide, by decide⟩
 | 110, _ => by
  obtain rfl : op = 64974 := by omega
  exact ⟨_, _, kind_64974, by decide, by decide⟩
 | 111, _ => by
  obtain rfl : op = 64975 := by omega
  exact ⟨_, _, kind_64975, by decide, by decide⟩
 | 112, _ => by
  obtain rfl : op = 64976 := by omega
  exact ⟨_, _, kind_64976, by decide, by decide⟩
 | 113, _ => by
  obtain rfl : op = 64977 := by omega
  exact ⟨_, _, kind_64977, by decide, by decide⟩
 | 114, _ => by
  obtain rfl : op = 64978 := by omega
  exact ⟨_, _, kind_64978, by decide, by decide⟩
 | 115, _ => by
  obtain rfl : op = 64979 := by omega
  exact ⟨_, _, kind_64979, by decide, by decide⟩
 | 116, _ => by
  obtain rfl : op = 64980 := by omega
  exact ⟨_, _, kind_64980, by decide, by decide⟩
 | 117, _ => by
  obtain rfl : op = 64981 := by omega
  exact ⟨_, _, kind_64981, by decide, by decide⟩
 | 118, _ => by
  obtain rfl : op = 64982 := by omega
  exact ⟨_, _, kind_64982, by decide, by decide⟩
 | 119, _ => by
  obtain rfl : op = 64983 := by omega
  exact ⟨_, _, kind_64983, by decide, by decide⟩
 | 120, _ => by
  obtain rfl : op = 64984 := by omega
  exact ⟨_, _, kind_64984, by decide, by decide⟩
 | 121, _ => by
  obtain rfl : op = 64985 := by omega
  exact ⟨_, _, kind_64985, by decide, by decide⟩
 | 122, _ => by
  obtain rfl : op = 64986 := by omega
  exact ⟨_, _, kind_64986, by decide, by decide⟩
 | 123, _ => by
  obtain rfl : op = 64987 := by omega
  exact ⟨_, _, kind_64987, by decide, by decide⟩
 | 124, _ => by
  obtain rfl : op = 64988 := by omega
  exact ⟨_, _, kind_64988, by decide, by decide⟩
 | 125, _ => by
  obtain rfl : op = 64989 := by omega
  exact ⟨_, _, kind_64989, by decide, by decide⟩
 | 126, _ => by
  obtain rfl : op = 64990 := by omega
  exact ⟨_, _, kind_64990, by decide, by decide⟩
 | 127, _ => by
  obtain rfl : op = 64991 := by omega
  exact ⟨_, _, kind_64991, by decide, by decide⟩
 | n + 128, hj => absurd hj (by omega)
theorem vkind_any (op : Int) (ho : -9223372036854775808 ≤ op ∧ op ≤ 9223372036854775807) : ∃ z k : Int, (∀ W, Calls Tryz.prog 151 #[.int .i64 op] W fun e w' => e = .returned (.tuple #[.int .i64 z, .int .i64 k]) ∧ w' = W) ∧ z = wF op ∧ (z ≠ 0 → 64864 ≤ op ∧ op ≤ 64991 ∧ k = (op - 64768) % 32) := by
 by_cases h : op < 64864 ∨ 64991 < op
 ·refine ⟨0, 0, fun W => kind_none op (wrap64 (wrap64 (op - 64768) - 96)) W rfl (by unfold wrap64; omega), (vrow_out op h).symm, fun h => absurd rfl h⟩
 ·obtain ⟨z, k, h1, h2, h3⟩ := vkind_in op (op - 64864).toNat (by omega) (by omega)
  exact ⟨z, k, h1, h2, fun hz => ⟨by omega, by omega, h3 hz⟩⟩
theorem vbin_both_ops : ∀ j : Fin 128, wF (64864 + (j.val : Int)) ≠ 0 → 14 ≤ ((64864 + (j.val : Int) - 64768) % 32) → (64864 + (j.val : Int)) ∈ ([64878, 64879, 64880, 64881, 64882, 64883, 64886, 64887, 64888, 64889, 64891, 64910, 64911, 64912, 64913, 64914, 64915, 64917, 64918, 64919, 64920, 64921, 64923, 64942, 64945, 64949, 64950, 64951, 64952, 64953, 64974, 64977, 64981] : List Int) := by decide +kernel
theorem bin_p (op : Int) (a b : Vec) (w : World) (ho : -9223372036854775808 ≤ op ∧ op ≤ 9223372036854775807) :
  Calls Tryz.prog 89 #[.int .i64 op, .agg (cells a), .agg (cells b)] w fun e w' => e = .returned (.tuple #[.agg (cells (binV op a b).1), .int .i64 (binV op a b).2]) ∧ Below w.heap.size w w' := by
 obtain ⟨z, k, hK, hz, hk⟩ := vkind_any op ho
 by_cases hg : z ≠ 0 ∧ 14 ≤ k
 ·obtain ⟨r1, r2, r3⟩ := hk hg.1
  have hm := vbin_both_ops ⟨(op - 64864).toNat, by omega⟩
  have e : (64864 : Int) + (((op - 64864).toNat : Nat) : Int) = op := by omega
  simp only [e, ← hz, ← r3] at hm
  have hl := hm hg.1 hg.2
  simp only [List.mem_cons, List.not_mem_nil, or_false] at hl
  clear hm e hK hk
  rcases hl with rfl | rfl | rfl | rfl | rfl | rfl | rfl | rfl | rfl | rfl | rfl | rfl | rfl | rfl | rfl | rfl | rfl | rfl | rfl | rfl | rfl | rfl | rfl | rfl | rfl | rfl | rfl | rfl | rfl | rfl | rfl | rfl | rfl
  ·have e2 : binV 64878 a b = (vb 8 14 a b, 0) := by unfold binV; rw [if_pos (by decide)]; rfl
   rw [e2]
   exact bin_8_14 a b w
  ·have e2 : binV 64879 a b = (vb 8 15 a b, 0) := by unfold binV; rw [if_pos (by decide)]; rfl
   rw [e2]
   exact bin_8_15 a b w
  ·have e2 : binV 64880 a b = (vb 8 16 a b, 0) := by unfold binV; rw [if_pos (by decide)]; rfl
   rw [e2]
   exact bin_8_16 a b w
  ·have e2 : binV 64881 a b = (vb 8 17 a b, 0) := by unfold binV; rw [if_pos (by decide)]; rfl
   rw [e2]
   exact bin_8_17 a b w
  ·have e2 : binV 64882 a b = (vb 8 18 a b, 0) := by unfold binV; rw [if_pos (by decide)]; rfl
   rw [e2]
   exact bin_8_18 a b w
  ·have e2 : binV 64883 a b = (vb 8 19 a b, 0) := by unfold binV; rw [if_pos (by decide)]; rfl
   rw [e2]
   exact bin_8_19 a b w
  ·have e2 : binV 64886 a b = (vb 8 22 a b, 0) := by unfold binV; rw [if_pos (by decide)]; rfl
   rw [e2]
   exact bin_8_22 a b w
  ·have e2 : binV 64887 a b = (vb 8 23 a b, 0) := by unfold binV; rw [if_pos (by decide)]; rfl
   rw [e2]
   exact bin_8_23 a b w
  ·have e2 : binV 64888 a b = (vb 8 24 a b, 0) := by unfold binV; rw [if_pos (by decide)]; rfl
   rw [e2]
   exact bin_8_24 a b w
  ·have e2 : binV 64889 a b = (vb 8 25 a b, 0) := by unfold binV; rw [if_pos (by decide)]; rfl
   rw [e2]
   exact bin_8_25 a b w
  ·have e2 : binV 64891 a b = (vb 8 27 a b, 0) := by unfold binV; rw [if_pos (by decide)]; rfl
   rw [e2]
   exact bin_8_27 a b w
  ·have e2 : binV 64910 a b = (vb 16 14 a b, 0) := by unfold binV; rw [if_pos (by decide)]; rfl
   rw [e2]
   exact bin_16_14 a b w
  ·have e2 : binV 64911 a b = (vb 16 15 a b, 0) := by unfold binV; rw [if_pos (by decide)]; rfl
   rw [e2]
   exact bin_16_15 a b w
  ·have e2 : binV 64912 a b = (vb 16 16 a b, 0) := by unfold binV; rw [if_pos (by decide)]; rfl
   rw [e2]
   exact bin_16_16 a b w
  ·have e2 : binV 64913 a b = (vb 16 17 a b, 0) := by unfold binV; rw [if_pos (by decide)]; rfl
   rw [e2]
   exact bin_16_17 a b w
  ·have e2 : binV 64914 a b = (vb 16 18 a b, 0) := by unfold binV; rw [if_pos (by decide)]; rfl
   rw [e2]
   exact bin_16_18 a b w
  ·have e2 : binV 64915 a b = (vb 16 19 a b, 0) := by unfold binV; rw [if_pos (by decide)]; rfl
   rw [e2]
   exact bin_16_19 a b w
  ·have e2 : binV 64917 a b = (vb 16 21 a b, 0) := by unfold binV; rw [if_pos (by decide)]; rfl
   rw [e2]
   exact bin_16_21 a b w
  ·have e2 : binV 64918 a b = (vb 16 22 a b, 0) := by unfold binV; rw [if_pos (by decide)]; rfl
   rw [e2]
   exact bin_16_22 a b w
  ·have e2 : binV 64919 a b = (vb 16 23 a b, 0) := by unfold binV; rw [if_pos (by decide)]; rfl
   rw [e2]
   exact bin_16_23 a b w
  ·have e2 : binV 64920 a b = (vb 16 24 a b, 0) := by unfold binV; rw [if_pos (by decide)]; rfl
   rw [e2]
   exact bin_16_24 a b w
  ·have e2 : binV 64921 a b = (vb 16 25 a b, 0) := by unfold binV; rw [if_pos (by decide)]; rfl
   rw [e2]
   exact bin_16_25 a b w
  ·have e2 : binV 64923 a b = (vb 16 27 a b, 0) := by unfold binV; rw [if_pos (by decide)]; rfl
   rw [e2]
   exact bin_16_27 a b w
  ·have e2 : binV 64942 a b = (vb 32 14 a b, 0) := by unfold binV; rw [if_pos (by decide)]; rfl
   rw [e2]
   exact bin_32_14 a b w
  ·have e2 : binV 64945 a b = (vb 32 17 a b, 0) := by unfold binV; rw [if_pos (by decide)]; rfl
   rw [e2]
   exact bin_32_17 a b w
  ·have e2 : binV 64949 a b = (vb 32 21 a b, 0) := by unfold binV; rw [if_pos (by decide)]; rfl
   rw [e2]
   exact bin_32_21 a b w
  ·have e2 : binV 64950 a b = (vb 32 22 a b, 0) := by unfold binV; rw [if_pos (by decide)]; rfl
   rw [e2]
   exact bin_32_22 a b w
  ·have e2 : binV 64951 a b = (vb 32 23 a b, 0) := by unfold binV; rw [if_pos (by decide)]; rfl
   rw [e2]
   exact bin_32_23 a b w
  ·have e2 : binV 64952 a b = (vb 32 24 a b, 0) := by unfold binV; rw [if_pos (by decide)]; rfl
   rw [e2]
   exact bin_32_24 a b w
  ·have e2 : binV 64953 a b = (vb 32 25 a b, 0) := by unfold binV; rw [if_pos (by decide)]; rfl
   rw [e2]
   exact bin_32_25 a b w
  ·have e2 : binV 64974 a b = (vb 64 14 a b, 0) := by unfold binV; rw [if_pos (by decide)]; rfl
   rw [e2]
   exact bin_64_14 a b w
  ·have e2 : binV 64977 a b = (vb 64 17 a b, 0) := by unfold binV; rw [if_pos (by decide)]; rfl
   rw [e2]
   exact bin_64_17 a b w
  ·have e2 : binV 64981 a b = (vb 64 21 a b, 0) := by unfold binV; rw [if_pos (by decide)]; rfl
   rw [e2]
   exact bin_64_21 a b w
 ·have e2 : binV op a b = (0, 1) := by
   unfold binV
   rw [if_neg]
   intro h
   apply hg
   rw [hz]
   refine ⟨h.1, ?_⟩
   have h5 := (hk (by rw [hz]; exact h.1)).2.2
   have h6 := h.2
   unfold kF at h6
   rw [h5]
   exact h6
  rw [e2]
  exact bin_no op z k a b w hK (by omega)
end Go.Proofs.YtebpijlmeemfaaaGreatDoor
end
section
namespace Pl
open Go
def uns (z : Int) : Int := z % 18446744073709551616
def holdC (k : Int) (s t : Int) : Bool :=
 if k = 0 then decide (s = t) else if k = 1 then !decide (s = t) else if k = 2 then decide (s < t) else if k = 3 then decide (uns s < uns t) else if k = 4 then decide (t < s) else if k = 5 then decide (uns t < uns s)
 else if k = 6 then decide (s ≤ t) else if k = 7 then decide (uns s ≤ uns t) else if k = 8 then decide (t ≤ s) else decide (uns t ≤ uns s)
end Pl
namespace Go.Proofs.YtebpijlmeemfaaaGreatDoor
open Go.RowKit Pl
theorem uns_u64 (z : Int) : IntKind.u64.wrap z = uns z := by rw [IntKind.wrap_u64]; rfl
theorem ret_bool {a b : Bool} (h : a = b) : Ending.returned (.bool a) = .returned (.bool b) := by rw [h]
theorem hold_0 {k : Int} (s t : Int) (h : (k == 0) = true) : (s == t) = holdC k s t := by
 obtain rfl : k = 0 := by simpa using h
 show _ = decide (s = t)
 rw [Bool.eq_iff_iff]; simp
theorem hold_1 {k : Int} (s t : Int) (h : (k == 1) = true) : (s != t) = holdC k s t := by
 obtain rfl : k = 1 := by simpa using h
 show _ = !decide (s = t)
 rw [Bool.eq_iff_iff]; simp
theorem hold_2 {k : Int} (s t : Int) (h : (k == 2) = true) : (decide (s < t)) = holdC k s t := by
 obtain rfl : k = 2 := by simpa using h
 rfl
theorem hold_3 {k : Int} (s t : Int) (h : (k == 3) = true) : (decide (uns s < uns t)) = holdC k s t := by
 obtain rfl : k = 3 := by simpa using h
 rfl
theorem hold_4 {k : Int} (s t : Int) (h : (k == 4) = true) : (decide (t < s)) = holdC k s t := by
 obtain rfl : k = 4 := by simpa using h
 rfl
theorem hold_5 {k : Int} (s t : Int) (h : (k == 5) = true) : (decide (uns t < uns s)) = holdC k s t := by
 obtain rfl : k = 5 := by simpa using h
 rfl
theorem hold_6 {k : Int} (s t : Int) (h : (k == 6) = true) : (decide (s ≤ t)) = holdC k s t := by
 obtain rfl : k = 6 := by simpa using h
 rfl
theorem hold_7 {k : Int} (s t : Int) (h : (k == 7) = true) : (decide (uns s ≤ uns t)) = holdC k s t := by
 obtain rfl : k = 7 := by simpa using h
 rfl
theorem hold_8 {k : Int} (s t : Int) (h : (k == 8) = true) : (decide (t ≤ s)) = holdC k s t := by
 obtain rfl : k = 8 := by simpa using h
 rfl
theorem hold_9 {k : Int} (s t : Int) (h0 : (k == 0) = false) (h1 : (k == 1) = false) (h2 : (k == 2) = false) (h3 : (k == 3) = false) (h4 : (k == 4) = false) (h5 : (k == 5) = false) (h6 : (k == 6) = false) (h7 : (k == 7) = false) (h8 : (k == 8) = false) : (decide (uns t ≤ uns s)) = holdC k s t := by
 simp only [beq_eq_false_iff_ne, ne_eq] at h0 h1 h2 h3 h4 h5 h6 h7 h8
 unfold holdC
 rw [if_neg h0, if_neg h1, if_neg h2, if_neg h3, if_neg h4, if_neg h5, if_neg h6, if_neg h7, if_neg h8]
theorem holds_any (k s t : Int) (w : World) : Calls Tryz.prog 157 #[.int .i64 k, .int .i64 s, .int .i64 t] w fun e w' => e = .returned (.bool (holdC k s t)) ∧ w' = w := by
 have e1 := uns_u64 s
 have e2 := uns_u64 t
 go_enter Tryz.func157, Tryz.ntmps157
 go_wp2
 all_goals go_ret
 ·exact ⟨ret_bool (hold_0 s t (by assumption)), rfl⟩
 ·exact ⟨ret_bool (hold_1 s t (by assumption)), rfl⟩
 ·exact ⟨ret_bool (hold_2 s t (by assumption)), rfl⟩
 ·exact ⟨ret_bool (hold_3 s t (by assumption)), rfl⟩
 ·exact ⟨ret_bool (hold_4 s t (by assumption)), rfl⟩
 ·exact ⟨ret_bool (hold_5 s t (by assumption)), rfl⟩
 ·exact ⟨ret_bool (hold_6 s t (by assumption)), rfl⟩
 ·exact ⟨ret_bool (hold_7 s t (by assumption)), rfl⟩
 ·exact ⟨ret_bool (hold_8 s t (by assumption)), rfl⟩
 ·exact ⟨ret_bool (hold_9 s t (by assumption) (by assumption) (by assumption) (by assumption) (by assumption) (by assumption) (by assumption) (by assumption) (by assumption)), rfl⟩
theorem ret_pair2 {a b c d : Int} (h : a = c) (k : b = d) : Ending.returned (.tuple #[.int .i64 a, .int .i64 b]) = .returned (.tuple #[.int .i64 c, .int .i64 d]) := by rw [h, k]
theorem order_row0 (c : Nat) (w : World) (hc : c < 10) : Calls Tryz.prog 156 #[.int .i64 (64803 + (c : Int))] w fun e w' => e = .returned (.tuple #[.int .i64 8, .int .i64 c]) ∧ w' = w := by
  have e1 : IntKind.i64.wrap (64803 + (c : Int) - 64768) = 35 + (c : Int) := by rw [IntWalk.i64_in _ (by omega)]; omega
  go_enter Tryz.func156, Tryz.ntmps156
  go_wp2
  all_goals first
    | (exfalso; omega)
    | (go_ret2
       refine ⟨ret_pair2 ?_ (by omega), rfl⟩
       rw [show (35 + c - 35) / 10 = 0 by omega]; exact IntWalk.wrap64_in _ (by decide))
theorem order_row1 (c : Nat) (w : World) (hc : c < 10) : Calls Tryz.prog 156 #[.int .i64 (64813 + (c : Int))] w fun e w' => e = .returned (.tuple #[.int .i64 16, .int .i64 c]) ∧ w' = w := by
  have e1 : IntKind.i64.wrap (64813 + (c : Int) - 64768) = 45 + (c : Int) := by rw [IntWalk.i64_in _ (by omega)]; omega
  go_enter Tryz.func156, Tryz.ntmps156
  go_wp2
  all_goals first
    | (exfalso; omega)
    | (go_ret2
       refine ⟨ret_pair2 ?_ (by omega), rfl⟩
       rw [show (45 + c - 35) / 10 = 1 by omega]; exact IntWalk.wrap64_in _ (by decide))
theorem order_row2 (c : Nat) (w : World) (hc : c < 10) : Calls Tryz.prog 156 #[.int .i64 (64823 + (c : Int))] w fun e w' => e = .returned (.tuple #[.int .i64 32, .int .i64 c]) ∧ w' = w := by
  have e1 : IntKind.i64.wrap (64823 + (c : Int) - 64768) = 55 + (c : Int) := by rw [IntWalk.i64_in _ (by omega)]; omega
  go_enter Tryz.func156, Tryz.ntmps156
  go_wp2
  all_goals first
    | (exfalso; omega)
    | (go_ret2
       refine ⟨ret_pair2 ?_ (by omega), rfl⟩
       rw [show (55 + c - 35) / 10 = 2 by omega]; exact IntWalk.wrap64_in _ (by decide))
theorem order_64_0 (w : World) : Calls Tryz.prog 156 #[.int .i64 64982] w fun e w' => e = .returned (.tuple #[.int .i64 64, .int .i64 0]) ∧ w' = w.drew := by
 have e0 : IntKind.i64.wrap 0 = 0 := IntWalk.i64_in _ (by decide)
 have i0 : ∀ w, (Instr.index 246 (.agg #[.int .i64 0, .int .i64 1, .int .i64 2, .int .i64 4, .int .i64 6, .int .i64 8]) (.int .i64 0)).run Tryz.prog w = .ok (.int .i64 0) w := fun _ => by kernel_rfl
 go_enter Tryz.func156, Tryz.ntmps156
 go_wp2
 go_region
 all_goals go_wp2
 all_goals go_ret2
 all_goals exact ⟨rfl, rfl⟩
theorem order_64_1 (w : World) : Calls Tryz.prog 156 #[.int .i64 64983] w fun e w' => e = .returned (.tuple #[.int .i64 64, .int .i64 1]) ∧ w' = w.drew := by
 have e0 : IntKind.i64.wrap 1 = 1 := IntWalk.i64_in _ (by decide)
 have i0 : ∀ w, (Instr.index 246 (.agg #[.int .i64 0, .int .i64 1, .int .i64 2, .int .i64 4, .int .i64 6, .int .i64 8]) (.int .i64 1)).run Tryz.prog w = .ok (.int .i64 1) w := fun _ => by kernel_rfl
 go_enter Tryz.func156, Tryz.ntmps156
 go_wp2
 go_region
 all_goals go_wp2
 all_goals go_ret2
 all_goals exact ⟨rfl, rfl⟩
theorem order_64_2 (w : World) : Calls Tryz.prog 156 #[.int .i64 64984] w fun e w' => e = .returned (.tuple #[.int .i64 64, .int .i64 2]) ∧ w' = w.drew := by
 have e0 : IntKind.i64.wrap 2 = 2 := IntWalk.i64_in _ (by decide)
 have i0 : ∀ w, (Instr.index 246 (.agg #[.int .i64 0, .int .i64 1, .int .i64 2, .int .i64 4, .int .i64 6, .int .i64 8]) (.int .i64 2)).run Tryz.prog w = .ok (.int .i64 2) w := fun _ => by kernel_rfl
 go_enter Tryz.func156, Tryz.ntmps156
 go_wp2
 go_region
 all_goals go_wp2
 all_goals go_ret2
 all_goals exact ⟨rfl, rfl⟩
theorem order_64_3 (w : World) : Calls Tryz.prog 156 #[.int .i64 64985] w fun e w' => e = .returned (.tuple #[.int .i64 64, .int .i64 4]) ∧ w' = w.drew := by
 have e0 : IntKind.i64.wrap 3 = 3 := IntWalk.i64_in _ (by decide)
 have i0 : ∀ w, (Instr.index 246 (.agg #[.int .i64 0, .int .i64 1, .int .i64 2, .int .i64 4, .int .i64 6, .int .i64 8]) (.int .i64 3)).run Tryz.prog w = .ok (.int .i64 4) w := fun _ => by kernel_rfl
 go_enter Tryz.func156, Tryz.ntmps156
 go_wp2
 go_region
 all_goals go_wp2
 all_goals go_ret2
 all_goals exact ⟨rfl, rfl⟩
theorem order_64_4 (w : World) : Calls Tryz.prog 156 #[.int .i64 64986] w fun e w' => e = .returned (.tuple #[.int .i64 64, .int .i64 6]) ∧ w' = w.drew := by
 have e0 : IntKind.i64.wrap 4 = 4 := IntWalk.i64_in _ (by decide)
 have i0 : ∀ w, (Instr.index 246 (.agg #[.int .i64 0, .int .i64 1, .int .i64 2, .int .i64 4, .int .i64 6, .int .i64 8]) (.int .i64 4)).run Tryz.prog w = .ok (.int .i64 6) w := fun _ => by kernel_rfl
 go_enter Tryz.func156, Tryz.ntmps156
 go_wp2
 go_region
 all_goals go_wp2
 all_goals go_ret2
 all_goals exact ⟨rfl, rfl⟩
theorem order_64_5 (w : World) : Calls Tryz.prog 156 #[.int .i64 64987] w fun e w' => e = .returned (.tuple #[.int .i64 64, .int .i64 8]) ∧ w' = w.drew := by
 have e0 : IntKind.i64.wrap 5 = 5 := IntWalk.i64_in _ (by decide)
 have i0 : ∀ w, (Instr.index 246 (.agg #[.int .i64 0, .int .i64 1, .int .i64 2, .int .i64 4, .int .i64 6, .int .i64 8]) (.int .i64 5)).run Tryz.prog w = .ok (.int .i64 8) w := fun _ => by kernel_rfl
 go_enter Tryz.func156, Tryz.ntmps156
 go_wp2
 go_region
 all_goals go_wp2
 all_goals go_ret2
 all_goals exact ⟨rfl, rfl⟩
theorem order_none (op κ : Int) (w : World) (hκ : wrap64 (op - 64768) = κ) (h : κ < 35 ∨ 65 ≤ κ ∧ κ < 214 ∨ 220 ≤ κ) : Calls Tryz.prog 156 #[.int .i64 op] w fun e w' => e = .returned (.tuple #[.int .i64 0, .int .i64 (-1)]) ∧ w' = w := by
 rcases h with h | ⟨h, h'⟩ | h
 all_goals
  go_enter Tryz.func156, Tryz.ntmps156
  go_wp2
  all_goals go_ret2
  all_goals exact ⟨rfl, rfl⟩
end Go.Proofs.YtebpijlmeemfaaaGreatDoor
end
