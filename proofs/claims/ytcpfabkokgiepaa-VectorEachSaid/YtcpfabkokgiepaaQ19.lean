/-
  Texts VcA.
-/
import Derived.Test.YtcpfabkokgiepaaQ14
import Derived.Test.YtcpfabkokgiepaaQ15
import Derived.Test.YtcpfabkokgiepaaQ18
set_option linter.unusedSimpArgs false
set_option linter.unusedVariables false
set_option maxHeartbeats 8000000
open Pl
namespace Go.Proofs.Ytcpfabkokgiepaa
open Go.RowKit Pl
end Go.Proofs.Ytcpfabkokgiepaa
namespace Pl
open Go
def kF (op : Int) : Int := (op - 64768) % 32
def unV (op : Int) (v : Vec) : Vec × Int := if wF op ≠ 0 ∧ kF op ≤ 2 then (vu3 (wF op).toNat (kF op).toNat v, 0) else (0, 1)
def p9 (op : Int) (a b : Vec) : Vec × Int := if wF op ≠ 0 ∧ 14 ≤ kF op then (vb (wF op).toNat (kF op).toNat a b, 0) else (0, 1)
def shV (op : Int) (v : Vec) (n : Nat) : Vec × Int := if wF op ≠ 0 ∧ 11 ≤ kF op ∧ kF op ≤ 13 then (vs (wF op).toNat (kF op).toNat (n % (wF op).toNat) v, 0) else (0, 1)
end Pl
namespace Go.Proofs.Ytcpfabkokgiepaa
open Go.RowKit Pl
theorem vrow_out (op : Int) (h : op < 64864 ∨ 64991 < op) : wF op = 0 := by
 unfold wF row0 row1 row2 row3
 simp only [List.contains_cons, List.contains_nil, Bool.or_false, Bool.or_eq_true, beq_iff_eq]
 rw [if_neg (by omega), if_neg (by omega), if_neg (by omega), if_neg (by omega)]
theorem vkind_in (op : Int) (j : Nat) (hj : j < 128) (h : op = 64864 + (j : Int)) : ∃ z k : Int, (∀ W, Calls Try.prog 49 #[.int .i64 op] W fun e w' => e = .returned (.tuple #[.int .i64 z, .int .i64 k]) ∧ w' = W) ∧ z = wF op ∧ (z ≠ 0 → k = (op - 64768) % 32) :=
 match j, hj with
 | 0, _ => by
   obtain rfl : op = 64864 := by omega
   exact ⟨_, _, kind_64864, by decide, by decide⟩
 | 1, _ => by
   obtain rfl : op = 64865 := by omega
   exact ⟨_, _, kind_64865, by decide, by decide⟩
 | 2, _ => by
   obtain rfl : op = 64866 := by omega
   exact ⟨_, _, kind_64866, by decide, by decide⟩
 | 3, _ => by
   obtain rfl : op = 64867 := by omega
   exact ⟨_, _, kind_64867, by decide, by decide⟩
 | 4, _ => by
   obtain rfl : op = 64868 := by omega
   exact ⟨_, _, kind_64868, by decide, by decide⟩
 | 5, _ => by
   obtain rfl : op = 64869 := by omega
   exact ⟨_, _, kind_64869, by decide, by decide⟩
 | 6, _ => by
   obtain rfl : op = 64870 := by omega
   exact ⟨_, _, kind_64870, by decide, by decide⟩
 | 7, _ => by
   obtain rfl : op = 64871 := by omega
   exact ⟨_, _, kind_64871, by decide, by decide⟩
 | 8, _ => by
   obtain rfl : op = 64872 := by omega
   exact ⟨_, _, kind_64872, by decide, by decide⟩
 | 9, _ => by
   obtain rfl : op = 64873 := by omega
   exact ⟨_, _, kind_64873, by decide, by decide⟩
 | 10, _ => by
   obtain rfl : op = 64874 := by omega
   exact ⟨_, _, kind_64874, by decide, by decide⟩
 | 11, _ => by
   obtain rfl : op = 64875 := by omega
   exact ⟨_, _, kind_64875, by decide, by decide⟩
 | 12, _ => by
   obtain rfl : op = 64876 := by omega
   exact ⟨_, _, kind_64876, by decide, by decide⟩
 | 13, _ => by
   obtain rfl : op = 64877 := by omega
   exact ⟨_, _, kind_64877, by decide, by decide⟩
 | 14, _ => by
   obtain rfl : op = 64878 := by omega
   exact ⟨_, _, kind_64878, by decide, by decide⟩
 | 15, _ => by
   obtain rfl : op = 64879 := by omega
   exact ⟨_, _, kind_64879, by decide, by decide⟩
 | 16, _ => by
   obtain rfl : op = 64880 := by omega
   exact ⟨_, _, kind_64880, by decide, by decide⟩
 | 17, _ => by
   obtain rfl : op = 64881 := by omega
   exact ⟨_, _, kind_64881, by decide, by decide⟩
 | 18, _ => by
   obtain rfl : op = 64882 := by omega
   exact ⟨_, _, kind_64882, by decide, by decide⟩
 | 19, _ => by
   obtain rfl : op = 64883 := by omega
   exact ⟨_, _, kind_64883, by decide, by decide⟩
 | 20, _ => by
   obtain rfl : op = 64884 := by omega
   exact ⟨_, _, kind_64884, by decide, by decide⟩
 | 21, _ => by
   obtain rfl : op = 64885 := by omega
   exact ⟨_, _, kind_64885, by decide, by decide⟩
 | 22, _ => by
   obtain rfl : op = 64886 := by omega
   exact ⟨_, _, kind_64886, by decide, by decide⟩
 | 23, _ => by
   obtain rfl : op = 64887 := by omega
   exact ⟨_, _, kind_64887, by decide, by decide⟩
 | 24, _ => by
   obtain rfl : op = 64888 := by omega
   exact ⟨_, _, kind_64888, by decide, by decide⟩
 | 25, _ => by
   obtain rfl : op = 64889 := by omega
   exact ⟨_, _, kind_64889, by decide, by decide⟩
 | 26, _ => by
   obtain rfl : op = 64890 := by omega
   exact ⟨_, _, kind_64890, by decide, by decide⟩
 | 27, _ => by
   obtain rfl : op = 64891 := by omega
   exact ⟨_, _, kind_64891, by decide, by decide⟩
 | 28, _ => by
   obtain rfl : op = 64892 := by omega
   exact ⟨_, _, kind_64892, by decide, by decide⟩
 | 29, _ => by
   obtain rfl : op = 64893 := by omega
   exact ⟨_, _, kind_64893, by decide, by decide⟩
 | 30, _ => by
   obtain rfl : op = 64894 := by omega
   exact ⟨_, _, kind_64894, by decide, by decide⟩
 | 31, _ => by
   obtain rfl : op = 64895 := by omega
   exact ⟨_, _, kind_64895, by decide, by decide⟩
 | 32, _ => by
   obtain rfl : op = 64896 := by omega
   exact ⟨_, _, kind_64896, by decide, by decide⟩
 | 33, _ => by
   obtain rfl : op = 64897 := by omega
   exact ⟨_, _, kind_64897, by decide, by decide⟩
 | 34, _ => by
   obtain rfl : op = 64898 := by omega
   exact ⟨_, _, kind_64898, by decide, by decide⟩
 | 35, _ => by
   obtain rfl : op = 64899 := by omega
   exact ⟨_, _, kind_64899, by decide, by decide⟩
 | 36, _ => by
   obtain rfl : op = 64900 := by omega
   exact ⟨_, _, kind_64900, by decide, by decide⟩
 | 37, _ => by
   obtain rfl : op = 64901 := by omega
   exact ⟨_, _, kind_64901, by decide, by decide⟩
 | 38, _ => by
   obtain rfl : op = 64902 := by omega
   exact ⟨_, _, kind_64902, by decide, by decide⟩
 | 39, _ => by
   obtain rfl : op = 64903 := by omega
   exact ⟨_, _, kind_64903, by decide, by decide⟩
 | 40, _ => by
   obtain rfl : op = 64904 := by omega
   exact ⟨_, _, kind_64904, by decide, by decide⟩
 | 41, _ => by
   obtain rfl : op = 64905 := by omega
   exact ⟨_, _, kind_64905, by decide, by decide⟩
 | 42, _ => by
   obtain rfl : op = 64906 := by omega
   exact ⟨_, _, kind_64906, by decide, by decide⟩
 | 43, _ => by
   obtain rfl : op = 64907 := by omega
   exact ⟨_, _, kind_64907, by decide, by decide⟩
 | 44, _ => by
   obtain rfl : op = 64908 := by omega
   exact ⟨_, _, kind_64908, by decide, by decide⟩
 | 45, _ => by
   obtain rfl : op = 64909 := by omega
   exact ⟨_, _, kind_64909, by decide, by decide⟩
 | 46, _ => by
   obtain rfl : op = 64910 := by omega
   exact ⟨_, _, kind_64910, by decide, by decide⟩
 | 47, _ => by
   obtain rfl : op = 64911 := by omega
   exact ⟨_, _, kind_64911, by decide, by decide⟩
 | 48, _ => by
   obtain rfl : op = 64912 := by omega
   exact ⟨_, _, kind_64912, by decide, by decide⟩
 | 49, _ => by
   obtain rfl : op = 64913 := by omega
   exact ⟨_, _, kind_64913, by decide, by decide⟩
 | 50, _ => by
   obtain rfl : op = 64914 := by omega
   exact ⟨_, _, kind_64914, by decide, by decide⟩
 | 51, _ => by
   obtain rfl : op = 64915 := by omega
   exact ⟨_, _, kind_64915, by decide, by decide⟩
 | 52, _ => by
   obtain rfl : op = 64916 := by omega
   exact ⟨_, _, kind_64916, by decide, by decide⟩
 | 53, _ => by
   obtain rfl : op = 64917 := by omega
   exact ⟨_, _, kind_64917, by decide, by decide⟩
 | 54, _ => by
   obtain rfl : op = 64918 := by omega
   exact ⟨_, _, kind_64918, by decide, by decide⟩
 | 55, _ => by
   obtain rfl : op = 64919 := by omega
   exact ⟨_, _, kind_64919, by decide, by decide⟩
 | 56, _ => by
   obtain rfl : op = 64920 := by omega
   exact ⟨_, _, kind_64920, by decide, by decide⟩
 | 57, _ => by
   obtain rfl : op = 64921 := by omega
   exact ⟨_, _, kind_64921, by decide, by decide⟩
 | 58, _ => by
   obtain rfl : op = 64922 := by omega
   exact ⟨_, _, kind_64922, by decide, by decide⟩
 | 59, _ => by
   obtain rfl : op = 64923 := by omega
   exact ⟨_, _, kind_64923, by decide, by decide⟩
 | 60, _ => by
   obtain rfl : op = 64924 := by omega
   exact ⟨_, _, kind_64924, by decide, by decide⟩
 | 61, _ => by
   obtain rfl : op = 64925 := by omega
   exact ⟨_, _, kind_64925, by decide, by decide⟩
 | 62, _ => by
   obtain rfl : op = 64926 := by omega
   exact ⟨_, _, kind_64926, by decide, by decide⟩
 | 63, _ => by
   obtain rfl : op = 64927 := by omega
   exact ⟨_, _, kind_64927, by decide, by decide⟩
 | 64, _ => by
   obtain rfl : op = 64928 := by omega
   exact ⟨_, _, kind_64928, by decide, by decide⟩
 | 65, _ => by
   obtain rfl : op = 64929 := by omega
   exact ⟨_, _, kind_64929, by decide, by decide⟩
 | 66, _ => by
   obtain rfl : op = 64930 := by omega
   exact ⟨_, _, kind_64930, by decide, by decide⟩
 | 67, _ => by
   obtain rfl : op = 64931 := by omega
   exact ⟨_, _, kind_64931, by decide, by decide⟩
 | 68, _ => by
   obtain rfl : op = 64932 := by omega
   exact ⟨_, _, kind_64932, by decide, by decide⟩
 | 69, _ => by
   obtain rfl : op = 64933 := by omega
   exact ⟨_, _, kind_64933, by decide, by decide⟩
 | 70, _ => by
   obtain rfl : op = 64934 := by omega
   exact ⟨_, _, kind_64934, by decide, by decide⟩
 | 71, _ => by
   obtain rfl : op = 64935 := by omega
   exact ⟨_, _, kind_64935, by decide, by decide⟩
 | 72, _ => by
   obtain rfl : op = 64936 := by omega
   exact ⟨_, _, kind_64936, by decide, by decide⟩
 | 73, _ => by
   obtain rfl : op = 64937 := by omega
   exact ⟨_, _, kind_64937, by decide, by decide⟩
 | 74, _ => by
   obtain rfl : op = 64938 := by omega
   exact ⟨_, _, kind_64938, by decide, by decide⟩
 | 75, _ => by
   obtain rfl : op = 64939 := by omega
   exact ⟨_, _, kind_64939, by decide, by decide⟩
 | 76, _ => by
   obtain rfl : op = 64940 := by omega
   exact ⟨_, _, kind_64940, by decide, by decide⟩
 | 77, _ => by
   obtain rfl : op = 64941 := by omega
   exact ⟨_, _, kind_64941, by decide, by decide⟩
 | 78, _ => by
   obtain rfl : op = 64942 := by omega
   exact ⟨_, _, kind_64942, by decide, by decide⟩
 | 79, _ => by
   obtain rfl : op = 64943 := by omega
   exact ⟨_, _, kind_64943, by decide, by decide⟩
 | 80, _ => by
   obtain rfl : op = 64944 := by omega
   exact ⟨_, _, kind_64944, by decide, by decide⟩
 | 81, _ => by
   obtain rfl : op = 64945 := by omega
   exact ⟨_, _, kind_64945, by decide, by decide⟩
 | 82, _ => by
   obtain rfl : op = 64946 := by omega
   exact ⟨_, _, kind_64946, by decide, by decide⟩
 | 83, _ => by
   obtain rfl : op = 64947 := by omega
   exact ⟨_, _, kind_64947, by decide, by decide⟩
 | 84, _ => by
   obtain rfl : op = 64948 := by omega
   exact ⟨_, _, kind_64948, by decide, by decide⟩
 | 85, _ => by
   obtain rfl : op = 64949 := by omega
   exact ⟨_, _, kind_64949, by decide, by decide⟩
 | 86, _ => by
   obtain rfl : op = 64950 := by omega
   exact ⟨_, _, kind_64950, by decide, by decide⟩
 | 87, _ => by
   obtain rfl : op = 64951 := by omega
   exact ⟨_, _, kind_64951, by decide, by decide⟩
 | 88, _ => by
   obtain rfl : op = 64952 := by omega
   exact ⟨_, _, kind_64952, by decide, by decide⟩
 | 89, _ => by
   obtain rfl : op = 64953 := by omega
   exact ⟨_, _, kind_64953, by decide, by decide⟩
 | 90, _ => by
   obtain rfl : op = 64954 := by omega
   exact ⟨_, _, kind_64954, by decide, by decide⟩
 | 91, _ => by
   obtain rfl : op = 64955 := by omega
   exact ⟨_, _, kind_64955, by decide, by decide⟩
 | 92, _ => by
   obtain rfl : op = 64956 := by omega
   exact ⟨_, _, kind_64956, by decide, by decide⟩
 | 93, _ => by
   obtain rfl : op = 64957 := by omega
   exact ⟨_, _, kind_64957, by decide, by decide⟩
 | 94, _ => by
   obtain rfl : op = 64958 := by omega
   exact ⟨_, _, kind_64958, by decide, by decide⟩
 | 95, _ => by
   obtain rfl : op = 64959 := by omega
   exact ⟨_, _, kind_64959, by decide, by decide⟩
 | 96, _ => by
   obtain rfl : op = 64960 := by omega
   exact ⟨_, _, kind_64960, by decide, by decide⟩
 | 97, _ => by
   obtain rfl : op = 64961 := by omega
   exact ⟨_, _, kind_64961, by decide, by decide⟩
 | 98, _ => by
   obtain rfl : op = 64962 := by omega
   exact ⟨_, _, kind_64962, by decide, by decide⟩
 | 99, _ => by
   obtain rfl : op = 64963 := by omega
   exact ⟨_, _, kind_64963, by decide, by decide⟩
 | 100, _ => by
   obtain rfl : op = 64964 := by omega
   exact ⟨_, _, kind_64964, by decide, by decide⟩
 | 101, _ => by
   obtain rfl : op = 64965 := by omega
   exact ⟨_, _, kind_64965, by decide, by decide⟩
 | 102, _ => by
   obtain rfl : op = 64966 := by omega
   exact ⟨_, _, kind_64966, by decide, by decide⟩
 | 103, _ => by
   obtain rfl : op = 64967 := by omega
   exact ⟨_, _, kind_64967, by decide, by decide⟩
 | 104, _ => by
   obtain rfl : op = 64968 := by omega
   exact ⟨_, _, kind_64968, by decide, by decide⟩
 | 105, _ => by
   obtain rfl : op = 64969 := by omega
   exact ⟨_, _, kind_64969, by decide, by decide⟩
 | 106, _ => by
   obtain rfl : op = 64970 := by omega
   exact ⟨_, _, kind_64970, by decide, by decide⟩
 | 107, _ => by
   obtain rfl : op = 64971 := by omega
   exact ⟨_, _, kind_64971, by decide, by decide⟩
 | 108, _ => by
   obtain rfl : op = 64972 := by omega
   exact ⟨_, _, kind_64972, by decide, by decide⟩
 | 109, _ => by
   obtain rfl : op = 64973 := by omega
   exact ⟨_, _, kind_64973, by decide, by decide⟩
 | 110, _ => by
   obtain rfl : op = 64974 := by omega
   exact ⟨_, _, kind_64974, by decide, by decide⟩
 | 111, _ => by
   obtain rfl : op = 64975 := by omega
   exact ⟨_, _, kind_64975, by decide, by decide⟩
 | 112, _ => by
   obtain rfl : op = 64976 := by omega
   exact ⟨_, _, kind_64976, by decide, by decide⟩
 | 113, _ => by
   obtain rfl : op = 64977 := by omega
   exact ⟨_, _, kind_64977, by decide, by decide⟩
 | 114, _ => by
   obtain rfl : op = 64978 := by omega
   exact ⟨_, _, kind_64978, by decide, by decide⟩
 | 115, _ => by
   obtain rfl : op = 64979 := by omega
   exact ⟨_, _, kind_64979, by decide, by decide⟩
 | 116, _ => by
   obtain rfl : op = 64980 := by omega
   exact ⟨_, _, kind_64980, by decide, by decide⟩
 | 117, _ => by
   obtain rfl : op = 64981 := by omega
   exact ⟨_, _, kind_64981, by decide, by decide⟩
 | 118, _ => by
   obtain rfl : op = 64982 := by omega
   exact ⟨_, _, kind_64982, by decide, by decide⟩
 | 119, _ => by
   obtain rfl : op = 64983 := by omega
   exact ⟨_, _, kind_64983, by decide, by decide⟩
 | 120, _ => by
   obtain rfl : op = 64984 := by omega
   exact ⟨_, _, kind_64984, by decide, by decide⟩
 | 121, _ => by
   obtain rfl : op = 64985 := by omega
   exact ⟨_, _, kind_64985, by decide, by decide⟩
 | 122, _ => by
   obtain rfl : op = 64986 := by omega
   exact ⟨_, _, kind_64986, by decide, by decide⟩
 | 123, _ => by
   obtain rfl : op = 64987 := by omega
   exact ⟨_, _, kind_64987, by decide, by decide⟩
 | 124, _ => by
   obtain rfl : op = 64988 := by omega
   exact ⟨_, _, kind_64988, by decide, by decide⟩
 | 125, _ => by
   obtain rfl : op = 64989 := by omega
   exact ⟨_, _, kind_64989, by decide, by decide⟩
 | 126, _ => by
   obtain rfl : op = 64990 := by omega
   exact ⟨_, _, kind_64990, by decide, by decide⟩
 | 127, _ => by
   obtain rfl : op = 64991 := by omega
   exact ⟨_, _, kind_64991, by decide, by decide⟩
 | n + 128, hj => absurd hj (by omega)
theorem vkind_any (op : Int) (ho : -9223372036854775808 ≤ op ∧ op ≤ 9223372036854775807) : ∃ z k : Int, (∀ W, Calls Try.prog 49 #[.int .i64 op] W fun e w' => e = .returned (.tuple #[.int .i64 z, .int .i64 k]) ∧ w' = W) ∧ z = wF op ∧ (z ≠ 0 → 64864 ≤ op ∧ op ≤ 64991 ∧ k = (op - 64768) % 32) := by
 by_cases h : op < 64864 ∨ 64991 < op
 ·refine ⟨0, 0, fun W => kind_none op (wrap64 (wrap64 (op - 64768) - 96)) W rfl (by unfold wrap64; omega), (vrow_out op h).symm, fun h => absurd rfl h⟩
 ·obtain ⟨z, k, h1, h2, h3⟩ := vkind_in op (op - 64864).toNat (by omega) (by omega)
  exact ⟨z, k, h1, h2, fun hz => ⟨by omega, by omega, h3 hz⟩⟩
theorem vun_both_ops : ∀ j : Fin 128, wF (64864 + (j.val : Int)) ≠ 0 → ((64864 + (j.val : Int) - 64768) % 32) ≤ 2 → (64864 + (j.val : Int)) ∈ ([64864, 64865, 64866, 64896, 64897, 64928, 64929, 64960, 64961] : List Int) := by decide +kernel
theorem un_p (op : Int) (v : Vec) (w : World) (ho : -9223372036854775808 ≤ op ∧ op ≤ 9223372036854775807) :
 Calls Try.prog 17 #[.int .i64 op, .agg (mY v)] w fun e w' => e = .returned (.tuple #[.agg (mY (unV op v).1), .int .i64 (unV op v).2]) ∧ Below w.heap.size w w' := by
 obtain ⟨z, k, hK, hz, hk⟩ := vkind_any op ho
 by_cases hg : z ≠ 0 ∧ k ≤ 2
 ·obtain ⟨r1, r2, r3⟩ := hk hg.1
  have hm := vun_both_ops ⟨(op - 64864).toNat, by omega⟩
  have e : (64864 : Int) + (((op - 64864).toNat : Nat) : Int) = op := by omega
  simp only [e, ← hz, ← r3] at hm
  have hl := hm hg.1 hg.2
  simp only [List.mem_cons, List.not_mem_nil, or_false] at hl
  clear hm e hK hk
  rcases hl with rfl | rfl | rfl | rfl | rfl | rfl | rfl | rfl | rfl
  ·have e2 : unV 64864 v = (vu3 8 0 v, 0) := by unfold unV; rw [if_pos (by decide)]; rfl
   rw [e2]
   exact un_8_0 v w
  ·have e2 : unV 64865 v = (vu3 8 1 v, 0) := by unfold unV; rw [if_pos (by decide)]; rfl
   rw [e2]
   exact un_8_1 v w
  ·have e2 : unV 64866 v = (vu3 8 2 v, 0) := by unfold unV; rw [if_pos (by decide)]; rfl
   rw [e2]
   exact un_8_2 v w
  ·have e2 : unV 64896 v = (vu3 16 0 v, 0) := by unfold unV; rw [if_pos (by decide)]; rfl
   rw [e2]
   exact un_16_0 v w
  ·have e2 : unV 64897 v = (vu3 16 1 v, 0) := by unfold unV; rw [if_pos (by decide)]; rfl
   rw [e2]
   exact un_16_1 v w
  ·have e2 : unV 64928 v = (vu3 32 0 v, 0) := by unfold unV; rw [if_pos (by decide)]; rfl
   rw [e2]
   exact un_32_0 v w
  ·have e2 : unV 64929 v = (vu3 32 1 v, 0) := by unfold unV; rw [if_pos (by decide)]; rfl
   rw [e2]
   exact un_32_1 v w
  ·have e2 : unV 64960 v = (vu3 64 0 v, 0) := by unfold unV; rw [if_pos (by decide)]; rfl
   rw [e2]
   exact un_64_0 v w
  ·have e2 : unV 64961 v = (vu3 64 1 v, 0) := by unfold unV; rw [if_pos (by decide)]; rfl
   rw [e2]
   exact un_64_1 v w
 ·have e2 : unV op v = (0, 1) := by
   unfold unV
   exact gQ
  rw [e2]
  exact un_no op z k v w hK (by omega)
theorem vbin_both_ops : ∀ j : Fin 128, wF (64864 + (j.val : Int)) ≠ 0 → 14 ≤ ((64864 + (j.val : Int) - 64768) % 32) → (64864 + (j.val : Int)) ∈ ([64878, 64879, 64880, 64881, 64882, 64883, 64886, 64887, 64888, 64889, 64891, 64910, 64911, 64912, 64913, 64914, 64915, 64917, 64918, 64919, 64920, 64921, 64923, 64942, 64945, 64949, 64950, 64951, 64952, 64953, 64974, 64977, 64981] : List Int) := by decide +kernel
theorem bin_p (op : Int) (a b : Vec) (w : World) (ho : -9223372036854775808 ≤ op ∧ op ≤ 9223372036854775807) :
 Calls Try.prog 21 #[.int .i64 op, .agg (mY a), .agg (mY b)] w fun e w' => e = .returned (.tuple #[.agg (mY (p9 op a b).1), .int .i64 (p9 op a b).2]) ∧ Below w.heap.size w w' := by
 obtain ⟨z, k, hK, hz, hk⟩ := vkind_any op ho
 by_cases hg : z ≠ 0 ∧ 14 ≤ k
 ·obtain ⟨r1, r2, r3⟩ := hk hg.1
  have hm := vbin_both_ops ⟨(op - 64864).toNat, by omega⟩
  have e : (64864 : Int) + (((op - 64864).toNat : Nat) : Int) = op := by omega
  simp only [e, ← hz, ← r3] at hm
  have hl := hm hg.1 hg.2
  simp only [List.mem_cons, List.not_mem_nil, or_false] at hl
  clear hm e hK hk
  rcases hl with rfl | rfl | rfl | rfl | rfl | rfl | rfl | rfl | rfl | rfl | rfl | rfl | rfl | rfl | rfl | rfl | rfl | rfl | rfl | rfl | rfl | rfl | rfl | rfl | rfl | rfl | rfl | rfl | rfl | rfl | rfl | rfl | rfl
  ·have e2 : p9 64878 a b = (vb 8 14 a b, 0) := by unfold p9; rw [if_pos (by decide)]; rfl
   rw [e2]
   exact bin_8_14 a b w
  ·have e2 : p9 64879 a b = (vb 8 15 a b, 0) := by unfold p9; rw [if_pos (by decide)]; rfl
   rw [e2]
   exact bin_8_15 a b w
  ·have e2 : p9 64880 a b = (vb 8 16 a b, 0) := by unfold p9; rw [if_pos (by decide)]; rfl
   rw [e2]
   exact bin_8_16 a b w
  ·have e2 : p9 64881 a b = (vb 8 17 a b, 0) := by unfold p9; rw [if_pos (by decide)]; rfl
   rw [e2]
   exact bin_8_17 a b w
  ·have e2 : p9 64882 a b = (vb 8 18 a b, 0) := by unfold p9; rw [if_pos (by decide)]; rfl
   rw [e2]
   exact bin_8_18 a b w
  ·have e2 : p9 64883 a b = (vb 8 19 a b, 0) := by unfold p9; rw [if_pos (by decide)]; rfl
   rw [e2]
   exact bin_8_19 a b w
  ·have e2 : p9 64886 a b = (vb 8 22 a b, 0) := by unfold p9; rw [if_pos (by decide)]; rfl
   rw [e2]
   exact bin_8_22 a b w
  ·have e2 : p9 64887 a b = (vb 8 23 a b, 0) := by unfold p9; rw [if_pos (by decide)]; rfl
   rw [e2]
   exact bin_8_23 a b w
  ·have e2 : p9 64888 a b = (vb 8 24 a b, 0) := by unfold p9; rw [if_pos (by decide)]; rfl
   rw [e2]
   exact bin_8_24 a b w
  ·have e2 : p9 64889 a b = (vb 8 25 a b, 0) := by unfold p9; rw [if_pos (by decide)]; rfl
   rw [e2]
   exact bin_8_25 a b w
  ·have e2 : p9 64891 a b = (vb 8 27 a b, 0) := by unfold p9; rw [if_pos (by decide)]; rfl
   rw [e2]
   exact bin_8_27 a b w
  ·have e2 : p9 64910 a b = (vb 16 14 a b, 0) := by unfold p9; rw [if_pos (by decide)]; rfl
   rw [e2]
   exact bin_16_14 a b w
  ·have e2 : p9 64911 a b = (vb 16 15 a b, 0) := by unfold p9; rw [if_pos (by decide)]; rfl
   rw [e2]
   exact bin_16_15 a b w
  ·have e2 : p9 64912 a b = (vb 16 16 a b, 0) := by unfold p9; rw [if_pos (by decide)]; rfl
   rw [e2]
   exact bin_16_16 a b w
  ·have e2 : p9 64913 a b = (vb 16 17 a b, 0) := by unfold p9; rw [if_pos (by decide)]; rfl
   rw [e2]
   exact bin_16_17 a b w
  ·have e2 : p9 64914 a b = (vb 16 18 a b, 0) := by unfold p9; rw [if_pos (by decide)]; rfl
   rw [e2]
   exact bin_16_18 a b w
  ·have e2 : p9 64915 a b = (vb 16 19 a b, 0) := by unfold p9; rw [if_pos (by decide)]; rfl
   rw [e2]
   exact bin_16_19 a b w
  ·have e2 : p9 64917 a b = (vb 16 21 a b, 0) := by unfold p9; rw [if_pos (by decide)]; rfl
   rw [e2]
   exact bin_16_21 a b w
  ·have e2 : p9 64918 a b = (vb 16 22 a b, 0) := by unfold p9; rw [if_pos (by decide)]; rfl
   rw [e2]
   exact bin_16_22 a b w
  ·have e2 : p9 64919 a b = (vb 16 23 a b, 0) := by unfold p9; rw [if_pos (by decide)]; rfl
   rw [e2]
   exact bin_16_23 a b w
  ·have e2 : p9 64920 a b = (vb 16 24 a b, 0) := by unfold p9; rw [if_pos (by decide)]; rfl
   rw [e2]
   exact bin_16_24 a b w
  ·have e2 : p9 64921 a b = (vb 16 25 a b, 0) := by unfold p9; rw [if_pos (by decide)]; rfl
   rw [e2]
   exact bin_16_25 a b w
  ·have e2 : p9 64923 a b = (vb 16 27 a b, 0) := by unfold p9; rw [if_pos (by decide)]; rfl
   rw [e2]
   exact bin_16_27 a b w
  ·have e2 : p9 64942 a b = (vb 32 14 a b, 0) := by unfold p9; rw [if_pos (by decide)]; rfl
   rw [e2]
   exact bin_32_14 a b w
  ·have e2 : p9 64945 a b = (vb 32 17 a b, 0) := by unfold p9; rw [if_pos (by decide)]; rfl
   rw [e2]
   exact bin_32_17 a b w
  ·have e2 : p9 64949 a b = (vb 32 21 a b, 0) := by unfold p9; rw [if_pos (by decide)]; rfl
   rw [e2]
   exact bin_32_21 a b w
  ·have e2 : p9 64950 a b = (vb 32 22 a b, 0) := by unfold p9; rw [if_pos (by decide)]; rfl
   rw [e2]
   exact bin_32_22 a b w
  ·have e2 : p9 64951 a b = (vb 32 23 a b, 0) := by unfold p9; rw [if_pos (by decide)]; rfl
   rw [e2]
   exact bin_32_23 a b w
  ·have e2 : p9 64952 a b = (vb 32 24 a b, 0) := by unfold p9; rw [if_pos (by decide)]; rfl
   rw [e2]
   exact bin_32_24 a b w
  ·have e2 : p9 64953 a b = (vb 32 25 a b, 0) := by unfold p9; rw [if_pos (by decide)]; rfl
   rw [e2]
   exact bin_32_25 a b w
  ·have e2 : p9 64974 a b = (vb 64 14 a b, 0) := by unfold p9; rw [if_pos (by decide)]; rfl
   rw [e2]
   exact bin_64_14 a b w
  ·have e2 : p9 64977 a b = (vb 64 17 a b, 0) := by unfold p9; rw [if_pos (by decide)]; rfl
   rw [e2]
   exact bin_64_17 a b w
  ·have e2 : p9 64981 a b = (vb 64 21 a b, 0) := by unfold p9; rw [if_pos (by decide)]; rfl
   rw [e2]
   exact bin_64_21 a b w
 ·have e2 : p9 op a b = (0, 1) := by
   unfold p9
   exact gQ
  rw [e2]
  exact bin_no op z k a b w hK (by omega)
theorem vsh_both_ops : ∀ j : Fin 128, wF (64864 + (j.val : Int)) ≠ 0 → (11 ≤ ((64864 + (j.val : Int) - 64768) % 32) ∧ ((64864 + (j.val : Int) - 64768) % 32) ≤ 13) → (64864 + (j.val : Int)) ∈ ([64875, 64876, 64877, 64907, 64908, 64909, 64939, 64940, 64941, 64971, 64972, 64973] : List Int) := by decide +kernel
theorem sh_p (op : Int) (v : Vec) (n : Nat) (w : World) (ho : -9223372036854775808 ≤ op ∧ op ≤ 9223372036854775807) (hn : n < 4294967296) :
 Calls Try.prog 24 #[.int .i64 op, .agg (mY v), .int .u32 (n : Int)] w fun e w' => e = .returned (.tuple #[.agg (mY (shV op v n).1), .int .i64 (shV op v n).2]) ∧ Below w.heap.size w w' := by
 obtain ⟨z, k, hK, hz, hk⟩ := vkind_any op ho
 by_cases hg : z ≠ 0 ∧ (11 ≤ k ∧ k ≤ 13)
 ·obtain ⟨r1, r2, r3⟩ := hk hg.1
  have hm := vsh_both_ops ⟨(op - 64864).toNat, by omega⟩
  have e : (64864 : Int) + (((op - 64864).toNat : Nat) : Int) = op := by omega
  simp only [e, ← hz, ← r3] at hm
  have hl := hm hg.1 hg.2
  simp only [List.mem_cons, List.not_mem_nil, or_false] at hl
  clear hm e hK hk
  rcases hl with rfl | rfl | rfl | rfl | rfl | rfl | rfl | rfl | rfl | rfl | rfl | rfl
  ·have e2 : shV 64875 v n = (vs 8 11 (n % 8) v, 0) := by unfold shV; rw [if_pos (by decide)]; rfl
   rw [e2]
   exact sh_8_11 v n _ w rfl hn
  ·have e2 : shV 64876 v n = (vs 8 12 (n % 8) v, 0) := by unfold shV; rw [if_pos (by decide)]; rfl
   rw [e2]
   exact sh_8_12 v n _ w rfl hn
  ·have e2 : shV 64877 v n = (vs 8 13 (n % 8) v, 0) := by unfold shV; rw [if_pos (by decide)]; rfl
   rw [e2]
   exact sh_8_13 v n _ w rfl hn
  ·have e2 : shV 64907 v n = (vs 16 11 (n % 16) v, 0) := by unfold shV; rw [if_pos (by decide)]; rfl
   rw [e2]
   exact sh_16_11 v n _ w rfl hn
  ·have e2 : shV 64908 v n = (vs 16 12 (n % 16) v, 0) := by unfold shV; rw [if_pos (by decide)]; rfl
   rw [e2]
   exact sh_16_12 v n _ w rfl hn
  ·have e2 : shV 64909 v n = (vs 16 13 (n % 16) v, 0) := by unfold shV; rw [if_pos (by decide)]; rfl
   rw [e2]
   exact sh_16_13 v n _ w rfl hn
  ·have e2 : shV 64939 v n = (vs 32 11 (n % 32) v, 0) := by unfold shV; rw [if_pos (by decide)]; rfl
   rw [e2]
   exact sh_32_11 v n _ w rfl hn
  ·have e2 : shV 64940 v n = (vs 32 12 (n % 32) v, 0) := by unfold shV; rw [if_pos (by decide)]; rfl
   rw [e2]
   exact sh_32_12 v n _ w rfl hn
  ·have e2 : shV 64941 v n = (vs 32 13 (n % 32) v, 0) := by unfold shV; rw [if_pos (by decide)]; rfl
   rw [e2]
   exact sh_32_13 v n _ w rfl hn
  ·have e2 : shV 64971 v n = (vs 64 11 (n % 64) v, 0) := by unfold shV; rw [if_pos (by decide)]; rfl
   rw [e2]
   exact sh_64_11 v n _ w rfl hn
  ·have e2 : shV 64972 v n = (vs 64 12 (n % 64) v, 0) := by unfold shV; rw [if_pos (by decide)]; rfl
   rw [e2]
   exact sh_64_12 v n _ w rfl hn
  ·have e2 : shV 64973 v n = (vs 64 13 (n % 64) v, 0) := by unfold shV; rw [if_pos (by decide)]; rfl
   rw [e2]
   exact sh_64_13 v n _ w rfl hn
 ·have e2 : shV op v n = (0, 1) := by
   unfold shV
   exact gQ
  rw [e2]
  exact sh_no op z k v (n : Int) w hK (by omega)
end Go.Proofs.Ytcpfabkokgiepaa
