/-
  The kinds of all opcodes; where plaitref05.Un, Bin, Shift refuse.
-/
import Derived.Test.YtgemlndpmbeaeaaAriRP
import Derived.Test.YtgemlndpmbeaeaaAriLo
set_option linter.unusedSimpArgs false
set_option linter.unusedVariables false
namespace Go.Proofs.Ytgemlndpmbeaeaa
open Go.RowKit Pl

theorem row_out (op : Int) (h : op < 64864 ∨ 64991 < op) : wF op = 0 := by
  unfold wF row0 row1 row2 row3
  simp only [List.contains_cons, List.contains_nil, Bool.or_false, Bool.or_eq_true, beq_iff_eq]
  rw [if_neg (by omega), if_neg (by omega), if_neg (by omega), if_neg (by omega)]
theorem kind_in (op : Int) (j : Nat) (hj : j < 128) (h : op = 64864 + (j : Int)) : ∃ z k : Int, (∀ W, Calls Try.prog 32 #[.int .i64 op] W fun e w' => e = .returned (.tuple #[.int .i64 z, .int .i64 k]) ∧ w' = W) ∧ z = wF op ∧ (z ≠ 0 → k = (op - 64768) % 32) :=
  match j, hj with
  | 0, _ => by
    obtain rfl : op = 64864 := by omega
    exact ⟨_, _, kind_64864, by decide, by decide⟩
  | 1, _ => by
    obtain rfl : op = 64865 := by omega
    exact ⟨_, _, kind_64865, by decide, by decide⟩
  | 2, _ => by
    obtain rfl : op = 64866 := by omega
    exact ⟨_, _, kind_64866, by decide, by decide⟩
  | 3, _ => by
    obtain rfl : op = 64867 := by omega
    exact ⟨_, _, kind_64867, by decide, by decide⟩
  | 4, _ => by
    obtain rfl : op = 64868 := by omega
    exact ⟨_, _, kind_64868, by decide, by decide⟩
  | 5, _ => by
    obtain rfl : op = 64869 := by omega
    exact ⟨_, _, kind_64869, by decide, by decide⟩
  | 6, _ => by
    obtain rfl : op = 64870 := by omega
    exact ⟨_, _, kind_64870, by decide, by decide⟩
  | 7, _ => by
    obtain rfl : op = 64871 := by omega
    exact ⟨_, _, kind_64871, by decide, by decide⟩
  | 8, _ => by
    obtain rfl : op = 64872 := by omega
    exact ⟨_, _, kind_64872, by decide, by decide⟩
  | 9, _ => by
    obtain rfl : op = 64873 := by omega
    exact ⟨_, _, kind_64873, by decide, by decide⟩
  | 10, _ => by
    obtain rfl : op = 64874 := by omega
    exact ⟨_, _, kind_64874, by decide, by decide⟩
  | 11, _ => by
    obtain rfl : op = 64875 := by omega
    exact ⟨_, _, kind_64875, by decide, by decide⟩
  | 12, _ => by
    obtain rfl : op = 64876 := by omega
    exact ⟨_, _, kind_64876, by decide, by decide⟩
  | 13, _ => by
    obtain rfl : op = 64877 := by omega
    exact ⟨_, _, kind_64877, by decide, by decide⟩
  | 14, _ => by
    obtain rfl : op = 64878 := by omega
    exact ⟨_, _, kind_64878, by decide, by decide⟩
  | 15, _ => by
    obtain rfl : op = 64879 := by omega
    exact ⟨_, _, kind_64879, by decide, by decide⟩
  | 16, _ => by
    obtain rfl : op = 64880 := by omega
    exact ⟨_, _, kind_64880, by decide, by decide⟩
  | 17, _ => by
    obtain rfl : op = 64881 := by omega
    exact ⟨_, _, kind_64881, by decide, by decide⟩
  | 18, _ => by
    obtain rfl : op = 64882 := by omega
    exact ⟨_, _, kind_64882, by decide, by decide⟩
  | 19, _ => by
    obtain rfl : op = 64883 := by omega
    exact ⟨_, _, kind_64883, by decide, by decide⟩
  | 20, _ => by
    obtain rfl : op = 64884 := by omega
    exact ⟨_, _, kind_64884, by decide, by decide⟩
  | 21, _ => by
    obtain rfl : op = 64885 := by omega
    exact ⟨_, _, kind_64885, by decide, by decide⟩
  | 22, _ => by
    obtain rfl : op = 64886 := by omega
    exact ⟨_, _, kind_64886, by decide, by decide⟩
  | 23, _ => by
    obtain rfl : op = 64887 := by omega
    exact ⟨_, _, kind_64887, by decide, by decide⟩
  | 24, _ => by
    obtain rfl : op = 64888 := by omega
    exact ⟨_, _, kind_64888, by decide, by decide⟩
  | 25, _ => by
    obtain rfl : op = 64889 := by omega
    exact ⟨_, _, kind_64889, by decide, by decide⟩
  | 26, _ => by
    obtain rfl : op = 64890 := by omega
    exact ⟨_, _, kind_64890, by decide, by decide⟩
  | 27, _ => by
    obtain rfl : op = 64891 := by omega
    exact ⟨_, _, kind_64891, by decide, by decide⟩
  | 28, _ => by
    obtain rfl : op = 64892 := by omega
    exact ⟨_, _, kind_64892, by decide, by decide⟩
  | 29, _ => by
    obtain rfl : op = 64893 := by omega
    exact ⟨_, _, kind_64893, by decide, by decide⟩
  | 30, _ => by
    obtain rfl : op = 64894 := by omega
    exact ⟨_, _, kind_64894, by decide, by decide⟩
  | 31, _ => by
    obtain rfl : op = 64895 := by omega
    exact ⟨_, _, kind_64895, by decide, by decide⟩
  | 32, _ => by
    obtain rfl : op = 64896 := by omega
    exact ⟨_, _, kind_64896, by decide, by decide⟩
  | 33, _ => by
    obtain rfl : op = 64897 := by omega
    exact ⟨_, _, kind_64897, by decide, by decide⟩
  | 34, _ => by
    obtain rfl : op = 64898 := by omega
    exact ⟨_, _, kind_64898, by decide, by decide⟩
  | 35, _ => by
    obtain rfl : op = 64899 := by omega
    exact ⟨_, _, kind_64899, by decide, by decide⟩
  | 36, _ => by
    obtain rfl : op = 64900 := by omega
    exact ⟨_, _, kind_64900, by decide, by decide⟩
  | 37, _ => by
    obtain rfl : op = 64901 := by omega
    exact ⟨_, _, kind_64901, by decide, by decide⟩
  | 38, _ => by
    obtain rfl : op = 64902 := by omega
    exact ⟨_, _, kind_64902, by decide, by decide⟩
  | 39, _ => by
    obtain rfl : op = 64903 := by omega
    exact ⟨_, _, kind_64903, by decide, by decide⟩
  | 40, _ => by
    obtain rfl : op = 64904 := by omega
    exact ⟨_, _, kind_64904, by decide, by decide⟩
  | 41, _ => by
    obtain rfl : op = 64905 := by omega
    exact ⟨_, _, kind_64905, by decide, by decide⟩
  | 42, _ => by
    obtain rfl : op = 64906 := by omega
    exact ⟨_, _, kind_64906, by decide, by decide⟩
  | 43, _ => by
    obtain rfl : op = 64907 := by omega
    exact ⟨_, _, kind_64907, by decide, by decide⟩
  | 44, _ => by
    obtain rfl : op = 64908 := by omega
    exact ⟨_, _, kind_64908, by decide, by decide⟩
  | 45, _ => by
    obtain rfl : op = 64909 := by omega
    exact ⟨_, _, kind_64909, by decide, by decide⟩
  | 46, _ => by
    obtain rfl : op = 64910 := by omega
    exact ⟨_, _, kind_64910, by decide, by decide⟩
  | 47, _ => by
    obtain rfl : op = 64911 := by omega
    exact ⟨_, _, kind_64911, by decide, by decide⟩
  | 48, _ => by
    obtain rfl : op = 64912 := by omega
    exact ⟨_, _, kind_64912, by decide, by decide⟩
  | 49, _ => by
    obtain rfl : op = 64913 := by omega
    exact ⟨_, _, kind_64913, by decide, by decide⟩
  | 50, _ => by
    obtain rfl : op = 64914 := by omega
    exact ⟨_, _, kind_64914, by decide, by decide⟩
  | 51, _ => by
    obtain rfl : op = 64915 := by omega
    exact ⟨_, _, kind_64915, by decide, by decide⟩
  | 52, _ => by
    obtain rfl : op = 64916 := by omega
    exact ⟨_, _, kind_64916, by decide, by decide⟩
  | 53, _ => by
    obtain rfl : op = 64917 := by omega
    exact ⟨_, _, kind_64917, by decide, by decide⟩
  | 54, _ => by
    obtain rfl : op = 64918 := by omega
    exact ⟨_, _, kind_64918, by decide, by decide⟩
  | 55, _ => by
    obtain rfl : op = 64919 := by omega
    exact ⟨_, _, kind_64919, by decide, by decide⟩
  | 56, _ => by
    obtain rfl : op = 64920 := by omega
    exact ⟨_, _, kind_64920, by decide, by decide⟩
  | 57, _ => by
    obtain rfl : op = 64921 := by omega
    exact ⟨_, _, kind_64921, by decide, by decide⟩
  | 58, _ => by
    obtain rfl : op = 64922 := by omega
    exact ⟨_, _, kind_64922, by decide, by decide⟩
  | 59, _ => by
    obtain rfl : op = 64923 := by omega
    exact ⟨_, _, kind_64923, by decide, by decide⟩
  | 60, _ => by
    obtain rfl : op = 64924 := by omega
    exact ⟨_, _, kind_64924, by decide, by decide⟩
  | 61, _ => by
    obtain rfl : op = 64925 := by omega
    exact ⟨_, _, kind_64925, by decide, by decide⟩
  | 62, _ => by
    obtain rfl : op = 64926 := by omega
    exact ⟨_, _, kind_64926, by decide, by decide⟩
  | 63, _ => by
    obtain rfl : op = 64927 := by omega
    exact ⟨_, _, kind_64927, by decide, by decide⟩
  | 64, _ => by
    obtain rfl : op = 64928 := by omega
    exact ⟨_, _, kind_64928, by decide, by decide⟩
  | 65, _ => by
    obtain rfl : op = 64929 := by omega
    exact ⟨_, _, kind_64929, by decide, by decide⟩
  | 66, _ => by
    obtain rfl : op = 64930 := by omega
    exact ⟨_, _, kind_64930, by decide, by decide⟩
  | 67, _ => by
    obtain rfl : op = 64931 := by omega
    exact ⟨_, _, kind_64931, by decide, by decide⟩
  | 68, _ => by
    obtain rfl : op = 64932 := by omega
    exact ⟨_, _, kind_64932, by decide, by decide⟩
  | 69, _ => by
    obtain rfl : op = 64933 := by omega
    exact ⟨_, _, kind_64933, by decide, by decide⟩
  | 70, _ => by
    obtain rfl : op = 64934 := by omega
    exact ⟨_, _, kind_64934, by decide, by decide⟩
  | 71, _ => by
    obtain rfl : op = 64935 := by omega
    exact ⟨_, _, kind_64935, by decide, by decide⟩
  | 72, _ => by
    obtain rfl : op = 64936 := by omega
    exact ⟨_, _, kind_64936, by decide, by decide⟩
  | 73, _ => by
    obtain rfl : op = 64937 := by omega
    exact ⟨_, _, kind_64937, by decide, by decide⟩
  | 74, _ => by
    obtain rfl : op = 64938 := by omega
    exact ⟨_, _, kind_64938, by decide, by decide⟩
  | 75, _ => by
    obtain rfl : op = 64939 := by omega
    exact ⟨_, _, kind_64939, by decide, by decide⟩
  | 76, _ => by
    obtain rfl : op = 64940 := by omega
    exact ⟨_, _, kind_64940, by decide, by decide⟩
  | 77, _ => by
    obtain rfl : op = 64941 := by omega
    exact ⟨_, _, kind_64941, by decide, by decide⟩
  | 78, _ => by
    obtain rfl : op = 64942 := by omega
    exact ⟨_, _, kind_64942, by decide, by decide⟩
  | 79, _ => by
    obtain rfl : op = 64943 := by omega
    exact ⟨_, _, kind_64943, by decide, by decide⟩
  | 80, _ => by
    obtain rfl : op = 64944 := by omega
    exact ⟨_, _, kind_64944, by decide, by decide⟩
  | 81, _ => by
    obtain rfl : op = 64945 := by omega
    exact ⟨_, _, kind_64945, by decide, by decide⟩
  | 82, _ => by
    obtain rfl : op = 64946 := by omega
    exact ⟨_, _, kind_64946, by decide, by decide⟩
  | 83, _ => by
    obtain rfl : op = 64947 := by omega
    exact ⟨_, _, kind_64947, by decide, by decide⟩
  | 84, _ => by
    obtain rfl : op = 64948 := by omega
    exact ⟨_, _, kind_64948, by decide, by decide⟩
  | 85, _ => by
    obtain rfl : op = 64949 := by omega
    exact ⟨_, _, kind_64949, by decide, by decide⟩
  | 86, _ => by
    obtain rfl : op = 64950 := by omega
    exact ⟨_, _, kind_64950, by decide, by decide⟩
  | 87, _ => by
    obtain rfl : op = 64951 := by omega
    exact ⟨_, _, kind_64951, by decide, by decide⟩
  | 88, _ => by
    obtain rfl : op = 64952 := by omega
    exact ⟨_, _, kind_64952, by decide, by decide⟩
  | 89, _ => by
    obtain rfl : op = 64953 := by omega
    exact ⟨_, _, kind_64953, by decide, by decide⟩
  | 90, _ => by
    obtain rfl : op = 64954 := by omega
    exact ⟨_, _, kind_64954, by decide, by decide⟩
  | 91, _ => by
    obtain rfl : op = 64955 := by omega
    exact ⟨_, _, kind_64955, by decide, by decide⟩
  | 92, _ => by
    obtain rfl : op = 64956 := by omega
    exact ⟨_, _, kind_64956, by decide, by decide⟩
  | 93, _ => by
    obtain rfl : op = 64957 := by omega
    exact ⟨_, _, kind_64957, by decide, by decide⟩
  | 94, _ => by
    obtain rfl : op = 64958 := by omega
    exact ⟨_, _, kind_64958, by decide, by decide⟩
  | 95, _ => by
    obtain rfl : op = 64959 := by omega
    exact ⟨_, _, kind_64959, by decide, by decide⟩
  | 96, _ => by
    obtain rfl : op = 64960 := by omega
    exact ⟨_, _, kind_64960, by decide, by decide⟩
  | 97, _ => by
    obtain rfl : op = 64961 := by omega
    exact ⟨_, _, kind_64961, by decide, by decide⟩
  | 98, _ => by
    obtain rfl : op = 64962 := by omega
    exact ⟨_, _, kind_64962, by decide, by decide⟩
  | 99, _ => by
    obtain rfl : op = 64963 := by omega
    exact ⟨_, _, kind_64963, by decide, by decide⟩
  | 100, _ => by
    obtain rfl : op = 64964 := by omega
    exact ⟨_, _, kind_64964, by decide, by decide⟩
  | 101, _ => by
    obtain rfl : op = 64965 := by omega
    exact ⟨_, _, kind_64965, by decide, by decide⟩
  | 102, _ => by
    obtain rfl : op = 64966 := by omega
    exact ⟨_, _, kind_64966, by decide, by decide⟩
  | 103, _ => by
    obtain rfl : op = 64967 := by omega
    exact ⟨_, _, kind_64967, by decide, by decide⟩
  | 104, _ => by
    obtain rfl : op = 64968 := by omega
    exact ⟨_, _, kind_64968, by decide, by decide⟩
  | 105, _ => by
    obtain rfl : op = 64969 := by omega
    exact ⟨_, _, kind_64969, by decide, by decide⟩
  | 106, _ => by
    obtain rfl : op = 64970 := by omega
    exact ⟨_, _, kind_64970, by decide, by decide⟩
  | 107, _ => by
    obtain rfl : op = 64971 := by omega
    exact ⟨_, _, kind_64971, by decide, by decide⟩
  | 108, _ => by
    obtain rfl : op = 64972 := by omega
    exact ⟨_, _, kind_64972, by decide, by decide⟩
  | 109, _ => by
    obtain rfl : op = 64973 := by omega
    exact ⟨_, _, kind_64973, by decide, by decide⟩
  | 110, _ => by
    obtain rfl : op = 64974 := by omega
    exact ⟨_, _, kind_64974, by decide, by decide⟩
  | 111, _ => by
    obtain rfl : op = 64975 := by omega
    exact ⟨_, _, kind_64975, by decide, by decide⟩
  | 112, _ => by
    obtain rfl : op = 64976 := by omega
    exact ⟨_, _, kind_64976, by decide, by decide⟩
  | 113, _ => by
    obtain rfl : op = 64977 := by omega
    exact ⟨_, _, kind_64977, by decide, by decide⟩
  | 114, _ => by
    obtain rfl : op = 64978 := by omega
    exact ⟨_, _, kind_64978, by decide, by decide⟩
  | 115, _ => by
    obtain rfl : op = 64979 := by omega
    exact ⟨_, _, kind_64979, by decide, by decide⟩
  | 116, _ => by
    obtain rfl : op = 64980 := by omega
    exact ⟨_, _, kind_64980, by decide, by decide⟩
  | 117, _ => by
    obtain rfl : op = 64981 := by omega
    exact ⟨_, _, kind_64981, by decide, by decide⟩
  | 118, _ => by
    obtain rfl : op = 64982 := by omega
    exact ⟨_, _, kind_64982, by decide, by decide⟩
  | 119, _ => by
    obtain rfl : op = 64983 := by omega
    exact ⟨_, _, kind_64983, by decide, by decide⟩
  | 120, _ => by
    obtain rfl : op = 64984 := by omega
    exact ⟨_, _, kind_64984, by decide, by decide⟩
  | 121, _ => by
    obtain rfl : op = 64985 := by omega
    exact ⟨_, _, kind_64985, by decide, by decide⟩
  | 122, _ => by
    obtain rfl : op = 64986 := by omega
    exact ⟨_, _, kind_64986, by decide, by decide⟩
  | 123, _ => by
    obtain rfl : op = 64987 := by omega
    exact ⟨_, _, kind_64987, by decide, by decide⟩
  | 124, _ => by
    obtain rfl : op = 64988 := by omega
    exact ⟨_, _, kind_64988, by decide, by decide⟩
  | 125, _ => by
    obtain rfl : op = 64989 := by omega
    exact ⟨_, _, kind_64989, by decide, by decide⟩
  | 126, _ => by
    obtain rfl : op = 64990 := by omega
    exact ⟨_, _, kind_64990, by decide, by decide⟩
  | 127, _ => by
    obtain rfl : op = 64991 := by omega
    exact ⟨_, _, kind_64991, by decide, by decide⟩
  | n + 128, hj => absurd hj (by omega)
theorem kind_any (op : Int) (ho : -9223372036854775808 ≤ op ∧ op ≤ 9223372036854775807) : ∃ z k : Int, (∀ W, Calls Try.prog 32 #[.int .i64 op] W fun e w' => e = .returned (.tuple #[.int .i64 z, .int .i64 k]) ∧ w' = W) ∧ z = wF op ∧ (z ≠ 0 → 64864 ≤ op ∧ op ≤ 64991 ∧ k = (op - 64768) % 32) := by
  by_cases h : op < 64864 ∨ 64991 < op
  · refine ⟨0, 0, fun W => kind_none op (wrap64 (wrap64 (op - 64768) - 96)) W rfl (by unfold wrap64; omega), (row_out op h).symm, fun h => absurd rfl h⟩
  · obtain ⟨z, k, h1, h2, h3⟩ := kind_in op (op - 64864).toNat (by omega) (by omega)
    exact ⟨z, k, h1, h2, fun hz => ⟨by omega, by omega, h3 hz⟩⟩
theorem roff_any (op : Int) (ho : -9223372036854775808 ≤ op ∧ op ≤ 9223372036854775807) (z k : Int) (hz : z = wF op) (hk : z ≠ 0 → 64864 ≤ op ∧ op ≤ 64991 ∧ k = (op - 64768) % 32) :
    ∃ κ : Int, (∀ W, Calls Try.prog 33 #[.int .i64 op] W fun e w' => e = .returned (.int .i64 κ) ∧ Below W.heap.size W w') ∧ (z = 0 → κ = -1) ∧ (z ≠ 0 → κ = k) := by
  by_cases h0 : z = 0
  · exact ⟨-1, fun W => roff_none op W ho (by rw [← hz]; exact h0), fun _ => rfl, fun h => absurd h0 h⟩
  · obtain ⟨h1, h2, h3⟩ := hk h0
    exact ⟨k, fun W => roff_some op k W ⟨by omega, by omega⟩ (by rw [← hz]; exact h0) h3.symm, fun h => absurd h h0, fun _ => rfl⟩
theorem store_z {ops : Array Oper} {rest : List Oper} {o : Oper} {a : Act} {w : World} {Q : Exit → Act → World → Prop} (hgd : o.guard = none) (x y : Operand) (ho : o.op = .store 23 x y)
    (g : Nat) (hx : a.eval x = .pointer (some ⟨g, 0, none⟩)) (hy : a.eval y = .agg #[.int .u8 0, .int .u8 0, .int .u8 0, .int .u8 0, .int .u8 0, .int .u8 0, .int .u8 0, .int .u8 0, .int .u8 0, .int .u8 0, .int .u8 0, .int .u8 0, .int .u8 0, .int .u8 0, .int .u8 0, .int .u8 0]) (v : Vec) (hg : w.heap[g]? = some (.cells (cells v) 23 (0, 0)))
    (h : ∀ w', Sets w g 0 w' → wpList Try.prog ops Q rest (a.put o.dst undef) w') : wpList Try.prog ops Q (o :: rest) a w :=
  store_vec hgd x y ho g 0 hx (by rw [hy, cells_zero]) v hg h
set_option maxRecDepth 100000 in
set_option maxHeartbeats 1000000 in
theorem rbin_no (op z κ : Int) (a b : Vec) (w : World) (hT : ∀ W, Calls Try.prog 30 #[.int .i64 op] W fun e w' => e = .returned (.int .i64 z) ∧ Below W.heap.size W w') (hK : ∀ W, Calls Try.prog 33 #[.int .i64 op] W fun e w' => e = .returned (.int .i64 κ) ∧ Below W.heap.size W w') (h : κ < 14) :
    Calls Try.prog 31 #[.int .i64 op, .agg (cells a), .agg (cells b)] w fun e w' => e = .returned (.tuple #[.agg (cells 0), .int .i64 1]) ∧ Below w.heap.size w w' := by
  have hs := HL.three w a b 0
  have T := Lib.hid hT
  have K := Lib.hid hK
  clear hT hK
  rw [cells_zero] at hs
  go_enter Try.func31, Try.ntmps31
  go_wp2_with (first | (go_at_call 30; (with_reducible refine (T.out _).mono ?_); rintro e u ⟨rfl, hb⟩; replace hs := hs.below hb; clear hb) | (go_at_call 33; (with_reducible refine (K.out _).mono ?_); rintro e u ⟨rfl, hb⟩; replace hs := hs.below hb; clear hb) | (with_reducible refine store_z rfl _ _ rfl (w.heap.size + 2) rfl rfl 0 (hs.hold (_, 0) List.mem_cons_self) ?_; intro wq hq))
  exact bodyPost_ret (results_vec_tmp rfl _ _ (w.heap.size + 2) _ _ rfl rfl hq.this) rfl ⟨rfl, hs.bel.trans (hq.below.mono (by omega))⟩
set_option maxRecDepth 100000 in
set_option maxHeartbeats 1000000 in
theorem run_no (op z κ : Int) (a : Vec) (w : World) (hT : ∀ W, Calls Try.prog 30 #[.int .i64 op] W fun e w' => e = .returned (.int .i64 z) ∧ Below W.heap.size W w') (hK : ∀ W, Calls Try.prog 33 #[.int .i64 op] W fun e w' => e = .returned (.int .i64 κ) ∧ Below W.heap.size W w') (h : κ < 0 ∨ 2 < κ) :
    Calls Try.prog 29 #[.int .i64 op, .agg (cells a)] w fun e w' => e = .returned (.tuple #[.agg (cells 0), .int .i64 1]) ∧ Below w.heap.size w w' := by
  have hs := HL.two w a 0
  have T := Lib.hid hT
  have K := Lib.hid hK
  clear hT hK
  rw [cells_zero] at hs
  rcases h with h | h
  · skip
    go_enter Try.func29, Try.ntmps29
    go_wp2_with (first | (go_at_call 30; (with_reducible refine (T.out _).mono ?_); rintro e u ⟨rfl, hb⟩; replace hs := hs.below hb; clear hb) | (go_at_call 33; (with_reducible refine (K.out _).mono ?_); rintro e u ⟨rfl, hb⟩; replace hs := hs.below hb; clear hb) | (with_reducible refine store_z rfl _ _ rfl (w.heap.size + 1) rfl rfl 0 (hs.hold (_, 0) List.mem_cons_self) ?_; intro wq hq))
    exact bodyPost_ret (results_vec_tmp rfl _ _ (w.heap.size + 1) _ _ rfl rfl hq.this) rfl ⟨rfl, hs.bel.trans (hq.below.mono (by omega))⟩
  · skip
    go_enter Try.func29, Try.ntmps29
    go_wp2_with (first | (go_at_call 30; (with_reducible refine (T.out _).mono ?_); rintro e u ⟨rfl, hb⟩; replace hs := hs.below hb; clear hb) | (go_at_call 33; (with_reducible refine (K.out _).mono ?_); rintro e u ⟨rfl, hb⟩; replace hs := hs.below hb; clear hb) | (with_reducible refine store_z rfl _ _ rfl (w.heap.size + 1) rfl rfl 0 (hs.hold (_, 0) List.mem_cons_self) ?_; intro wq hq))
    exact bodyPost_ret (results_vec_tmp rfl _ _ (w.heap.size + 1) _ _ rfl rfl hq.this) rfl ⟨rfl, hs.bel.trans (hq.below.mono (by omega))⟩
set_option maxRecDepth 100000 in
set_option maxHeartbeats 1000000 in
theorem rsh_no (op z κ : Int) (a : Vec) (n : Int) (w : World) (hT : ∀ W, Calls Try.prog 30 #[.int .i64 op] W fun e w' => e = .returned (.int .i64 z) ∧ Below W.heap.size W w') (hK : ∀ W, Calls Try.prog 33 #[.int .i64 op] W fun e w' => e = .returned (.int .i64 κ) ∧ Below W.heap.size W w') (h : κ < 11 ∨ 13 < κ) :
    Calls Try.prog 15 #[.int .i64 op, .agg (cells a), .int .u32 n] w fun e w' => e = .returned (.tuple #[.agg (cells 0), .int .i64 1]) ∧ Below w.heap.size w w' := by
  have hs := HL.two w a 0
  have T := Lib.hid hT
  have K := Lib.hid hK
  clear hT hK
  rw [cells_zero] at hs
  rcases h with h | h
  · skip
    go_enter Try.func15, Try.ntmps15
    go_wp2_with (first | (go_at_call 30; (with_reducible refine (T.out _).mono ?_); rintro e u ⟨rfl, hb⟩; replace hs := hs.below hb; clear hb) | (go_at_call 33; (with_reducible refine (K.out _).mono ?_); rintro e u ⟨rfl, hb⟩; replace hs := hs.below hb; clear hb) | (with_reducible refine store_z rfl _ _ rfl (w.heap.size + 1) rfl rfl 0 (hs.hold (_, 0) List.mem_cons_self) ?_; intro wq hq))
    exact bodyPost_ret (results_vec_tmp rfl _ _ (w.heap.size + 1) _ _ rfl rfl hq.this) rfl ⟨rfl, hs.bel.trans (hq.below.mono (by omega))⟩
  · skip
    go_enter Try.func15, Try.ntmps15
    go_wp2_with (first | (go_at_call 30; (with_reducible refine (T.out _).mono ?_); rintro e u ⟨rfl, hb⟩; replace hs := hs.below hb; clear hb) | (go_at_call 33; (with_reducible refine (K.out _).mono ?_); rintro e u ⟨rfl, hb⟩; replace hs := hs.below hb; clear hb) | (with_reducible refine store_z rfl _ _ rfl (w.heap.size + 1) rfl rfl 0 (hs.hold (_, 0) List.mem_cons_self) ?_; intro wq hq))
    exact bodyPost_ret (results_vec_tmp rfl _ _ (w.heap.size + 1) _ _ rfl rfl hq.this) rfl ⟨rfl, hs.bel.trans (hq.below.mono (by omega))⟩
end Go.Proofs.Ytgemlndpmbeaeaa
