/-
  num.Arity, num.small, num.great, num.Bin: whole contracts.
-/
import Derived.Test.YtllffbdcpilioaaDoorNumOps
set_option linter.unusedSimpArgs false
set_option linter.unusedVariables false
namespace Go.Proofs.YtllffbdcpilioaaDoor
open Go.RowKit Nm
set_option linter.unusedSimpArgs false
set_option linter.unusedVariables false

theorem zero32_3 (x : B32) (w : World) : Calls Tryd.prog 22 #[.int .i64 109, .int .u32 (x.toNat : Int), .int .u32 ((0 : B32).toNat : Int)] w fun e w' => e = .returned (.tuple #[.int .u32 ((0 : B32).toNat : Int), .int .i64 21]) ∧ w' = w := by
  show Calls Tryd.prog 22 #[.int .i64 109, .int .u32 (x.toNat : Int), .int .u32 0] w _
  go_enter Tryd.func22, Tryd.ntmps22
  go_wp2
  all_goals go_ret2
  all_goals exact ⟨rfl, rfl⟩

theorem zero32_4 (x : B32) (w : World) : Calls Tryd.prog 22 #[.int .i64 110, .int .u32 (x.toNat : Int), .int .u32 ((0 : B32).toNat : Int)] w fun e w' => e = .returned (.tuple #[.int .u32 ((0 : B32).toNat : Int), .int .i64 21]) ∧ w' = w := by
  show Calls Tryd.prog 22 #[.int .i64 110, .int .u32 (x.toNat : Int), .int .u32 0] w _
  go_enter Tryd.func22, Tryd.ntmps22
  go_wp2
  all_goals go_ret2
  all_goals exact ⟨rfl, rfl⟩

theorem zero32_5 (x : B32) (w : World) : Calls Tryd.prog 22 #[.int .i64 111, .int .u32 (x.toNat : Int), .int .u32 ((0 : B32).toNat : Int)] w fun e w' => e = .returned (.tuple #[.int .u32 ((0 : B32).toNat : Int), .int .i64 21]) ∧ w' = w := by
  show Calls Tryd.prog 22 #[.int .i64 111, .int .u32 (x.toNat : Int), .int .u32 0] w _
  go_enter Tryd.func22, Tryd.ntmps22
  go_wp2
  all_goals go_ret2
  all_goals exact ⟨rfl, rfl⟩

theorem zero32_6 (x : B32) (w : World) : Calls Tryd.prog 22 #[.int .i64 112, .int .u32 (x.toNat : Int), .int .u32 ((0 : B32).toNat : Int)] w fun e w' => e = .returned (.tuple #[.int .u32 ((0 : B32).toNat : Int), .int .i64 21]) ∧ w' = w := by
  show Calls Tryd.prog 22 #[.int .i64 112, .int .u32 (x.toNat : Int), .int .u32 0] w _
  go_enter Tryd.func22, Tryd.ntmps22
  go_wp2
  all_goals go_ret2
  all_goals exact ⟨rfl, rfl⟩

theorem over32 (w : World) : Calls Tryd.prog 22 #[.int .i64 109, .int .u32 ((BitVec.intMin 32).toNat : Int), .int .u32 ((BitVec.allOnes 32).toNat : Int)] w fun e w' => e = .returned (.tuple #[.int .u32 ((0 : B32).toNat : Int), .int .i64 22]) ∧ w' = w := by
  show Calls Tryd.prog 22 #[.int .i64 109, .int .u32 2147483648, .int .u32 4294967295] w _
  go_enter Tryd.func22, Tryd.ntmps22
  go_wp2
  all_goals go_ret2
  all_goals exact ⟨rfl, rfl⟩

theorem small_any (op : Int) (x y : B32) (w : World) (ho : 106 ≤ op ∧ op ≤ 120) :
    Calls Tryd.prog 22 #[.int .i64 op, .int .u32 (x.toNat : Int), .int .u32 (y.toNat : Int)] w fun e w' => e = .returned (.tuple #[.int .u32 ((opB (op - 106) x y).1.toNat : Int), .int .i64 (opB (op - 106) x y).2]) ∧ w' = w := by
  rcases (show op = 106 ∨ op = 107 ∨ op = 108 ∨ op = 109 ∨ op = 110 ∨ op = 111 ∨ op = 112 ∨ op = 113 ∨ op = 114 ∨ op = 115 ∨ op = 116 ∨ op = 117 ∨ op = 118 ∨ op = 119 ∨ op = 120 by omega) with rfl | rfl | rfl | rfl | rfl | rfl | rfl | rfl | rfl | rfl | rfl | rfl | rfl | rfl | rfl
  · exact add32_op x y w
  · exact sub32_op x y w
  · exact mul32_op x y w
  · by_cases h : y = 0
    · subst h; exact zero32_3 x w
    · by_cases hov : x = BitVec.intMin 32 ∧ y = BitVec.allOnes 32
      · obtain ⟨rfl, rfl⟩ := hov; exact over32 w
      · have e : opB 3 x y = (x.sdiv y, 0) := by unfold opB; rw [if_neg (fun hh => h hh.2.2)]; show (if x = BitVec.intMin 32 ∧ y = BitVec.allOnes 32 then _ else _) = _; rw [if_neg hov]
        rw [show (109 : Int) - 106 = 3 from rfl, e]
        exact divs32_op x y w h hov
  · by_cases h : y = 0
    · subst h; exact zero32_4 x w
    · have e : opB 4 x y = (x / y, 0) := by unfold opB; rw [if_neg (fun hh => h hh.2.2)]; rfl
      rw [show (110 : Int) - 106 = 4 from rfl, e]
      exact divu32_op x y w h
  · by_cases h : y = 0
    · subst h; exact zero32_5 x w
    · have e : opB 5 x y = (x.srem y, 0) := by unfold opB; rw [if_neg (fun hh => h hh.2.2)]; rfl
      rw [show (111 : Int) - 106 = 5 from rfl, e]
      exact rems32_op x y w h
  · by_cases h : y = 0
    · subst h; exact zero32_6 x w
    · have e : opB 6 x y = (x % y, 0) := by unfold opB; rw [if_neg (fun hh => h hh.2.2)]; rfl
      rw [show (112 : Int) - 106 = 6 from rfl, e]
      exact remu32_op x y w h
  · exact and32_op x y w
  · exact or32_op x y w
  · exact xor32_op x y w
  · exact shl32_op x y w
  · exact sars32_op x y w
  · exact shr32_op x y w
  · exact rotl32_op x y w
  · exact rotr32_op x y w

theorem zero64_3 (x : B64) (w : World) : Calls Tryd.prog 23 #[.int .i64 127, .int .u64 (x.toNat : Int), .int .u64 ((0 : B64).toNat : Int)] w fun e w' => e = .returned (.tuple #[.int .u64 ((0 : B64).toNat : Int), .int .i64 21]) ∧ w' = w := by
  show Calls Tryd.prog 23 #[.int .i64 127, .int .u64 (x.toNat : Int), .int .u64 0] w _
  go_enter Tryd.func23, Tryd.ntmps23
  go_wp2
  all_goals go_ret2
  all_goals exact ⟨rfl, rfl⟩

theorem zero64_4 (x : B64) (w : World) : Calls Tryd.prog 23 #[.int .i64 128, .int .u64 (x.toNat : Int), .int .u64 ((0 : B64).toNat : Int)] w fun e w' => e = .returned (.tuple #[.int .u64 ((0 : B64).toNat : Int), .int .i64 21]) ∧ w' = w := by
  show Calls Tryd.prog 23 #[.int .i64 128, .int .u64 (x.toNat : Int), .int .u64 0] w _
  go_enter Tryd.func23, Tryd.ntmps23
  go_wp2
  all_goals go_ret2
  all_goals exact ⟨rfl, rfl⟩

theorem zero64_5 (x : B64) (w : World) : Calls Tryd.prog 23 #[.int .i64 129, .int .u64 (x.toNat : Int), .int .u64 ((0 : B64).toNat : Int)] w fun e w' => e = .returned (.tuple #[.int .u64 ((0 : B64).toNat : Int), .int .i64 21]) ∧ w' = w := by
  show Calls Tryd.prog 23 #[.int .i64 129, .int .u64 (x.toNat : Int), .int .u64 0] w _
  go_enter Tryd.func23, Tryd.ntmps23
  go_wp2
  all_goals go_ret2
  all_goals exact ⟨rfl, rfl⟩

theorem zero64_6 (x : B64) (w : World) : Calls Tryd.prog 23 #[.int .i64 130, .int .u64 (x.toNat : Int), .int .u64 ((0 : B64).toNat : Int)] w fun e w' => e = .returned (.tuple #[.int .u64 ((0 : B64).toNat : Int), .int .i64 21]) ∧ w' = w := by
  show Calls Tryd.prog 23 #[.int .i64 130, .int .u64 (x.toNat : Int), .int .u64 0] w _
  go_enter Tryd.func23, Tryd.ntmps23
  go_wp2
  all_goals go_ret2
  all_goals exact ⟨rfl, rfl⟩

theorem over64 (w : World) : Calls Tryd.prog 23 #[.int .i64 127, .int .u64 ((BitVec.intMin 64).toNat : Int), .int .u64 ((BitVec.allOnes 64).toNat : Int)] w fun e w' => e = .returned (.tuple #[.int .u64 ((0 : B64).toNat : Int), .int .i64 22]) ∧ w' = w := by
  show Calls Tryd.prog 23 #[.int .i64 127, .int .u64 9223372036854775808, .int .u64 18446744073709551615] w _
  go_enter Tryd.func23, Tryd.ntmps23
  go_wp2
  all_goals go_ret2
  all_goals exact ⟨rfl, rfl⟩

theorem great_any (op : Int) (x y : B64) (w : World) (ho : 124 ≤ op ∧ op ≤ 138) :
    Calls Tryd.prog 23 #[.int .i64 op, .int .u64 (x.toNat : Int), .int .u64 (y.toNat : Int)] w fun e w' => e = .returned (.tuple #[.int .u64 ((opB (op - 124) x y).1.toNat : Int), .int .i64 (opB (op - 124) x y).2]) ∧ w' = w := by
  rcases (show op = 124 ∨ op = 125 ∨ op = 126 ∨ op = 127 ∨ op = 128 ∨ op = 129 ∨ op = 130 ∨ op = 131 ∨ op = 132 ∨ op = 133 ∨ op = 134 ∨ op = 135 ∨ op = 136 ∨ op = 137 ∨ op = 138 by omega) with rfl | rfl | rfl | rfl | rfl | rfl | rfl | rfl | rfl | rfl | rfl | rfl | rfl | rfl | rfl
  · exact add64_op x y w
  · exact sub64_op x y w
  · exact mul64_op x y w
  · by_cases h : y = 0
    · subst h; exact zero64_3 x w
    · by_cases hov : x = BitVec.intMin 64 ∧ y = BitVec.allOnes 64
      · obtain ⟨rfl, rfl⟩ := hov; exact over64 w
      · have e : opB 3 x y = (x.sdiv y, 0) := by unfold opB; rw [if_neg (fun hh => h hh.2.2)]; show (if x = BitVec.intMin 64 ∧ y = BitVec.allOnes 64 then _ else _) = _; rw [if_neg hov]
        rw [show (127 : Int) - 124 = 3 from rfl, e]
        exact divs64_op x y w h hov
  · by_cases h : y = 0
    · subst h; exact zero64_4 x w
    · have e : opB 4 x y = (x / y, 0) := by unfold opB; rw [if_neg (fun hh => h hh.2.2)]; rfl
      rw [show (128 : Int) - 124 = 4 from rfl, e]
      exact divu64_op x y w h
  · by_cases h : y = 0
    · subst h; exact zero64_5 x w
    · have e : opB 5 x y = (x.srem y, 0) := by unfold opB; rw [if_neg (fun hh => h hh.2.2)]; rfl
      rw [show (129 : Int) - 124 = 5 from rfl, e]
      exact rems64_op x y w h
  · by_cases h : y = 0
    · subst h; exact zero64_6 x w
    · have e : opB 6 x y = (x % y, 0) := by unfold opB; rw [if_neg (fun hh => h hh.2.2)]; rfl
      rw [show (130 : Int) - 124 = 6 from rfl, e]
      exact remu64_op x y w h
  · exact and64_op x y w
  · exact or64_op x y w
  · exact xor64_op x y w
  · exact shl64_op x y w
  · exact sars64_op x y w
  · exact shr64_op x y w
  · exact rotl64_op x y w
  · exact rotr64_op x y w

/-- How many operands. -/
def arN (op : Int) : Int :=
  if op = 69 ∨ op = 80 ∨ 103 ≤ op ∧ op ≤ 105 ∨ 121 ≤ op ∧ op ≤ 123 ∨ op = 167 ∨ op = 172 ∨ op = 173 ∨ 192 ≤ op ∧ op ≤ 196 then 1
  else if 70 ≤ op ∧ op ≤ 79 ∨ 81 ≤ op ∧ op ≤ 90 ∨ 106 ≤ op ∧ op ≤ 120 ∨ 124 ≤ op ∧ op ≤ 138 then 2 else 0
theorem ret_ni64 {a b : Int} (h : a = b) : Ending.returned (.int .i64 a) = .returned (.int .i64 b) := by rw [h]
theorem ar_1 {op : Int} (h : op = 69 ∨ op = 80 ∨ 103 ≤ op ∧ op ≤ 105 ∨ 121 ≤ op ∧ op ≤ 123 ∨ op = 167 ∨ op = 172 ∨ op = 173 ∨ 192 ≤ op ∧ op ≤ 196) : 1 = arN op := by unfold arN; rw [if_pos h]
theorem ar_2 {op : Int} (h : 70 ≤ op ∧ op ≤ 79 ∨ 81 ≤ op ∧ op ≤ 90 ∨ 106 ≤ op ∧ op ≤ 120 ∨ 124 ≤ op ∧ op ≤ 138) : 2 = arN op := by unfold arN; rw [if_neg (by omega), if_pos h]
theorem ar_0 {op : Int} (h : ¬ (op = 69 ∨ op = 80 ∨ 103 ≤ op ∧ op ≤ 105 ∨ 121 ≤ op ∧ op ≤ 123 ∨ op = 167 ∨ op = 172 ∨ op = 173 ∨ 192 ≤ op ∧ op ≤ 196)) (h2 : ¬ (70 ≤ op ∧ op ≤ 79 ∨ 81 ≤ op ∧ op ≤ 90 ∨ 106 ≤ op ∧ op ≤ 120 ∨ 124 ≤ op ∧ op ≤ 138)) : 0 = arN op := by unfold arN; rw [if_neg h, if_neg h2]
theorem arity_any (op : Int) (w : World) : Calls Tryd.prog 11 #[.int .i64 op] w fun e w' => e = .returned (.int .i64 (arN op)) ∧ w' = w := by
  go_enter Tryd.func11, Tryd.ntmps11
  go_wp2
  all_goals go_ret
  all_goals refine ⟨ret_ni64 ?_, rfl⟩
  all_goals (simp only [beq_iff_eq, beq_eq_false_iff_ne, ne_eq, decide_eq_true_eq, decide_eq_false_iff_not] at *)
  all_goals first
    | exact ar_1 (by omega)
    | exact ar_2 (by omega)
    | exact ar_0 (by omega) (by omega)

theorem arity_1 {op : Int} (w : World) (h : op = 69 ∨ op = 80 ∨ 103 ≤ op ∧ op ≤ 105 ∨ 121 ≤ op ∧ op ≤ 123 ∨ op = 167 ∨ op = 172 ∨ op = 173 ∨ 192 ≤ op ∧ op ≤ 196) : Calls Tryd.prog 11 #[.int .i64 op] w fun e w' => e = .returned (.int .i64 1) ∧ w' = w :=
  (arity_any op w).mono fun e w' ⟨h1, h2⟩ => ⟨by rw [h1, ← ar_1 h], h2⟩
theorem arity_2 {op : Int} (w : World) (h : 70 ≤ op ∧ op ≤ 79 ∨ 81 ≤ op ∧ op ≤ 90 ∨ 106 ≤ op ∧ op ≤ 120 ∨ 124 ≤ op ∧ op ≤ 138) : Calls Tryd.prog 11 #[.int .i64 op] w fun e w' => e = .returned (.int .i64 2) ∧ w' = w :=
  (arity_any op w).mono fun e w' ⟨h1, h2⟩ => ⟨by rw [h1, ← ar_2 h], h2⟩
theorem arity_no2 {op : Int} (w : World) (h : ¬ (70 ≤ op ∧ op ≤ 79 ∨ 81 ≤ op ∧ op ≤ 90 ∨ 106 ≤ op ∧ op ≤ 120 ∨ 124 ≤ op ∧ op ≤ 138)) : Calls Tryd.prog 11 #[.int .i64 op] w fun e w' => ∃ k : Int, (k != 2) = true ∧ e = .returned (.int .i64 k) ∧ w' = w :=
  (arity_any op w).mono fun e w' ⟨h1, h2⟩ => ⟨arN op, by unfold arN; rw [if_neg h]; split <;> rfl, h1, h2⟩
theorem arity_no1 {op : Int} (w : World) (h : ¬ (op = 69 ∨ op = 80 ∨ 103 ≤ op ∧ op ≤ 105 ∨ 121 ≤ op ∧ op ≤ 123 ∨ op = 167 ∨ op = 172 ∨ op = 173 ∨ 192 ≤ op ∧ op ≤ 196)) : Calls Tryd.prog 11 #[.int .i64 op] w fun e w' => ∃ k : Int, (k != 1) = true ∧ e = .returned (.int .i64 k) ∧ w' = w :=
  (arity_any op w).mono fun e w' ⟨h1, h2⟩ => ⟨arN op, by unfold arN; rw [if_neg h]; split <;> rfl, h1, h2⟩
theorem sx_arg (x : B64) : wrap32 (x.toNat : Int) = (sx x).toInt := by
  rw [sx_toInt, toInt_cases, lo_toNat]; have := x.isLt; unfold wrap32; split <;> omega
theorem lo_arg (x : B64) : (x.toNat : Int) % 4294967296 = ((lo x).toNat : Int) := by rw [lo_toNat]; simp
theorem wrap64_toInt64 (x : B64) : wrap64 x.toInt = x.toInt := by
  have := x.isLt
  rw [toInt_cases64]; unfold wrap64; split <;> omega
theorem i64_toInt (x : B64) : IntKind.i64.wrap x.toInt = x.toInt := by
  have := x.isLt
  exact IntWalk.i64_in _ (by rw [toInt_cases64]; split <;> omega)
theorem up_toNat (x : B32) : (x.toNat : Int) = ((up x).toNat : Int) := by
  have := x.isLt
  unfold up
  rw [BitVec.toNat_setWidth]; omega
theorem bin_any (op : Int) (x y : B64) (w : World) (hb : -9223372036854775808 ≤ op ∧ op ≤ 9223372036854775807) :
    Calls Tryd.prog 14 #[.int .i64 op, .int .u64 (x.toNat : Int), .int .u64 (y.toNat : Int)] w fun e w' => e = .returned (.tuple #[.int .u64 ((binB op x y).1.toNat : Int), .int .i64 (binB op x y).2]) ∧ w' = w := by
  have ex := lo_arg x
  have ey := lo_arg y
  have sx1 := sx_arg x
  have sy1 := sx_arg y
  have sx2 := i64_toInt (sx x)
  have sy2 := i64_toInt (sx y)
  have sx3 := wrap64_toInt64 (sx x)
  have sy3 := wrap64_toInt64 (sx y)
  unfold binB
  split
  · rename_i h
    have H := Lib.hid (show 70 ≤ op ∧ op ≤ 79 ∨ 81 ≤ op ∧ op ≤ 90 ∨ 106 ≤ op ∧ op ≤ 120 ∨ 124 ≤ op ∧ op ≤ 138 by omega)
    obtain ⟨h1, h2⟩ := h
    have e1 : IntKind.i64.wrap (op - 70) = op - 70 := IntWalk.i64_in _ (by omega)
    go_enter Tryd.func14, Tryd.ntmps14
    go_wp2_with (first | (go_at_call 11; refine (arity_2 _ H.out).mono ?_; rintro e w' ⟨rfl, rfl⟩) | (go_at_call 21; (with_reducible refine (compare_any _ _ _ _).mono ?_); rintro e w' ⟨rfl, rfl⟩))
    all_goals go_ret2
    all_goals exact ⟨rfl, rfl⟩
  split
  · rename_i h
    have H := Lib.hid (show 70 ≤ op ∧ op ≤ 79 ∨ 81 ≤ op ∧ op ≤ 90 ∨ 106 ≤ op ∧ op ≤ 120 ∨ 124 ≤ op ∧ op ≤ 138 by omega)
    obtain ⟨h1, h2⟩ := h
    have e1 : IntKind.i64.wrap (op - 81) = op - 81 := IntWalk.i64_in _ (by omega)
    have x64 := wrap64_toInt x
    have y64 := wrap64_toInt y
    go_enter Tryd.func14, Tryd.ntmps14
    go_wp2_with (first | (go_at_call 11; refine (arity_2 _ H.out).mono ?_; rintro e w' ⟨rfl, rfl⟩) | (go_at_call 21; (with_reducible refine (compare_any _ _ _ _).mono ?_); rintro e w' ⟨rfl, rfl⟩))
    all_goals go_ret2
    all_goals exact ⟨rfl, rfl⟩
  split
  · rename_i h
    have H := Lib.hid (show 70 ≤ op ∧ op ≤ 79 ∨ 81 ≤ op ∧ op ≤ 90 ∨ 106 ≤ op ∧ op ≤ 120 ∨ 124 ≤ op ∧ op ≤ 138 by omega)
    obtain ⟨h1, h2⟩ := h
    have HO := Lib.hid (show 106 ≤ op ∧ op ≤ 120 from ⟨h1, h2⟩)
    have HU := Lib.hid (up_toNat (opB (op - 106) (lo x) (lo y)).1)
    go_enter Tryd.func14, Tryd.ntmps14
    go_wp2_with (first | (go_at_call 11; refine (arity_2 _ H.out).mono ?_; rintro e w' ⟨rfl, rfl⟩) | (go_at_call 22; (with_reducible refine (small_any op _ _ _ HO.out).mono ?_); rintro e w' ⟨rfl, rfl⟩))
    all_goals go_ret2
    all_goals exact ⟨ret_n64 HU.out _, rfl⟩
  split
  · rename_i h
    have H := Lib.hid (show 70 ≤ op ∧ op ≤ 79 ∨ 81 ≤ op ∧ op ≤ 90 ∨ 106 ≤ op ∧ op ≤ 120 ∨ 124 ≤ op ∧ op ≤ 138 by omega)
    obtain ⟨h1, h2⟩ := h
    have HO := Lib.hid (show 124 ≤ op ∧ op ≤ 138 from ⟨h1, h2⟩)
    go_enter Tryd.func14, Tryd.ntmps14
    go_wp2_with (first | (go_at_call 11; refine (arity_2 _ H.out).mono ?_; rintro e w' ⟨rfl, rfl⟩) | (go_at_call 23; (with_reducible refine (great_any op _ _ _ HO.out).mono ?_); rintro e w' ⟨rfl, rfl⟩))
    all_goals go_ret2
    all_goals exact ⟨rfl, rfl⟩
  · rename_i h1 h2 h3 h4
    have H := Lib.hid (show ¬ (70 ≤ op ∧ op ≤ 79 ∨ 81 ≤ op ∧ op ≤ 90 ∨ 106 ≤ op ∧ op ≤ 120 ∨ 124 ≤ op ∧ op ≤ 138) by omega)
    clear h1 h2 h3 h4
    go_enter Tryd.func14, Tryd.ntmps14
    go_wp2_with (go_at_call 11; refine (arity_no2 _ H.out).mono ?_; rintro e w' ⟨k, hk, rfl, rfl⟩)
    all_goals go_ret2
    all_goals exact ⟨rfl, rfl⟩

end Go.Proofs.YtllffbdcpilioaaDoor
