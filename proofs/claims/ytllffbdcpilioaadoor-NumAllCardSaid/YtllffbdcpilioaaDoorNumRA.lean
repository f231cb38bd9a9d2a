/-
  plaitref03.arith: its contracts by width and number.
-/
import Derived.Test.YtllffbdcpilioaaDoorNumRF
import Derived.Test.YtllffbdcpilioaaDoorNumOps
set_option linter.unusedSimpArgs false
set_option linter.unusedVariables false
namespace Go.Proofs.YtllffbdcpilioaaDoor
open Go.RowKit Nm

theorem sg64_eq (x : B64) : sg64 x.toNat = x.toNat := by
  have := x.isLt
  unfold sg64
  rw [Nat.mod_eq_of_lt (by omega)]; split <;> rfl
theorem sg32_eq (x : B64) : sg32 x.toNat = (sx x).toNat := by rw [sx_toNat]; rfl
theorem cut64_eq (x : B64) : x.toNat % 18446744073709551616 = x.toNat := Nat.mod_eq_of_lt x.isLt
theorem cut32_eq (x : B64) : x.toNat % 4294967296 = (up (lo x)).toNat := by
  have h := (lo x).isLt
  unfold up
  rw [BitVec.toNat_setWidth, Nat.mod_eq_of_lt (Nat.lt_of_lt_of_le h (by decide)), lo_toNat]
theorem absB_toNat (x : B64) : absN x.toNat = (absB x).toNat := by
  have := x.isLt
  unfold absN absB
  rw [BitVec.msb_eq_decide]
  by_cases h : x.toNat < 9223372036854775808
  · rw [if_pos h, if_neg (by simpa using h)]
  · rw [if_neg h, if_pos (by simpa using h), BitVec.toNat_neg]; omega
theorem w_add (a b : B64) : IntKind.u64.wrap ((a.toNat : Int) + (b.toNat : Int)) = ((a + b).toNat : Int) := by rw [IntKind.wrap_u64, BitVec.toNat_add]; omega
theorem w_sub (a b : B64) : IntKind.u64.wrap ((a.toNat : Int) - (b.toNat : Int)) = ((a - b).toNat : Int) := by
  have := a.isLt; have := b.isLt
  rw [IntKind.wrap_u64, BitVec.toNat_sub]; omega
theorem w_mul (a b : B64) : IntKind.u64.wrap ((a.toNat : Int) * (b.toNat : Int)) = ((a * b).toNat : Int) := by rw [IntKind.wrap_u64, BitVec.toNat_mul, ← Int.natCast_mul]; simp
theorem w_neg (a : B64) : IntKind.u64.wrap (-(a.toNat : Int)) = ((-a).toNat : Int) := by
  have := a.isLt
  rw [IntKind.wrap_u64, BitVec.toNat_neg]; omega
theorem w_and (a b : B64) : bits .and .u64 (a.toNat : Int) (b.toNat : Int) = ((a &&& b).toNat : Int) := by rw [u64_and_nat _ _ a.isLt b.isLt, BitVec.toNat_and]
theorem w_or (a b : B64) : bits .or .u64 (a.toNat : Int) (b.toNat : Int) = ((a ||| b).toNat : Int) := by rw [u64_or_nat _ _ a.isLt b.isLt, BitVec.toNat_or]
theorem w_xor (a b : B64) : bits .xor .u64 (a.toNat : Int) (b.toNat : Int) = ((a ^^^ b).toNat : Int) := by rw [u64_xor_nat _ _ a.isLt b.isLt, BitVec.toNat_xor]
theorem w_shl (a : B64) (n : Nat) : IntKind.u64.wrap ((a.toNat : Int) * 2 ^ n) = ((a <<< n).toNat : Int) := by rw [IntKind.wrap_u64]; exact n_shl a n
theorem w_shr (a : B64) (n : Nat) : (a.toNat : Int) / 2 ^ n = ((a >>> n).toNat : Int) := n_shr a n
/-- What the reference's arith gives. -/
def fillB (s : B64) (n : Nat) : B64 := BitVec.ofNat 64 (fillN (s.toNat / 9223372036854775808) n)
def arB (w : Nat) (k : Int) (ux uy sx sy : B64) : B64 :=
  if k = 0 then ux + uy else if k = 1 then ux - uy else if k = 2 then ux * uy else if k = 3 then sx.sdiv sy else if k = 4 then ux / uy
  else if k = 5 then sx - sx.sdiv sy * sy else if k = 6 then ux - ux / uy * uy else if k = 7 then ux &&& uy else if k = 8 then ux ||| uy else if k = 9 then ux ^^^ uy
  else if k = 10 then ux <<< (uy.toNat % w) else if k = 11 then sx >>> (uy.toNat % w) ||| fillB sx (uy.toNat % w) else if k = 12 then ux >>> (uy.toNat % w)
  else if k = 13 then ux <<< (uy.toNat % w) ||| ux >>> (w - uy.toNat % w) else ux >>> (uy.toNat % w) ||| ux <<< (w - uy.toNat % w)
theorem fill_lt (s n : Nat) : fillN s n < 18446744073709551616 := by
  unfold fillN
  split
  · decide
  · rename_i h
    have : 0 < 2 ^ (64 - n) := Nat.two_pow_pos _
    omega
set_option maxHeartbeats 1000000 in
theorem rar_32_0 (x y : B64) (w : World) : Calls Tryd.prog 37 #[.int .i64 0, .int .u64 (x.toNat : Int), .int .u64 (y.toNat : Int), .int .i64 32] w fun e w' => e = .returned (.int .u64 ((arB 32 0 (up (lo x)) (up (lo y)) (sx x) (sx y)).toNat : Int)) ∧ w' = w := by
  obtain ⟨Z, hZ⟩ : ∃ Z : Nat, Z = (arB 32 0 (up (lo x)) (up (lo y)) (sx x) (sx y)).toNat := ⟨_, rfl⟩
  have c1 := fun W => rcut_32 x.toNat W x.isLt
  have c2 := fun W => rcut_32 y.toNat W y.isLt
  have s1 := fun W => rsign_32 x.toNat W x.isLt
  have s2 := fun W => rsign_32 y.toNat W y.isLt
  rw [cut32_eq] at c1 c2
  rw [sg32_eq] at s1 s2
  rw [← hZ]
  obtain ⟨U, hU⟩ : ∃ U : B64, U = (up (lo x)) := ⟨_, rfl⟩
  obtain ⟨V, hV⟩ : ∃ U : B64, U = (up (lo y)) := ⟨_, rfl⟩
  obtain ⟨A, hA⟩ : ∃ U : B64, U = (sx x) := ⟨_, rfl⟩
  obtain ⟨B, hB⟩ : ∃ U : B64, U = (sx y) := ⟨_, rfl⟩
  rw [← hU] at c1
  rw [← hV] at c2
  rw [← hA] at s1
  rw [← hB] at s2
  rw [← hU, ← hV, ← hA, ← hB] at hZ
  have hN : (V.toNat : Int) % 32 = ((V.toNat % 32 : Nat) : Int) := by omega
  obtain ⟨N, hN2⟩ : ∃ N, N = V.toNat % 32 := ⟨_, rfl⟩
  rw [← hN2] at hN
  have hNl : N < 32 := by omega
  have hZ2 : Z = (U + V).toNat := hZ
  clear hZ
  have f1 := w_add U V
  rw [← hZ2] at f1
  have C1 := Lib.hid c1
  have C2 := Lib.hid c2
  have S1 := Lib.hid s1
  have S2 := Lib.hid s2
  clear c1 c2 s1 s2 hNl hU hV hA hB hN2
  clear hZ2
  go_enter Tryd.func37, Tryd.ntmps37
  go_wp2_with (first | (go_at_call 33; (with_reducible refine (C1.out _).mono ?_); rintro e u ⟨rfl, rfl⟩) | (go_at_call 33; (with_reducible refine (C2.out _).mono ?_); rintro e u ⟨rfl, rfl⟩) | (go_at_call 35; (with_reducible refine (S1.out _).mono ?_); rintro e u ⟨rfl, rfl⟩) | (go_at_call 35; (with_reducible refine (S2.out _).mono ?_); rintro e u ⟨rfl, rfl⟩))
  go_ret
  exact ⟨rfl, rfl⟩
set_option maxHeartbeats 1000000 in
theorem rar_32_1 (x y : B64) (w : World) : Calls Tryd.prog 37 #[.int .i64 1, .int .u64 (x.toNat : Int), .int .u64 (y.toNat : Int), .int .i64 32] w fun e w' => e = .returned (.int .u64 ((arB 32 1 (up (lo x)) (up (lo y)) (sx x) (sx y)).toNat : Int)) ∧ w' = w := by
  obtain ⟨Z, hZ⟩ : ∃ Z : Nat, Z = (arB 32 1 (up (lo x)) (up (lo y)) (sx x) (sx y)).toNat := ⟨_, rfl⟩
  have c1 := fun W => rcut_32 x.toNat W x.isLt
  have c2 := fun W => rcut_32 y.toNat W y.isLt
  have s1 := fun W => rsign_32 x.toNat W x.isLt
  have s2 := fun W => rsign_32 y.toNat W y.isLt
  rw [cut32_eq] at c1 c2
  rw [sg32_eq] at s1 s2
  rw [← hZ]
  obtain ⟨U, hU⟩ : ∃ U : B64, U = (up (lo x)) := ⟨_, rfl⟩
  obtain ⟨V, hV⟩ : ∃ U : B64, U = (up (lo y)) := ⟨_, rfl⟩
  obtain ⟨A, hA⟩ : ∃ U : B64, U = (sx x) := ⟨_, rfl⟩
  obtain ⟨B, hB⟩ : ∃ U : B64, U = (sx y) := ⟨_, rfl⟩
  rw [← hU] at c1
  rw [← hV] at c2
  rw [← hA] at s1
  rw [← hB] at s2
  rw [← hU, ← hV, ← hA, ← hB] at hZ
  have hN : (V.toNat : Int) % 32 = ((V.toNat % 32 : Nat) : Int) := by omega
  obtain ⟨N, hN2⟩ : ∃ N, N = V.toNat % 32 := ⟨_, rfl⟩
  rw [← hN2] at hN
  have hNl : N < 32 := by omega
  have hZ2 : Z = (U - V).toNat := hZ
  clear hZ
  have f1 := w_sub U V
  rw [← hZ2] at f1
  have C1 := Lib.hid c1
  have C2 := Lib.hid c2
  have S1 := Lib.hid s1
  have S2 := Lib.hid s2
  clear c1 c2 s1 s2 hNl hU hV hA hB hN2
  clear hZ2
  go_enter Tryd.func37, Tryd.ntmps37
  go_wp2_with (first | (go_at_call 33; (with_reducible refine (C1.out _).mono ?_); rintro e u ⟨rfl, rfl⟩) | (go_at_call 33; (with_reducible refine (C2.out _).mono ?_); rintro e u ⟨rfl, rfl⟩) | (go_at_call 35; (with_reducible refine (S1.out _).mono ?_); rintro e u ⟨rfl, rfl⟩) | (go_at_call 35; (with_reducible refine (S2.out _).mono ?_); rintro e u ⟨rfl, rfl⟩))
  go_ret
  exact ⟨rfl, rfl⟩
set_option maxHeartbeats 1000000 in
theorem rar_32_2 (x y : B64) (w : World) : Calls Tryd.prog 37 #[.int .i64 2, .int .u64 (x.toNat : Int), .int .u64 (y.toNat : Int), .int .i64 32] w fun e w' => e = .returned (.int .u64 ((arB 32 2 (up (lo x)) (up (lo y)) (sx x) (sx y)).toNat : Int)) ∧ w' = w := by
  obtain ⟨Z, hZ⟩ : ∃ Z : Nat, Z = (arB 32 2 (up (lo x)) (up (lo y)) (sx x) (sx y)).toNat := ⟨_, rfl⟩
  have c1 := fun W => rcut_32 x.toNat W x.isLt
  have c2 := fun W => rcut_32 y.toNat W y.isLt
  have s1 := fun W => rsign_32 x.toNat W x.isLt
  have s2 := fun W => rsign_32 y.toNat W y.isLt
  rw [cut32_eq] at c1 c2
  rw [sg32_eq] at s1 s2
  rw [← hZ]
  obtain ⟨U, hU⟩ : ∃ U : B64, U = (up (lo x)) := ⟨_, rfl⟩
  obtain ⟨V, hV⟩ : ∃ U : B64, U = (up (lo y)) := ⟨_, rfl⟩
  obtain ⟨A, hA⟩ : ∃ U : B64, U = (sx x) := ⟨_, rfl⟩
  obtain ⟨B, hB⟩ : ∃ U : B64, U = (sx y) := ⟨_, rfl⟩
  rw [← hU] at c1
  rw [← hV] at c2
  rw [← hA] at s1
  rw [← hB] at s2
  rw [← hU, ← hV, ← hA, ← hB] at hZ
  have hN : (V.toNat : Int) % 32 = ((V.toNat % 32 : Nat) : Int) := by omega
  obtain ⟨N, hN2⟩ : ∃ N, N = V.toNat % 32 := ⟨_, rfl⟩
  rw [← hN2] at hN
  have hNl : N < 32 := by omega
  have hZ2 : Z = (U * V).toNat := hZ
  clear hZ
  have f1 := w_mul U V
  rw [← hZ2] at f1
  have C1 := Lib.hid c1
  have C2 := Lib.hid c2
  have S1 := Lib.hid s1
  have S2 := Lib.hid s2
  clear c1 c2 s1 s2 hNl hU hV hA hB hN2
  clear hZ2
  go_enter Tryd.func37, Tryd.ntmps37
  go_wp2_with (first | (go_at_call 33; (with_reducible refine (C1.out _).mono ?_); rintro e u ⟨rfl, rfl⟩) | (go_at_call 33; (with_reducible refine (C2.out _).mono ?_); rintro e u ⟨rfl, rfl⟩) | (go_at_call 35; (with_reducible refine (S1.out _).mono ?_); rintro e u ⟨rfl, rfl⟩) | (go_at_call 35; (with_reducible refine (S2.out _).mono ?_); rintro e u ⟨rfl, rfl⟩))
  go_ret
  exact ⟨rfl, rfl⟩
set_option maxHeartbeats 1000000 in
theorem rar_32_3 (x y : B64) (w : World) (hy : (sx y) ≠ 0) : Calls Tryd.prog 37 #[.int .i64 3, .int .u64 (x.toNat : Int), .int .u64 (y.toNat : Int), .int .i64 32] w fun e w' => e = .returned (.int .u64 ((arB 32 3 (up (lo x)) (up (lo y)) (sx x) (sx y)).toNat : Int)) ∧ w' = w := by
  obtain ⟨Z, hZ⟩ : ∃ Z : Nat, Z = (arB 32 3 (up (lo x)) (up (lo y)) (sx x) (sx y)).toNat := ⟨_, rfl⟩
  have c1 := fun W => rcut_32 x.toNat W x.isLt
  have c2 := fun W => rcut_32 y.toNat W y.isLt
  have s1 := fun W => rsign_32 x.toNat W x.isLt
  have s2 := fun W => rsign_32 y.toNat W y.isLt
  rw [cut32_eq] at c1 c2
  rw [sg32_eq] at s1 s2
  rw [← hZ]
  obtain ⟨U, hU⟩ : ∃ U : B64, U = (up (lo x)) := ⟨_, rfl⟩
  obtain ⟨V, hV⟩ : ∃ U : B64, U = (up (lo y)) := ⟨_, rfl⟩
  obtain ⟨A, hA⟩ : ∃ U : B64, U = (sx x) := ⟨_, rfl⟩
  obtain ⟨B, hB⟩ : ∃ U : B64, U = (sx y) := ⟨_, rfl⟩
  rw [← hU] at c1
  rw [← hV] at c2
  rw [← hA] at s1
  rw [← hB] at s2
  rw [← hU, ← hV, ← hA, ← hB] at hZ
  rw [← hB] at hy
  have hN : (V.toNat : Int) % 32 = ((V.toNat % 32 : Nat) : Int) := by omega
  obtain ⟨N, hN2⟩ : ∃ N, N = V.toNat % 32 := ⟨_, rfl⟩
  rw [← hN2] at hN
  have hNl : N < 32 := by omega
  have hZ2 : Z = (A.sdiv B).toNat := hZ
  clear hZ
  have z1 := fun W => rsize_k A.toNat W A.isLt
  have z2 := fun W => rsize_k B.toNat W B.isLt
  rw [absB_toNat] at z1 z2
  have hb0 : (absB B).toNat ≠ 0 := fun e => hy (by have e2 : absB B = 0 := BitVec.eq_of_toNat_eq (by simpa using e); unfold absB at e2; split at e2; (exact BitVec.neg_eq_zero_iff.1 e2); exact e2)
  have dv := fun W => rdivide_k (absB A).toNat (absB B).toNat W (absB A).isLt (by omega) (absB B).isLt
  rw [← BitVec.toNat_udiv] at dv
  have hsd := sdiv_abs A B
  have n1 := w_neg (absB A / absB B)
  have m1 := w_mul (A.sdiv B) B
  have m2 := w_sub A (A.sdiv B * B)
  rw [hsd] at hZ2
  generalize absB A = PA at *
  generalize absB B = PB at *
  have Z1 := Lib.hid z1
  have Z2 := Lib.hid z2
  have DV := Lib.hid dv
  clear z1 z2 dv hb0 hy
  have C1 := Lib.hid c1
  have C2 := Lib.hid c2
  have S1 := Lib.hid s1
  have S2 := Lib.hid s2
  clear c1 c2 s1 s2 hNl hU hV hA hB hN2
  have ha := A.isLt
  have hb := B.isLt
  have hma : A.msb = decide (9223372036854775808 ≤ A.toNat) := by rw [BitVec.msb_eq_decide]
  have hmb : B.msb = decide (9223372036854775808 ≤ B.toNat) := by rw [BitVec.msb_eq_decide]
  by_cases ka : 9223372036854775808 ≤ A.toNat <;> by_cases kb : 9223372036854775808 ≤ B.toNat
  · rw [decide_eq_true ka] at hma
    rw [decide_eq_true kb] at hmb
    rw [hma, hmb, if_pos rfl] at hZ2
    have t1 : (A.toNat : Int) / 9223372036854775808 = 1 := by omega
    have t2 : (B.toNat : Int) / 9223372036854775808 = 1 := by omega
    clear hsd m1 m2
    generalize PA / PB = D at *
    subst hZ2
    clear ha hb hma hmb ka kb
    go_enter Tryd.func37, Tryd.ntmps37
    go_wp2_with (first | (go_at_call 33; (with_reducible refine (C1.out _).mono ?_); rintro e u ⟨rfl, rfl⟩) | (go_at_call 33; (with_reducible refine (C2.out _).mono ?_); rintro e u ⟨rfl, rfl⟩) | (go_at_call 35; (with_reducible refine (S1.out _).mono ?_); rintro e u ⟨rfl, rfl⟩) | (go_at_call 35; (with_reducible refine (S2.out _).mono ?_); rintro e u ⟨rfl, rfl⟩) | (go_at_call 44; (with_reducible refine (Z1.out _).mono ?_); rintro e u ⟨rfl, rfl⟩) | (go_at_call 44; (with_reducible refine (Z2.out _).mono ?_); rintro e u ⟨rfl, rfl⟩) | (go_at_call 43; (with_reducible refine (DV.out _).mono ?_); rintro e u ⟨rfl, rfl⟩))
    go_ret
    exact ⟨rfl, rfl⟩
  · rw [decide_eq_true ka] at hma
    rw [decide_eq_false kb] at hmb
    rw [hma, hmb, if_neg (by decide)] at hZ2
    have t1 : (A.toNat : Int) / 9223372036854775808 = 1 := by omega
    have t2 : (B.toNat : Int) / 9223372036854775808 = 0 := by omega
    rw [← hZ2] at n1
    clear hsd m1 m2 hZ2
    generalize PA / PB = D at *
    clear ha hb hma hmb ka kb
    go_enter Tryd.func37, Tryd.ntmps37
    go_wp2_with (first | (go_at_call 33; (with_reducible refine (C1.out _).mono ?_); rintro e u ⟨rfl, rfl⟩) | (go_at_call 33; (with_reducible refine (C2.out _).mono ?_); rintro e u ⟨rfl, rfl⟩) | (go_at_call 35; (with_reducible refine (S1.out _).mono ?_); rintro e u ⟨rfl, rfl⟩) | (go_at_call 35; (with_reducible refine (S2.out _).mono ?_); rintro e u ⟨rfl, rfl⟩) | (go_at_call 44; (with_reducible refine (Z1.out _).mono ?_); rintro e u ⟨rfl, rfl⟩) | (go_at_call 44; (with_reducible refine (Z2.out _).mono ?_); rintro e u ⟨rfl, rfl⟩) | (go_at_call 43; (with_reducible refine (DV.out _).mono ?_); rintro e u ⟨rfl, rfl⟩))
    go_ret
    exact ⟨rfl, rfl⟩
  · rw [decide_eq_false ka] at hma
    rw [decide_eq_true kb] at hmb
    rw [hma, hmb, if_neg (by decide)] at hZ2
    have t1 : (A.toNat : Int) / 9223372036854775808 = 0 := by omega
    have t2 : (B.toNat : Int) / 9223372036854775808 = 1 := by omega
    rw [← hZ2] at n1
    clear hsd m1 m2 hZ2
    generalize PA / PB = D at *
    clear ha hb hma hmb ka kb
    go_enter Tryd.func37, Tryd.ntmps37
    go_wp2_with (first | (go_at_call 33; (with_reducible refine (C1.out _).mono ?_); rintro e u ⟨rfl, rfl⟩) | (go_at_call 33; (with_reducible refine (C2.out _).mono ?_); rintro e u ⟨rfl, rfl⟩) | (go_at_call 35; (with_reducible refine (S1.out _).mono ?_); rintro e u ⟨rfl, rfl⟩) | (go_at_call 35; (with_reducible refine (S2.out _).mono ?_); rintro e u ⟨rfl, rfl⟩) | (go_at_call 44; (with_reducible refine (Z1.out _).mono ?_); rintro e u ⟨rfl, rfl⟩) | (go_at_call 44; (with_reducible refine (Z2.out _).mono ?_); rintro e u ⟨rfl, rfl⟩) | (go_at_call 43; (with_reducible refine (DV.out _).mono ?_); rintro e u ⟨rfl, rfl⟩))
    go_ret
    exact ⟨rfl, rfl⟩
  · rw [decide_eq_false ka] at hma
    rw [decide_eq_false kb] at hmb
    rw [hma, hmb, if_pos rfl] at hZ2
    have t1 : (A.toNat : Int) / 9223372036854775808 = 0 := by omega
    have t2 : (B.toNat : Int) / 9223372036854775808 = 0 := by omega
    clear hsd m1 m2
    generalize PA / PB = D at *
    subst hZ2
    clear ha hb hma hmb ka kb
    go_enter Tryd.func37, Tryd.ntmps37
    go_wp2_with (first | (go_at_call 33; (with_reducible refine (C1.out _).mono ?_); rintro e u ⟨rfl, rfl⟩) | (go_at_call 33; (with_reducible refine (C2.out _).mono ?_); rintro e u ⟨rfl, rfl⟩) | (go_at_call 35; (with_reducible refine (S1.out _).mono ?_); rintro e u ⟨rfl, rfl⟩) | (go_at_call 35; (with_reducible refine (S2.out _).mono ?_); rintro e u ⟨rfl, rfl⟩) | (go_at_call 44; (with_reducible refine (Z1.out _).mono ?_); rintro e u ⟨rfl, rfl⟩) | (go_at_call 44; (with_reducible refine (Z2.out _).mono ?_); rintro e u ⟨rfl, rfl⟩) | (go_at_call 43; (with_reducible refine (DV.out _).mono ?_); rintro e u ⟨rfl, rfl⟩))
    go_ret
    exact ⟨rfl, rfl⟩
set_option maxHeartbeats 1000000 in
theorem rar_32_4 (x y : B64) (w : World) (hy : (up (lo y)) ≠ 0) : Calls Tryd.prog 37 #[.int .i64 4, .int .u64 (x.toNat : Int), .int .u64 (y.toNat : Int), .int .i64 32] w fun e w' => e = .returned (.int .u64 ((arB 32 4 (up (lo x)) (up (lo y)) (sx x) (sx y)).toNat : Int)) ∧ w' = w := by
  obtain ⟨Z, hZ⟩ : ∃ Z : Nat, Z = (arB 32 4 (up (lo x)) (up (lo y)) (sx x) (sx y)).toNat := ⟨_, rfl⟩
  have c1 := fun W => rcut_32 x.toNat W x.isLt
  have c2 := fun W => rcut_32 y.toNat W y.isLt
  have s1 := fun W => rsign_32 x.toNat W x.isLt
  have s2 := fun W => rsign_32 y.toNat W y.isLt
  rw [cut32_eq] at c1 c2
  rw [sg32_eq] at s1 s2
  rw [← hZ]
  obtain ⟨U, hU⟩ : ∃ U : B64, U = (up (lo x)) := ⟨_, rfl⟩
  obtain ⟨V, hV⟩ : ∃ U : B64, U = (up (lo y)) := ⟨_, rfl⟩
  obtain ⟨A, hA⟩ : ∃ U : B64, U = (sx x) := ⟨_, rfl⟩
  obtain ⟨B, hB⟩ : ∃ U : B64, U = (sx y) := ⟨_, rfl⟩
  rw [← hU] at c1
  rw [← hV] at c2
  rw [← hA] at s1
  rw [← hB] at s2
  rw [← hU, ← hV, ← hA, ← hB] at hZ
  rw [← hV] at hy
  have hN : (V.toNat : Int) % 32 = ((V.toNat % 32 : Nat) : Int) := by omega
  obtain ⟨N, hN2⟩ : ∃ N, N = V.toNat % 32 := ⟨_, rfl⟩
  rw [← hN2] at hN
  have hNl : N < 32 := by omega
  have hZ2 : Z = (U / V).toNat := hZ
  clear hZ
  have dv := fun W => rdivide_k U.toNat V.toNat W U.isLt (by have : V.toNat ≠ 0 := fun e => hy (BitVec.eq_of_toNat_eq (by simpa using e)); omega) V.isLt
  rw [← BitVec.toNat_udiv] at dv
  rw [show (U / V).toNat = Z from hZ2.symm] at dv
  have DV := Lib.hid dv
  clear dv hy
  have C1 := Lib.hid c1
  have C2 := Lib.hid c2
  have S1 := Lib.hid s1
  have S2 := Lib.hid s2
  clear c1 c2 s1 s2 hNl hU hV hA hB hN2
  clear hZ2
  go_enter Tryd.func37, Tryd.ntmps37
  go_wp2_with (first | (go_at_call 33; (with_reducible refine (C1.out _).mono ?_); rintro e u ⟨rfl, rfl⟩) | (go_at_call 33; (with_reducible refine (C2.out _).mono ?_); rintro e u ⟨rfl, rfl⟩) | (go_at_call 35; (with_reducible refine (S1.out _).mono ?_); rintro e u ⟨rfl, rfl⟩) | (go_at_call 35; (with_reducible refine (S2.out _).mono ?_); rintro e u ⟨rfl, rfl⟩) | (go_at_call 43; (with_reducible refine (DV.out _).mono ?_); rintro e u ⟨rfl, rfl⟩))
  go_ret
  exact ⟨rfl, rfl⟩
set_option maxHeartbeats 1000000 in
theorem rar_32_5 (x y : B64) (w : World) (hy : (sx y) ≠ 0) : Calls Tryd.prog 37 #[.int .i64 5, .int .u64 (x.toNat : Int), .int .u64 (y.toNat : Int), .int .i64 32] w fun e w' => e = .returned (.int .u64 ((arB 32 5 (up (lo x)) (up (lo y)) (sx x) (sx y)).toNat : Int)) ∧ w' = w := by
  obtain ⟨Z, hZ⟩ : ∃ Z : Nat, Z = (arB 32 5 (up (lo x)) (up (lo y)) (sx x) (sx y)).toNat := ⟨_, rfl⟩
  have c1 := fun W => rcut_32 x.toNat W x.isLt
  have c2 := fun W => rcut_32 y.toNat W y.isLt
  have s1 := fun W => rsign_32 x.toNat W x.isLt
  have s2 := fun W => rsign_32 y.toNat W y.isLt
  rw [cut32_eq] at c1 c2
  rw [sg32_eq] at s1 s2
  rw [← hZ]
  obtain ⟨U, hU⟩ : ∃ U : B64, U = (up (lo x)) := ⟨_, rfl⟩
  obtain ⟨V, hV⟩ : ∃ U : B64, U = (up (lo y)) := ⟨_, rfl⟩
  obtain ⟨A, hA⟩ : ∃ U : B64, U = (sx x) := ⟨_, rfl⟩
  obtain ⟨B, hB⟩ : ∃ U : B64, U = (sx y) := ⟨_, rfl⟩
  rw [← hU] at c1
  rw [← hV] at c2
  rw [← hA] at s1
  rw [← hB] at s2
  rw [← hU, ← hV, ← hA, ← hB] at hZ
  rw [← hB] at hy
  have hN : (V.toNat : Int) % 32 = ((V.toNat % 32 : Nat) : Int) := by omega
  obtain ⟨N, hN2⟩ : ∃ N, N = V.toNat % 32 := ⟨_, rfl⟩
  rw [← hN2] at hN
  have hNl : N < 32 := by omega
  have hZ2 : Z = (A - A.sdiv B * B).toNat := hZ
  clear hZ
  have z1 := fun W => rsize_k A.toNat W A.isLt
  have z2 := fun W => rsize_k B.toNat W B.isLt
  rw [absB_toNat] at z1 z2
  have hb0 : (absB B).toNat ≠ 0 := fun e => hy (by have e2 : absB B = 0 := BitVec.eq_of_toNat_eq (by simpa using e); unfold absB at e2; split at e2; (exact BitVec.neg_eq_zero_iff.1 e2); exact e2)
  have dv := fun W => rdivide_k (absB A).toNat (absB B).toNat W (absB A).isLt (by omega) (absB B).isLt
  rw [← BitVec.toNat_udiv] at dv
  have hsd := sdiv_abs A B
  have n1 := w_neg (absB A / absB B)
  have m1 := w_mul (A.sdiv B) B
  have m2 := w_sub A (A.sdiv B * B)
  rw [← hZ2] at m2
  generalize absB A = PA at *
  generalize absB B = PB at *
  have Z1 := Lib.hid z1
  have Z2 := Lib.hid z2
  have DV := Lib.hid dv
  clear z1 z2 dv hb0 hy
  have C1 := Lib.hid c1
  have C2 := Lib.hid c2
  have S1 := Lib.hid s1
  have S2 := Lib.hid s2
  clear c1 c2 s1 s2 hNl hU hV hA hB hN2
  have ha := A.isLt
  have hb := B.isLt
  have hma : A.msb = decide (9223372036854775808 ≤ A.toNat) := by rw [BitVec.msb_eq_decide]
  have hmb : B.msb = decide (9223372036854775808 ≤ B.toNat) := by rw [BitVec.msb_eq_decide]
  by_cases ka : 9223372036854775808 ≤ A.toNat <;> by_cases kb : 9223372036854775808 ≤ B.toNat
  · rw [decide_eq_true ka] at hma
    rw [decide_eq_true kb] at hmb
    rw [hma, hmb, if_pos rfl] at hsd
    have t1 : (A.toNat : Int) / 9223372036854775808 = 1 := by omega
    have t2 : (B.toNat : Int) / 9223372036854775808 = 1 := by omega
    rw [hsd] at m1 m2
    clear hsd hZ2
    generalize PA / PB = D at *
    generalize D * B = E at *
    clear ha hb hma hmb ka kb
    go_enter Tryd.func37, Tryd.ntmps37
    go_wp2_with (first | (go_at_call 33; (with_reducible refine (C1.out _).mono ?_); rintro e u ⟨rfl, rfl⟩) | (go_at_call 33; (with_reducible refine (C2.out _).mono ?_); rintro e u ⟨rfl, rfl⟩) | (go_at_call 35; (with_reducible refine (S1.out _).mono ?_); rintro e u ⟨rfl, rfl⟩) | (go_at_call 35; (with_reducible refine (S2.out _).mono ?_); rintro e u ⟨rfl, rfl⟩) | (go_at_call 44; (with_reducible refine (Z1.out _).mono ?_); rintro e u ⟨rfl, rfl⟩) | (go_at_call 44; (with_reducible refine (Z2.out _).mono ?_); rintro e u ⟨rfl, rfl⟩) | (go_at_call 43; (with_reducible refine (DV.out _).mono ?_); rintro e u ⟨rfl, rfl⟩))
    go_ret
    exact ⟨rfl, rfl⟩
  · rw [decide_eq_true ka] at hma
    rw [decide_eq_false kb] at hmb
    rw [hma, hmb, if_neg (by decide)] at hsd
    have t1 : (A.toNat : Int) / 9223372036854775808 = 1 := by omega
    have t2 : (B.toNat : Int) / 9223372036854775808 = 0 := by omega
    rw [hsd] at m1 m2
    clear hsd hZ2
    generalize PA / PB = D at *
    generalize -D * B = E at *
    generalize -D = D2 at *
    clear ha hb hma hmb ka kb
    go_enter Tryd.func37, Tryd.ntmps37
    go_wp2_with (first | (go_at_call 33; (with_reducible refine (C1.out _).mono ?_); rintro e u ⟨rfl, rfl⟩) | (go_at_call 33; (with_reducible refine (C2.out _).mono ?_); rintro e u ⟨rfl, rfl⟩) | (go_at_call 35; (with_reducible refine (S1.out _).mono ?_); rintro e u ⟨rfl, rfl⟩) | (go_at_call 35; (with_reducible refine (S2.out _).mono ?_); rintro e u ⟨rfl, rfl⟩) | (go_at_call 44; (with_reducible refine (Z1.out _).mono ?_); rintro e u ⟨rfl, rfl⟩) | (go_at_call 44; (with_reducible refine (Z2.out _).mono ?_); rintro e u ⟨rfl, rfl⟩) | (go_at_call 43; (with_reducible refine (DV.out _).mono ?_); rintro e u ⟨rfl, rfl⟩))
    go_ret
    exact ⟨rfl, rfl⟩
  · rw [decide_eq_false ka] at hma
    rw [decide_eq_true kb] at hmb
    rw [hma, hmb, if_neg (by decide)] at hsd
    have t1 : (A.toNat : Int) / 9223372036854775808 = 0 := by omega
    have t2 : (B.toNat : Int) / 9223372036854775808 = 1 := by omega
    rw [hsd] at m1 m2
    clear hsd hZ2
    generalize PA / PB = D at *
    generalize -D * B = E at *
    generalize -D = D2 at *
    clear ha hb hma hmb ka kb
    go_enter Tryd.func37, Tryd.ntmps37
    go_wp2_with (first | (go_at_call 33; (with_reducible refine (C1.out _).mono ?_); rintro e u ⟨rfl, rfl⟩) | (go_at_call 33; (with_reducible refine (C2.out _).mono ?_); rintro e u ⟨rfl, rfl⟩) | (go_at_call 35; (with_reducible refine (S1.out _).mono ?_); rintro e u ⟨rfl, rfl⟩) | (go_at_call 35; (with_reducible refine (S2.out _).mono ?_); rintro e u ⟨rfl, rfl⟩) | (go_at_call 44; (with_reducible refine (Z1.out _).mono ?_); rintro e u ⟨rfl, rfl⟩) | (go_at_call 44; (with_reducible refine (Z2.out _).mono ?_); rintro e u ⟨rfl, rfl⟩) | (go_at_call 43; (with_reducible refine (DV.out _).mono ?_); rintro e u ⟨rfl, rfl⟩))
    go_ret
    exact ⟨rfl, rfl⟩
  · rw [decide_eq_false ka] at hma
    rw [decide_eq_false kb] at hmb
    rw [hma, hmb, if_pos rfl] at hsd
    have t1 : (A.toNat : Int) / 9223372036854775808 = 0 := by omega
    have t2 : (B.toNat : Int) / 9223372036854775808 = 0 := by omega
    rw [hsd] at m1 m2
    clear hsd hZ2
    generalize PA / PB = D at *
    generalize D * B = E at *
    clear ha hb hma hmb ka kb
    go_enter Tryd.func37, Tryd.ntmps37
    go_wp2_with (first | (go_at_call 33; (with_reducible refine (C1.out _).mono ?_); rintro e u ⟨rfl, rfl⟩) | (go_at_call 33; (with_reducible refine (C2.out _).mono ?_); rintro e u ⟨rfl, rfl⟩) | (go_at_call 35; (with_reducible refine (S1.out _).mono ?_); rintro e u ⟨rfl, rfl⟩) | (go_at_call 35; (with_reducible refine (S2.out _).mono ?_); rintro e u ⟨rfl, rfl⟩) | (go_at_call 44; (with_reducible refine (Z1.out _).mono ?_); rintro e u ⟨rfl, rfl⟩) | (go_at_call 44; (with_reducible refine (Z2.out _).mono ?_); rintro e u ⟨rfl, rfl⟩) | (go_at_call 43; (with_reducible refine (DV.out _).mono ?_); rintro e u ⟨rfl, rfl⟩))
    go_ret
    exact ⟨rfl, rfl⟩
set_option maxHeartbeats 1000000 in
theorem rar_32_6 (x y : B64) (w : World) (hy : (up (lo y)) ≠ 0) : Calls Tryd.prog 37 #[.int .i64 6, .int .u64 (x.toNat : Int), .int .u64 (y.toNat : Int), .int .i64 32] w fun e w' => e = .returned (.int .u64 ((arB 32 6 (up (lo x)) (up (lo y)) (sx x) (sx y)).toNat : Int)) ∧ w' = w := by
  obtain ⟨Z, hZ⟩ : ∃ Z : Nat, Z = (arB 32 6 (up (lo x)) (up (lo y)) (sx x) (sx y)).toNat := ⟨_, rfl⟩
  have c1 := fun W => rcut_32 x.toNat W x.isLt
  have c2 := fun W => rcut_32 y.toNat W y.isLt
  have s1 := fun W => rsign_32 x.toNat W x.isLt
  have s2 := fun W => rsign_32 y.toNat W y.isLt
  rw [cut32_eq] at c1 c2
  rw [sg32_eq] at s1 s2
  rw [← hZ]
  obtain ⟨U, hU⟩ : ∃ U : B64, U = (up (lo x)) := ⟨_, rfl⟩
  obtain ⟨V, hV⟩ : ∃ U : B64, U = (up (lo y)) := ⟨_, rfl⟩
  obtain ⟨A, hA⟩ : ∃ U : B64, U = (sx x) := ⟨_, rfl⟩
  obtain ⟨B, hB⟩ : ∃ U : B64, U = (sx y) := ⟨_, rfl⟩
  rw [← hU] at c1
  rw [← hV] at c2
  rw [← hA] at s1
  rw [← hB] at s2
  rw [← hU, ← hV, ← hA, ← hB] at hZ
  rw [← hV] at hy
  have hN : (V.toNat : Int) % 32 = ((V.toNat % 32 : Nat) : Int) := by omega
  obtain ⟨N, hN2⟩ : ∃ N, N = V.toNat % 32 := ⟨_, rfl⟩
  rw [← hN2] at hN
  have hNl : N < 32 := by omega
  have hZ2 : Z = (U - U / V * V).toNat := hZ
  clear hZ
  have dv := fun W => rdivide_k U.toNat V.toNat W U.isLt (by have : V.toNat ≠ 0 := fun e => hy (BitVec.eq_of_toNat_eq (by simpa using e)); omega) V.isLt
  rw [← BitVec.toNat_udiv] at dv
  have f1 := w_mul (U / V) V
  have f2 := w_sub U (U / V * V)
  rw [← hZ2] at f2
  generalize U / V * V = E at *
  generalize U / V = D at *
  have DV := Lib.hid dv
  clear dv hy
  have C1 := Lib.hid c1
  have C2 := Lib.hid c2
  have S1 := Lib.hid s1
  have S2 := Lib.hid s2
  clear c1 c2 s1 s2 hNl hU hV hA hB hN2
  clear hZ2
  go_enter Tryd.func37, Tryd.ntmps37
  go_wp2_with (first | (go_at_call 33; (with_reducible refine (C1.out _).mono ?_); rintro e u ⟨rfl, rfl⟩) | (go_at_call 33; (with_reducible refine (C2.out _).mono ?_); rintro e u ⟨rfl, rfl⟩) | (go_at_call 35; (with_reducible refine (S1.out _).mono ?_); rintro e u ⟨rfl, rfl⟩) | (go_at_call 35; (with_reducible refine (S2.out _).mono ?_); rintro e u ⟨rfl, rfl⟩) | (go_at_call 43; (with_reducible refine (DV.out _).mono ?_); rintro e u ⟨rfl, rfl⟩))
  go_ret
  exact ⟨rfl, rfl⟩
set_option maxHeartbeats 1000000 in
theorem rar_32_7 (x y : B64) (w : World) : Calls Tryd.prog 37 #[.int .i64 7, .int .u64 (x.toNat : Int), .int .u64 (y.toNat : Int), .int .i64 32] w fun e w' => e = .returned (.int .u64 ((arB 32 7 (up (lo x)) (up (lo y)) (sx x) (sx y)).toNat : Int)) ∧ w' = w := by
  obtain ⟨Z, hZ⟩ : ∃ Z : Nat, Z = (arB 32 7 (up (lo x)) (up (lo y)) (sx x) (sx y)).toNat := ⟨_, rfl⟩
  have c1 := fun W => rcut_32 x.toNat W x.isLt
  have c2 := fun W => rcut_32 y.toNat W y.isLt
  have s1 := fun W => rsign_32 x.toNat W x.isLt
  have s2 := fun W => rsign_32 y.toNat W y.isLt
  rw [cut32_eq] at c1 c2
  rw [sg32_eq] at s1 s2
  rw [← hZ]
  obtain ⟨U, hU⟩ : ∃ U : B64, U = (up (lo x)) := ⟨_, rfl⟩
  obtain ⟨V, hV⟩ : ∃ U : B64, U = (up (lo y)) := ⟨_, rfl⟩
  obtain ⟨A, hA⟩ : ∃ U : B64, U = (sx x) := ⟨_, rfl⟩
  obtain ⟨B, hB⟩ : ∃ U : B64, U = (sx y) := ⟨_, rfl⟩
  rw [← hU] at c1
  rw [← hV] at c2
  rw [← hA] at s1
  rw [← hB] at s2
  rw [← hU, ← hV, ← hA, ← hB] at hZ
  have hN : (V.toNat : Int) % 32 = ((V.toNat % 32 : Nat) : Int) := by omega
  obtain ⟨N, hN2⟩ : ∃ N, N = V.toNat % 32 := ⟨_, rfl⟩
  rw [← hN2] at hN
  have hNl : N < 32 := by omega
  have hZ2 : Z = (U &&& V).toNat := hZ
  clear hZ
  have f1 := w_and U V
  rw [← hZ2] at f1
  have C1 := Lib.hid c1
  have C2 := Lib.hid c2
  have S1 := Lib.hid s1
  have S2 := Lib.hid s2
  clear c1 c2 s1 s2 hNl hU hV hA hB hN2
  clear hZ2
  go_enter Tryd.func37, Tryd.ntmps37
  go_wp2_with (first | (go_at_call 33; (with_reducible refine (C1.out _).mono ?_); rintro e u ⟨rfl, rfl⟩) | (go_at_call 33; (with_reducible refine (C2.out _).mono ?_); rintro e u ⟨rfl, rfl⟩) | (go_at_call 35; (with_reducible refine (S1.out _).mono ?_); rintro e u ⟨rfl, rfl⟩) | (go_at_call 35; (with_reducible refine (S2.out _).mono ?_); rintro e u ⟨rfl, rfl⟩))
  go_ret
  exact ⟨rfl, rfl⟩
set_option maxHeartbeats 1000000 in
theorem rar_32_8 (x y : B64) (w : World) : Calls Tryd.prog 37 #[.int .i64 8, .int .u64 (x.toNat : Int), .int .u64 (y.toNat : Int), .int .i64 32] w fun e w' => e = .returned (.int .u64 ((arB 32 8 (up (lo x)) (up (lo y)) (sx x) (sx y)).toNat : Int)) ∧ w' = w := by
  obtain ⟨Z, hZ⟩ : ∃ Z : Nat, Z = (arB 32 8 (up (lo x)) (up (lo y)) (sx x) (sx y)).toNat := ⟨_, rfl⟩
  have c1 := fun W => rcut_32 x.toNat W x.isLt
  have c2 := fun W => rcut_32 y.toNat W y.isLt
  have s1 := fun W => rsign_32 x.toNat W x.isLt
  have s2 := fun W => rsign_32 y.toNat W y.isLt
  rw [cut32_eq] at c1 c2
  rw [sg32_eq] at s1 s2
  rw [← hZ]
  obtain ⟨U, hU⟩ : ∃ U : B64, U = (up (lo x)) := ⟨_, rfl⟩
  obtain ⟨V, hV⟩ : ∃ U : B64, U = (up (lo y)) := ⟨_, rfl⟩
  obtain ⟨A, hA⟩ : ∃ U : B64, U = (sx x) := ⟨_, rfl⟩
  obtain ⟨B, hB⟩ : ∃ U : B64, U = (sx y) := ⟨_, rfl⟩
  rw [← hU] at c1
  rw [← hV] at c2
  rw [← hA] at s1
  rw [← hB] at s2
  rw [← hU, ← hV, ← hA, ← hB] at hZ
  have hN : (V.toNat : Int) % 32 = ((V.toNat % 32 : Nat) : Int) := by omega
  obtain ⟨N, hN2⟩ : ∃ N, N = V.toNat % 32 := ⟨_, rfl⟩
  rw [← hN2] at hN
  have hNl : N < 32 := by omega
  have hZ2 : Z = (U ||| V).toNat := hZ
  clear hZ
  have f1 := w_or U V
  rw [← hZ2] at f1
  have C1 := Lib.hid c1
  have C2 := Lib.hid c2
  have S1 := Lib.hid s1
  have S2 := Lib.hid s2
  clear c1 c2 s1 s2 hNl hU hV hA hB hN2
  clear hZ2
  go_enter Tryd.func37, Tryd.ntmps37
  go_wp2_with (first | (go_at_call 33; (with_reducible refine (C1.out _).mono ?_); rintro e u ⟨rfl, rfl⟩) | (go_at_call 33; (with_reducible refine (C2.out _).mono ?_); rintro e u ⟨rfl, rfl⟩) | (go_at_call 35; (with_reducible refine (S1.out _).mono ?_); rintro e u ⟨rfl, rfl⟩) | (go_at_call 35; (with_reducible refine (S2.out _).mono ?_); rintro e u ⟨rfl, rfl⟩))
  go_ret
  exact ⟨rfl, rfl⟩
set_option maxHeartbeats 1000000 in
theorem rar_32_9 (x y : B64) (w : World) : Calls Tryd.prog 37 #[.int .i64 9, .int .u64 (x.toNat : Int), .int .u64 (y.toNat : Int), .int .i64 32] w fun e w' => e = .returned (.int .u64 ((arB 32 9 (up (lo x)) (up (lo y)) (sx x) (sx y)).toNat : Int)) ∧ w' = w := by
  obtain ⟨Z, hZ⟩ : ∃ Z : Nat, Z = (arB 32 9 (up (lo x)) (up (lo y)) (sx x) (sx y)).toNat := ⟨_, rfl⟩
  have c1 := fun W => rcut_32 x.toNat W x.isLt
  have c2 := fun W => rcut_32 y.toNat W y.isLt
  have s1 := fun W => rsign_32 x.toNat W x.isLt
  have s2 := fun W => rsign_32 y.toNat W y.isLt
  rw [cut32_eq] at c1 c2
  rw [sg32_eq] at s1 s2
  rw [← hZ]
  obtain ⟨U, hU⟩ : ∃ U : B64, U = (up (lo x)) := ⟨_, rfl⟩
  obtain ⟨V, hV⟩ : ∃ U : B64, U = (up (lo y)) := ⟨_, rfl⟩
  obtain ⟨A, hA⟩ : ∃ U : B64, U = (sx x) := ⟨_, rfl⟩
  obtain ⟨B, hB⟩ : ∃ U : B64, U = (sx y) := ⟨_, rfl⟩
  rw [← hU] at c1
  rw [← hV] at c2
  rw [← hA] at s1
  rw [← hB] at s2
  rw [← hU, ← hV, ← hA, ← hB] at hZ
  have hN : (V.toNat : Int) % 32 = ((V.toNat % 32 : Nat) : Int) := by omega
  obtain ⟨N, hN2⟩ : ∃ N, N = V.toNat % 32 := ⟨_, rfl⟩
  rw [← hN2] at hN
  have hNl : N < 32 := by omega
  have hZ2 : Z = (U ^^^ V).toNat := hZ
  clear hZ
  have f1 := w_xor U V
  rw [← hZ2] at f1
  have C1 := Lib.hid c1
  have C2 := Lib.hid c2
  have S1 := Lib.hid s1
  have S2 := Lib.hid s2
  clear c1 c2 s1 s2 hNl hU hV hA hB hN2
  clear hZ2
  go_enter Tryd.func37, Tryd.ntmps37
  go_wp2_with (first | (go_at_call 33; (with_reducible refine (C1.out _).mono ?_); rintro e u ⟨rfl, rfl⟩) | (go_at_call 33; (with_reducible refine (C2.out _).mono ?_); rintro e u ⟨rfl, rfl⟩) | (go_at_call 35; (with_reducible refine (S1.out _).mono ?_); rintro e u ⟨rfl, rfl⟩) | (go_at_call 35; (with_reducible refine (S2.out _).mono ?_); rintro e u ⟨rfl, rfl⟩))
  go_ret
  exact ⟨rfl, rfl⟩
set_option maxHeartbeats 1000000 in
theorem rar_32_10 (x y : B64) (w : World) : Calls Tryd.prog 37 #[.int .i64 10, .int .u64 (x.toNat : Int), .int .u64 (y.toNat : Int), .int .i64 32] w fun e w' => e = .returned (.int .u64 ((arB 32 10 (up (lo x)) (up (lo y)) (sx x) (sx y)).toNat : Int)) ∧ w' = w := by
  obtain ⟨Z, hZ⟩ : ∃ Z : Nat, Z = (arB 32 10 (up (lo x)) (up (lo y)) (sx x) (sx y)).toNat := ⟨_, rfl⟩
  have c1 := fun W => rcut_32 x.toNat W x.isLt
  have c2 := fun W => rcut_32 y.toNat W y.isLt
  have s1 := fun W => rsign_32 x.toNat W x.isLt
  have s2 := fun W => rsign_32 y.toNat W y.isLt
  rw [cut32_eq] at c1 c2
  rw [sg32_eq] at s1 s2
  rw [← hZ]
  obtain ⟨U, hU⟩ : ∃ U : B64, U = (up (lo x)) := ⟨_, rfl⟩
  obtain ⟨V, hV⟩ : ∃ U : B64, U = (up (lo y)) := ⟨_, rfl⟩
  obtain ⟨A, hA⟩ : ∃ U : B64, U = (sx x) := ⟨_, rfl⟩
  obtain ⟨B, hB⟩ : ∃ U : B64, U = (sx y) := ⟨_, rfl⟩
  rw [← hU] at c1
  rw [← hV] at c2
  rw [← hA] at s1
  rw [← hB] at s2
  rw [← hU, ← hV, ← hA, ← hB] at hZ
  have hN : (V.toNat : Int) % 32 = ((V.toNat % 32 : Nat) : Int) := by omega
  obtain ⟨N, hN2⟩ : ∃ N, N = V.toNat % 32 := ⟨_, rfl⟩
  rw [← hN2] at hN
  have hNl : N < 32 := by omega
  have hZ2 : Z = (U <<< N).toNat := by rw [hZ, hN2]; rfl
  clear hZ
  have f1 := w_shl U N
  rw [← hZ2] at f1
  have C1 := Lib.hid c1
  have C2 := Lib.hid c2
  have S1 := Lib.hid s1
  have S2 := Lib.hid s2
  clear c1 c2 s1 s2 hNl hU hV hA hB hN2
  clear hZ2
  go_enter Tryd.func37, Tryd.ntmps37
  go_wp2_with (first | (go_at_call 33; (with_reducible refine (C1.out _).mono ?_); rintro e u ⟨rfl, rfl⟩) | (go_at_call 33; (with_reducible refine (C2.out _).mono ?_); rintro e u ⟨rfl, rfl⟩) | (go_at_call 35; (with_reducible refine (S1.out _).mono ?_); rintro e u ⟨rfl, rfl⟩) | (go_at_call 35; (with_reducible refine (S2.out _).mono ?_); rintro e u ⟨rfl, rfl⟩))
  go_ret
  exact ⟨rfl, rfl⟩
set_option maxHeartbeats 1000000 in
theorem rar_32_11 (x y : B64) (w : World) : Calls Tryd.prog 37 #[.int .i64 11, .int .u64 (x.toNat : Int), .int .u64 (y.toNat : Int), .int .i64 32] w fun e w' => e = .returned (.int .u64 ((arB 32 11 (up (lo x)) (up (lo y)) (sx x) (sx y)).toNat : Int)) ∧ w' = w := by
  obtain ⟨Z, hZ⟩ : ∃ Z : Nat, Z = (arB 32 11 (up (lo x)) (up (lo y)) (sx x) (sx y)).toNat := ⟨_, rfl⟩
  have c1 := fun W => rcut_32 x.toNat W x.isLt
  have c2 := fun W => rcut_32 y.toNat W y.isLt
  have s1 := fun W => rsign_32 x.toNat W x.isLt
  have s2 := fun W => rsign_32 y.toNat W y.isLt
  rw [cut32_eq] at c1 c2
  rw [sg32_eq] at s1 s2
  rw [← hZ]
  obtain ⟨U, hU⟩ : ∃ U : B64, U = (up (lo x)) := ⟨_, rfl⟩
  obtain ⟨V, hV⟩ : ∃ U : B64, U = (up (lo y)) := ⟨_, rfl⟩
  obtain ⟨A, hA⟩ : ∃ U : B64, U = (sx x) := ⟨_, rfl⟩
  obtain ⟨B, hB⟩ : ∃ U : B64, U = (sx y) := ⟨_, rfl⟩
  rw [← hU] at c1
  rw [← hV] at c2
  rw [← hA] at s1
  rw [← hB] at s2
  rw [← hU, ← hV, ← hA, ← hB] at hZ
  have hN : (V.toNat : Int) % 32 = ((V.toNat % 32 : Nat) : Int) := by omega
  obtain ⟨N, hN2⟩ : ∃ N, N = V.toNat % 32 := ⟨_, rfl⟩
  rw [← hN2] at hN
  have hNl : N < 32 := by omega
  have hZ2 : Z = (A >>> N ||| fillB A N).toNat := by rw [hZ, hN2]; rfl
  clear hZ
  have f1 := w_shr A N
  have f2 := w_or (A >>> N) (fillB A N)
  rw [← hZ2] at f2
  obtain ⟨s, hs⟩ : ∃ s, s = A.toNat / 9223372036854775808 := ⟨_, rfl⟩
  have f3 : (A.toNat : Int) / 9223372036854775808 = (s : Int) := by omega
  have hs2 : s < 2 := by have := A.isLt; omega
  have fl := fun W => rfill_k s N W hs2 (by omega)
  have hfb : ((fillN s N : Nat) : Int) = ((fillB A N).toNat : Int) := by unfold fillB; rw [← hs, BitVec.toNat_ofNat, Nat.mod_eq_of_lt (fill_lt _ _)]
  rw [hfb] at fl
  generalize fillB A N = G at *
  generalize A >>> N = H at *
  have FL := Lib.hid fl
  clear fl hfb hs hs2
  have C1 := Lib.hid c1
  have C2 := Lib.hid c2
  have S1 := Lib.hid s1
  have S2 := Lib.hid s2
  clear c1 c2 s1 s2 hNl hU hV hA hB hN2
  clear hZ2
  go_enter Tryd.func37, Tryd.ntmps37
  go_wp2_with (first | (go_at_call 33; (with_reducible refine (C1.out _).mono ?_); rintro e u ⟨rfl, rfl⟩) | (go_at_call 33; (with_reducible refine (C2.out _).mono ?_); rintro e u ⟨rfl, rfl⟩) | (go_at_call 35; (with_reducible refine (S1.out _).mono ?_); rintro e u ⟨rfl, rfl⟩) | (go_at_call 35; (with_reducible refine (S2.out _).mono ?_); rintro e u ⟨rfl, rfl⟩) | (go_at_call 45; (with_reducible refine (FL.out _).mono ?_); rintro e u ⟨rfl, rfl⟩))
  go_ret
  exact ⟨rfl, rfl⟩
set_option maxHeartbeats 1000000 in
theorem rar_32_12 (x y : B64) (w : World) : Calls Tryd.prog 37 #[.int .i64 12, .int .u64 (x.toNat : Int), .int .u64 (y.toNat : Int), .int .i64 32] w fun e w' => e = .returned (.int .u64 ((arB 32 12 (up (lo x)) (up (lo y)) (sx x) (sx y)).toNat : Int)) ∧ w' = w := by
  obtain ⟨Z, hZ⟩ : ∃ Z : Nat, Z = (arB 32 12 (up (lo x)) (up (lo y)) (sx x) (sx y)).toNat := ⟨_, rfl⟩
  have c1 := fun W => rcut_32 x.toNat W x.isLt
  have c2 := fun W => rcut_32 y.toNat W y.isLt
  have s1 := fun W => rsign_32 x.toNat W x.isLt
  have s2 := fun W => rsign_32 y.toNat W y.isLt
  rw [cut32_eq] at c1 c2
  rw [sg32_eq] at s1 s2
  rw [← hZ]
  obtain ⟨U, hU⟩ : ∃ U : B64, U = (up (lo x)) := ⟨_, rfl⟩
  obtain ⟨V, hV⟩ : ∃ U : B64, U = (up (lo y)) := ⟨_, rfl⟩
  obtain ⟨A, hA⟩ : ∃ U : B64, U = (sx x) := ⟨_, rfl⟩
  obtain ⟨B, hB⟩ : ∃ U : B64, U = (sx y) := ⟨_, rfl⟩
  rw [← hU] at c1
  rw [← hV] at c2
  rw [← hA] at s1
  rw [← hB] at s2
  rw [← hU, ← hV, ← hA, ← hB] at hZ
  have hN : (V.toNat : Int) % 32 = ((V.toNat % 32 : Nat) : Int) := by omega
  obtain ⟨N, hN2⟩ : ∃ N, N = V.toNat % 32 := ⟨_, rfl⟩
  rw [← hN2] at hN
  have hNl : N < 32 := by omega
  have hZ2 : Z = (U >>> N).toNat := by rw [hZ, hN2]; rfl
  clear hZ
  have f1 := w_shr U N
  rw [← hZ2] at f1
  have C1 := Lib.hid c1
  have C2 := Lib.hid c2
  have S1 := Lib.hid s1
  have S2 := Lib.hid s2
  clear c1 c2 s1 s2 hNl hU hV hA hB hN2
  clear hZ2
  go_enter Tryd.func37, Tryd.ntmps37
  go_wp2_with (first | (go_at_call 33; (with_reducible refine (C1.out _).mono ?_); rintro e u ⟨rfl, rfl⟩) | (go_at_call 33; (with_reducible refine (C2.out _).mono ?_); rintro e u ⟨rfl, rfl⟩) | (go_at_call 35; (with_reducible refine (S1.out _).mono ?_); rintro e u ⟨rfl, rfl⟩) | (go_at_call 35; (with_reducible refine (S2.out _).mono ?_); rintro e u ⟨rfl, rfl⟩))
  go_ret
  exact ⟨rfl, rfl⟩
set_option maxHeartbeats 1000000 in
theorem rar_32_13 (x y : B64) (w : World) : Calls Tryd.prog 37 #[.int .i64 13, .int .u64 (x.toNat : Int), .int .u64 (y.toNat : Int), .int .i64 32] w fun e w' => e = .returned (.int .u64 ((arB 32 13 (up (lo x)) (up (lo y)) (sx x) (sx y)).toNat : Int)) ∧ w' = w := by
  obtain ⟨Z, hZ⟩ : ∃ Z : Nat, Z = (arB 32 13 (up (lo x)) (up (lo y)) (sx x) (sx y)).toNat := ⟨_, rfl⟩
  have c1 := fun W => rcut_32 x.toNat W x.isLt
  have c2 := fun W => rcut_32 y.toNat W y.isLt
  have s1 := fun W => rsign_32 x.toNat W x.isLt
  have s2 := fun W => rsign_32 y.toNat W y.isLt
  rw [cut32_eq] at c1 c2
  rw [sg32_eq] at s1 s2
  rw [← hZ]
  obtain ⟨U, hU⟩ : ∃ U : B64, U = (up (lo x)) := ⟨_, rfl⟩
  obtain ⟨V, hV⟩ : ∃ U : B64, U = (up (lo y)) := ⟨_, rfl⟩
  obtain ⟨A, hA⟩ : ∃ U : B64, U = (sx x) := ⟨_, rfl⟩
  obtain ⟨B, hB⟩ : ∃ U : B64, U = (sx y) := ⟨_, rfl⟩
  rw [← hU] at c1
  rw [← hV] at c2
  rw [← hA] at s1
  rw [← hB] at s2
  rw [← hU, ← hV, ← hA, ← hB] at hZ
  have hN : (V.toNat : Int) % 32 = ((V.toNat % 32 : Nat) : Int) := by omega
  obtain ⟨N, hN2⟩ : ∃ N, N = V.toNat % 32 := ⟨_, rfl⟩
  rw [← hN2] at hN
  have hNl : N < 32 := by omega
  have hZ2 : Z = (U <<< N ||| U >>> (32 - N)).toNat := by rw [hZ, hN2]; rfl
  clear hZ
  have e0 : IntKind.u64.wrap (32 - (N : Int)) = ((32 - N : Nat) : Int) := by rw [IntWalk.u64_in _ (by omega)]; omega
  have f1 := w_shl U N
  have f2 := w_shr U (32 - N)
  have f3 := w_or (U <<< N) (U >>> (32 - N))
  rw [← hZ2] at f3
  generalize U <<< N = G at *
  generalize U >>> (32 - N) = H at *
  have hM : min (32 - N) 64 = 32 - N := Nat.min_eq_left (by omega)
  generalize 32 - N = M at *
  have C1 := Lib.hid c1
  have C2 := Lib.hid c2
  have S1 := Lib.hid s1
  have S2 := Lib.hid s2
  clear c1 c2 s1 s2 hNl hU hV hA hB hN2
  clear hZ2
  go_enter Tryd.func37, Tryd.ntmps37
  go_wp2_with (first | (go_at_call 33; (with_reducible refine (C1.out _).mono ?_); rintro e u ⟨rfl, rfl⟩) | (go_at_call 33; (with_reducible refine (C2.out _).mono ?_); rintro e u ⟨rfl, rfl⟩) | (go_at_call 35; (with_reducible refine (S1.out _).mono ?_); rintro e u ⟨rfl, rfl⟩) | (go_at_call 35; (with_reducible refine (S2.out _).mono ?_); rintro e u ⟨rfl, rfl⟩))
  go_ret
  exact ⟨rfl, rfl⟩
set_option maxHeartbeats 1000000 in
theorem rar_32_14 (x y : B64) (w : World) : Calls Tryd.prog 37 #[.int .i64 14, .int .u64 (x.toNat : Int), .int .u64 (y.toNat : Int), .int .i64 32] w fun e w' => e = .returned (.int .u64 ((arB 32 14 (up (lo x)) (up (lo y)) (sx x) (sx y)).toNat : Int)) ∧ w' = w := by
  obtain ⟨Z, hZ⟩ : ∃ Z : Nat, Z = (arB 32 14 (up (lo x)) (up (lo y)) (sx x) (sx y)).toNat := ⟨_, rfl⟩
  have c1 := fun W => rcut_32 x.toNat W x.isLt
  have c2 := fun W => rcut_32 y.toNat W y.isLt
  have s1 := fun W => rsign_32 x.toNat W x.isLt
  have s2 := fun W => rsign_32 y.toNat W y.isLt
  rw [cut32_eq] at c1 c2
  rw [sg32_eq] at s1 s2
  rw [← hZ]
  obtain ⟨U, hU⟩ : ∃ U : B64, U = (up (lo x)) := ⟨_, rfl⟩
  obtain ⟨V, hV⟩ : ∃ U : B64, U = (up (lo y)) := ⟨_, rfl⟩
  obtain ⟨A, hA⟩ : ∃ U : B64, U = (sx x) := ⟨_, rfl⟩
  obtain ⟨B, hB⟩ : ∃ U : B64, U = (sx y) := ⟨_, rfl⟩
  rw [← hU] at c1
  rw [← hV] at c2
  rw [← hA] at s1
  rw [← hB] at s2
  rw [← hU, ← hV, ← hA, ← hB] at hZ
  have hN : (V.toNat : Int) % 32 = ((V.toNat % 32 : Nat) : Int) := by omega
  obtain ⟨N, hN2⟩ : ∃ N, N = V.toNat % 32 := ⟨_, rfl⟩
  rw [← hN2] at hN
  have hNl : N < 32 := by omega
  have hZ2 : Z = (U >>> N ||| U <<< (32 - N)).toNat := by rw [hZ, hN2]; rfl
  clear hZ
  have e0 : IntKind.u64.wrap (32 - (N : Int)) = ((32 - N : Nat) : Int) := by rw [IntWalk.u64_in _ (by omega)]; omega
  have f1 := w_shl U (32 - N)
  have f2 := w_shr U N
  have f3 := w_or (U >>> N) (U <<< (32 - N))
  rw [← hZ2] at f3
  generalize U <<< (32 - N) = G at *
  generalize U >>> N = H at *
  have hM : min (32 - N) 64 = 32 - N := Nat.min_eq_left (by omega)
  generalize 32 - N = M at *
  have C1 := Lib.hid c1
  have C2 := Lib.hid c2
  have S1 := Lib.hid s1
  have S2 := Lib.hid s2
  clear c1 c2 s1 s2 hNl hU hV hA hB hN2
  clear hZ2
  go_enter Tryd.func37, Tryd.ntmps37
  go_wp2_with (first | (go_at_call 33; (with_reducible refine (C1.out _).mono ?_); rintro e u ⟨rfl, rfl⟩) | (go_at_call 33; (with_reducible refine (C2.out _).mono ?_); rintro e u ⟨rfl, rfl⟩) | (go_at_call 35; (with_reducible refine (S1.out _).mono ?_); rintro e u ⟨rfl, rfl⟩) | (go_at_call 35; (with_reducible refine (S2.out _).mono ?_); rintro e u ⟨rfl, rfl⟩))
  go_ret
  exact ⟨rfl, rfl⟩
set_option maxHeartbeats 1000000 in
theorem rar_64_0 (x y : B64) (w : World) : Calls Tryd.prog 37 #[.int .i64 0, .int .u64 (x.toNat : Int), .int .u64 (y.toNat : Int), .int .i64 64] w fun e w' => e = .returned (.int .u64 ((arB 64 0 x y x y).toNat : Int)) ∧ w' = w := by
  obtain ⟨Z, hZ⟩ : ∃ Z : Nat, Z = (arB 64 0 x y x y).toNat := ⟨_, rfl⟩
  have c1 := fun W => rcut_64 x.toNat W x.isLt
  have c2 := fun W => rcut_64 y.toNat W y.isLt
  have s1 := fun W => rsign_64 x.toNat W x.isLt
  have s2 := fun W => rsign_64 y.toNat W y.isLt
  rw [cut64_eq] at c1 c2
  rw [sg64_eq] at s1 s2
  rw [← hZ]
  have hN : (y.toNat : Int) % 64 = ((y.toNat % 64 : Nat) : Int) := by omega
  obtain ⟨N, hN2⟩ : ∃ N, N = y.toNat % 64 := ⟨_, rfl⟩
  rw [← hN2] at hN
  have hNl : N < 64 := by omega
  have hZ2 : Z = (x + y).toNat := hZ
  clear hZ
  have f1 := w_add x y
  rw [← hZ2] at f1
  have C1 := Lib.hid c1
  have C2 := Lib.hid c2
  have S1 := Lib.hid s1
  have S2 := Lib.hid s2
  clear c1 c2 s1 s2 hNl hN2
  clear hZ2
  go_enter Tryd.func37, Tryd.ntmps37
  go_wp2_with (first | (go_at_call 33; (with_reducible refine (C1.out _).mono ?_); rintro e u ⟨rfl, rfl⟩) | (go_at_call 33; (with_reducible refine (C2.out _).mono ?_); rintro e u ⟨rfl, rfl⟩) | (go_at_call 35; (with_reducible refine (S1.out _).mono ?_); rintro e u ⟨rfl, rfl⟩) | (go_at_call 35; (with_reducible refine (S2.out _).mono ?_); rintro e u ⟨rfl, rfl⟩))
  go_ret
  exact ⟨rfl, rfl⟩
set_option maxHeartbeats 1000000 in
theorem rar_64_1 (x y : B64) (w : World) : Calls Tryd.prog 37 #[.int .i64 1, .int .u64 (x.toNat : Int), .int .u64 (y.toNat : Int), .int .i64 64] w fun e w' => e = .returned (.int .u64 ((arB 64 1 x y x y).toNat : Int)) ∧ w' = w := by
  obtain ⟨Z, hZ⟩ : ∃ Z : Nat, Z = (arB 64 1 x y x y).toNat := ⟨_, rfl⟩
  have c1 := fun W => rcut_64 x.toNat W x.isLt
  have c2 := fun W => rcut_64 y.toNat W y.isLt
  have s1 := fun W => rsign_64 x.toNat W x.isLt
  have s2 := fun W => rsign_64 y.toNat W y.isLt
  rw [cut64_eq] at c1 c2
  rw [sg64_eq] at s1 s2
  rw [← hZ]
  have hN : (y.toNat : Int) % 64 = ((y.toNat % 64 : Nat) : Int) := by omega
  obtain ⟨N, hN2⟩ : ∃ N, N = y.toNat % 64 := ⟨_, rfl⟩
  rw [← hN2] at hN
  have hNl : N < 64 := by omega
  have hZ2 : Z = (x - y).toNat := hZ
  clear hZ
  have f1 := w_sub x y
  rw [← hZ2] at f1
  have C1 := Lib.hid c1
  have C2 := Lib.hid c2
  have S1 := Lib.hid s1
  have S2 := Lib.hid s2
  clear c1 c2 s1 s2 hNl hN2
  clear hZ2
  go_enter Tryd.func37, Tryd.ntmps37
  go_wp2_with (first | (go_at_call 33; (with_reducible refine (C1.out _).mono ?_); rintro e u ⟨rfl, rfl⟩) | (go_at_call 33; (with_reducible refine (C2.out _).mono ?_); rintro e u ⟨rfl, rfl⟩) | (go_at_call 35; (with_reducible refine (S1.out _).mono ?_); rintro e u ⟨rfl, rfl⟩) | (go_at_call 35; (with_reducible refine (S2.out _).mono ?_); rintro e u ⟨rfl, rfl⟩))
  go_ret
  exact ⟨rfl, rfl⟩
set_option maxHeartbeats 1000000 in
theorem rar_64_2 (x y : B64) (w : World) : Calls Tryd.prog 37 #[.int .i64 2, .int .u64 (x.toNat : Int), .int .u64 (y.toNat : Int), .int .i64 64] w fun e w' => e = .returned (.int .u64 ((arB 64 2 x y x y).toNat : Int)) ∧ w' = w := by
  obtain ⟨Z, hZ⟩ : ∃ Z : Nat, Z = (arB 64 2 x y x y).toNat := ⟨_, rfl⟩
  have c1 := fun W => rcut_64 x.toNat W x.isLt
  have c2 := fun W => rcut_64 y.toNat W y.isLt
  have s1 := fun W => rsign_64 x.toNat W x.isLt
  have s2 := fun W => rsign_64 y.toNat W y.isLt
  rw [cut64_eq] at c1 c2
  rw [sg64_eq] at s1 s2
  rw [← hZ]
  have hN : (y.toNat : Int) % 64 = ((y.toNat % 64 : Nat) : Int) := by omega
  obtain ⟨N, hN2⟩ : ∃ N, N = y.toNat % 64 := ⟨_, rfl⟩
  rw [← hN2] at hN
  have hNl : N < 64 := by omega
  have hZ2 : Z = (x * y).toNat := hZ
  clear hZ
  have f1 := w_mul x y
  rw [← hZ2] at f1
  have C1 := Lib.hid c1
  have C2 := Lib.hid c2
  have S1 := Lib.hid s1
  have S2 := Lib.hid s2
  clear c1 c2 s1 s2 hNl hN2
  clear hZ2
  go_enter Tryd.func37, Tryd.ntmps37
  go_wp2_with (first | (go_at_call 33; (with_reducible refine (C1.out _).mono ?_); rintro e u ⟨rfl, rfl⟩) | (go_at_call 33; (with_reducible refine (C2.out _).mono ?_); rintro e u ⟨rfl, rfl⟩) | (go_at_call 35; (with_reducible refine (S1.out _).mono ?_); rintro e u ⟨rfl, rfl⟩) | (go_at_call 35; (with_reducible refine (S2.out _).mono ?_); rintro e u ⟨rfl, rfl⟩))
  go_ret
  exact ⟨rfl, rfl⟩
set_option maxHeartbeats 1000000 in
theorem rar_64_3 (x y : B64) (w : World) (hy : y ≠ 0) : Calls Tryd.prog 37 #[.int .i64 3, .int .u64 (x.toNat : Int), .int .u64 (y.toNat : Int), .int .i64 64] w fun e w' => e = .returned (.int .u64 ((arB 64 3 x y x y).toNat : Int)) ∧ w' = w := by
  obtain ⟨Z, hZ⟩ : ∃ Z : Nat, Z = (arB 64 3 x y x y).toNat := ⟨_, rfl⟩
  have c1 := fun W => rcut_64 x.toNat W x.isLt
  have c2 := fun W => rcut_64 y.toNat W y.isLt
  have s1 := fun W => rsign_64 x.toNat W x.isLt
  have s2 := fun W => rsign_64 y.toNat W y.isLt
  rw [cut64_eq] at c1 c2
  rw [sg64_eq] at s1 s2
  rw [← hZ]
  have hN : (y.toNat : Int) % 64 = ((y.toNat % 64 : Nat) : Int) := by omega
  obtain ⟨N, hN2⟩ : ∃ N, N = y.toNat % 64 := ⟨_, rfl⟩
  rw [← hN2] at hN
  have hNl : N < 64 := by omega
  have hZ2 : Z = (x.sdiv y).toNat := hZ
  clear hZ
  have z1 := fun W => rsize_k x.toNat W x.isLt
  have z2 := fun W => rsize_k y.toNat W y.isLt
  rw [absB_toNat] at z1 z2
  have hb0 : (absB y).toNat ≠ 0 := fun e => hy (by have e2 : absB y = 0 := BitVec.eq_of_toNat_eq (by simpa using e); unfold absB at e2; split at e2; (exact BitVec.neg_eq_zero_iff.1 e2); exact e2)
  have dv := fun W => rdivide_k (absB x).toNat (absB y).toNat W (absB x).isLt (by omega) (absB y).isLt
  rw [← BitVec.toNat_udiv] at dv
  have hsd := sdiv_abs x y
  have n1 := w_neg (absB x / absB y)
  have m1 := w_mul (x.sdiv y) y
  have m2 := w_sub x (x.sdiv y * y)
  rw [hsd] at hZ2
  generalize absB x = PA at *
  generalize absB y = PB at *
  have Z1 := Lib.hid z1
  have Z2 := Lib.hid z2
  have DV := Lib.hid dv
  clear z1 z2 dv hb0 hy
  have C1 := Lib.hid c1
  have C2 := Lib.hid c2
  have S1 := Lib.hid s1
  have S2 := Lib.hid s2
  clear c1 c2 s1 s2 hNl hN2
  have ha := x.isLt
  have hb := y.isLt
  have hma : x.msb = decide (9223372036854775808 ≤ x.toNat) := by rw [BitVec.msb_eq_decide]
  have hmb : y.msb = decide (9223372036854775808 ≤ y.toNat) := by rw [BitVec.msb_eq_decide]
  by_cases ka : 9223372036854775808 ≤ x.toNat <;> by_cases kb : 9223372036854775808 ≤ y.toNat
  · rw [decide_eq_true ka] at hma
    rw [decide_eq_true kb] at hmb
    rw [hma, hmb, if_pos rfl] at hZ2
    have t1 : (x.toNat : Int) / 9223372036854775808 = 1 := by omega
    have t2 : (y.toNat : Int) / 9223372036854775808 = 1 := by omega
    clear hsd m1 m2
    generalize PA / PB = D at *
    subst hZ2
    clear ha hb hma hmb ka kb
    go_enter Tryd.func37, Tryd.ntmps37
    go_wp2_with (first | (go_at_call 33; (with_reducible refine (C1.out _).mono ?_); rintro e u ⟨rfl, rfl⟩) | (go_at_call 33; (with_reducible refine (C2.out _).mono ?_); rintro e u ⟨rfl, rfl⟩) | (go_at_call 35; (with_reducible refine (S1.out _).mono ?_); rintro e u ⟨rfl, rfl⟩) | (go_at_call 35; (with_reducible refine (S2.out _).mono ?_); rintro e u ⟨rfl, rfl⟩) | (go_at_call 44; (with_reducible refine (Z1.out _).mono ?_); rintro e u ⟨rfl, rfl⟩) | (go_at_call 44; (with_reducible refine (Z2.out _).mono ?_); rintro e u ⟨rfl, rfl⟩) | (go_at_call 43; (with_reducible refine (DV.out _).mono ?_); rintro e u ⟨rfl, rfl⟩))
    go_ret
    exact ⟨rfl, rfl⟩
  · rw [decide_eq_true ka] at hma
    rw [decide_eq_false kb] at hmb
    rw [hma, hmb, if_neg (by decide)] at hZ2
    have t1 : (x.toNat : Int) / 9223372036854775808 = 1 := by omega
    have t2 : (y.toNat : Int) / 9223372036854775808 = 0 := by omega
    rw [← hZ2] at n1
    clear hsd m1 m2 hZ2
    generalize PA / PB = D at *
    clear ha hb hma hmb ka kb
    go_enter Tryd.func37, Tryd.ntmps37
    go_wp2_with (first | (go_at_call 33; (with_reducible refine (C1.out _).mono ?_); rintro e u ⟨rfl, rfl⟩) | (go_at_call 33; (with_reducible refine (C2.out _).mono ?_); rintro e u ⟨rfl, rfl⟩) | (go_at_call 35; (with_reducible refine (S1.out _).mono ?_); rintro e u ⟨rfl, rfl⟩) | (go_at_call 35; (with_reducible refine (S2.out _).mono ?_); rintro e u ⟨rfl, rfl⟩) | (go_at_call 44; (with_reducible refine (Z1.out _).mono ?_); rintro e u ⟨rfl, rfl⟩) | (go_at_call 44; (with_reducible refine (Z2.out _).mono ?_); rintro e u ⟨rfl, rfl⟩) | (go_at_call 43; (with_reducible refine (DV.out _).mono ?_); rintro e u ⟨rfl, rfl⟩))
    go_ret
    exact ⟨rfl, rfl⟩
  · rw [decide_eq_false ka] at hma
    rw [decide_eq_true kb] at hmb
    rw [hma, hmb, if_neg (by decide)] at hZ2
    have t1 : (x.toNat : Int) / 9223372036854775808 = 0 := by omega
    have t2 : (y.toNat : Int) / 9223372036854775808 = 1 := by omega
    rw [← hZ2] at n1
    clear hsd m1 m2 hZ2
    generalize PA / PB = D at *
    clear ha hb hma hmb ka kb
    go_enter Tryd.func37, Tryd.ntmps37
    go_wp2_with (first | (go_at_call 33; (with_reducible refine (C1.out _).mono ?_); rintro e u ⟨rfl, rfl⟩) | (go_at_call 33; (with_reducible refine (C2.out _).mono ?_); rintro e u ⟨rfl, rfl⟩) | (go_at_call 35; (with_reducible refine (S1.out _).mono ?_); rintro e u ⟨rfl, rfl⟩) | (go_at_call 35; (with_reducible refine (S2.out _).mono ?_); rintro e u ⟨rfl, rfl⟩) | (go_at_call 44; (with_reducible refine (Z1.out _).mono ?_); rintro e u ⟨rfl, rfl⟩) | (go_at_call 44; (with_reducible refine (Z2.out _).mono ?_); rintro e u ⟨rfl, rfl⟩) | (go_at_call 43; (with_reducible refine (DV.out _).mono ?_); rintro e u ⟨rfl, rfl⟩))
    go_ret
    exact ⟨rfl, rfl⟩
  · rw [decide_eq_false ka] at hma
    rw [decide_eq_false kb] at hmb
    rw [hma, hmb, if_pos rfl] at hZ2
    have t1 : (x.toNat : Int) / 9223372036854775808 = 0 := by omega
    have t2 : (y.toNat : Int) / 9223372036854775808 = 0 := by omega
    clear hsd m1 m2
    generalize PA / PB = D at *
    subst hZ2
    clear ha hb hma hmb ka kb
    go_enter Tryd.func37, Tryd.ntmps37
    go_wp2_with (first | (go_at_call 33; (with_reducible refine (C1.out _).mono ?_); rintro e u ⟨rfl, rfl⟩) | (go_at_call 33; (with_reducible refine (C2.out _).mono ?_); rintro e u ⟨rfl, rfl⟩) | (go_at_call 35; (with_reducible refine (S1.out _).mono ?_); rintro e u ⟨rfl, rfl⟩) | (go_at_call 35; (with_reducible refine (S2.out _).mono ?_); rintro e u ⟨rfl, rfl⟩) | (go_at_call 44; (with_reducible refine (Z1.out _).mono ?_); rintro e u ⟨rfl, rfl⟩) | (go_at_call 44; (with_reducible refine (Z2.out _).mono ?_); rintro e u ⟨rfl, rfl⟩) | (go_at_call 43; (with_reducible refine (DV.out _).mono ?_); rintro e u ⟨rfl, rfl⟩))
    go_ret
    exact ⟨rfl, rfl⟩
set_option maxHeartbeats 1000000 in
theorem rar_64_4 (x y : B64) (w : World) (hy : y ≠ 0) : Calls Tryd.prog 37 #[.int .i64 4, .int .u64 (x.toNat : Int), .int .u64 (y.toNat : Int), .int .i64 64] w fun e w' => e = .returned (.int .u64 ((arB 64 4 x y x y).toNat : Int)) ∧ w' = w := by
  obtain ⟨Z, hZ⟩ : ∃ Z : Nat, Z = (arB 64 4 x y x y).toNat := ⟨_, rfl⟩
  have c1 := fun W => rcut_64 x.toNat W x.isLt
  have c2 := fun W => rcut_64 y.toNat W y.isLt
  have s1 := fun W => rsign_64 x.toNat W x.isLt
  have s2 := fun W => rsign_64 y.toNat W y.isLt
  rw [cut64_eq] at c1 c2
  rw [sg64_eq] at s1 s2
  rw [← hZ]
  have hN : (y.toNat : Int) % 64 = ((y.toNat % 64 : Nat) : Int) := by omega
  obtain ⟨N, hN2⟩ : ∃ N, N = y.toNat % 64 := ⟨_, rfl⟩
  rw [← hN2] at hN
  have hNl : N < 64 := by omega
  have hZ2 : Z = (x / y).toNat := hZ
  clear hZ
  have dv := fun W => rdivide_k x.toNat y.toNat W x.isLt (by have : y.toNat ≠ 0 := fun e => hy (BitVec.eq_of_toNat_eq (by simpa using e)); omega) y.isLt
  rw [← BitVec.toNat_udiv] at dv
  rw [show (x / y).toNat = Z from hZ2.symm] at dv
  have DV := Lib.hid dv
  clear dv hy
  have C1 := Lib.hid c1
  have C2 := Lib.hid c2
  have S1 := Lib.hid s1
  have S2 := Lib.hid s2
  clear c1 c2 s1 s2 hNl hN2
  clear hZ2
  go_enter Tryd.func37, Tryd.ntmps37
  go_wp2_with (first | (go_at_call 33; (with_reducible refine (C1.out _).mono ?_); rintro e u ⟨rfl, rfl⟩) | (go_at_call 33; (with_reducible refine (C2.out _).mono ?_); rintro e u ⟨rfl, rfl⟩) | (go_at_call 35; (with_reducible refine (S1.out _).mono ?_); rintro e u ⟨rfl, rfl⟩) | (go_at_call 35; (with_reducible refine (S2.out _).mono ?_); rintro e u ⟨rfl, rfl⟩) | (go_at_call 43; (with_reducible refine (DV.out _).mono ?_); rintro e u ⟨rfl, rfl⟩))
  go_ret
  exact ⟨rfl, rfl⟩
set_option maxHeartbeats 1000000 in
theorem rar_64_5 (x y : B64) (w : World) (hy : y ≠ 0) : Calls Tryd.prog 37 #[.int .i64 5, .int .u64 (x.toNat : Int), .int .u64 (y.toNat : Int), .int .i64 64] w fun e w' => e = .returned (.int .u64 ((arB 64 5 x y x y).toNat : Int)) ∧ w' = w := by
  obtain ⟨Z, hZ⟩ : ∃ Z : Nat, Z = (arB 64 5 x y x y).toNat := ⟨_, rfl⟩
  have c1 := fun W => rcut_64 x.toNat W x.isLt
  have c2 := fun W => rcut_64 y.toNat W y.isLt
  have s1 := fun W => rsign_64 x.toNat W x.isLt
  have s2 := fun W => rsign_64 y.toNat W y.isLt
  rw [cut64_eq] at c1 c2
  rw [sg64_eq] at s1 s2
  rw [← hZ]
  have hN : (y.toNat : Int) % 64 = ((y.toNat % 64 : Nat) : Int) := by omega
  obtain ⟨N, hN2⟩ : ∃ N, N = y.toNat % 64 := ⟨_, rfl⟩
  rw [← hN2] at hN
  have hNl : N < 64 := by omega
  have hZ2 : Z = (x - x.sdiv y * y).toNat := hZ
  clear hZ
  have z1 := fun W => rsize_k x.toNat W x.isLt
  have z2 := fun W => rsize_k y.toNat W y.isLt
  rw [absB_toNat] at z1 z2
  have hb0 : (absB y).toNat ≠ 0 := fun e => hy (by have e2 : absB y = 0 := BitVec.eq_of_toNat_eq (by simpa using e); unfold absB at e2; split at e2; (exact BitVec.neg_eq_zero_iff.1 e2); exact e2)
  have dv := fun W => rdivide_k (absB x).toNat (absB y).toNat W (absB x).isLt (by omega) (absB y).isLt
  rw [← BitVec.toNat_udiv] at dv
  have hsd := sdiv_abs x y
  have n1 := w_neg (absB x / absB y)
  have m1 := w_mul (x.sdiv y) y
  have m2 := w_sub x (x.sdiv y * y)
  rw [← hZ2] at m2
  generalize absB x = PA at *
  generalize absB y = PB at *
  have Z1 := Lib.hid z1
  have Z2 := Lib.hid z2
  have DV := Lib.hid dv
  clear z1 z2 dv hb0 hy
  have C1 := Lib.hid c1
  have C2 := Lib.hid c2
  have S1 := Lib.hid s1
  have S2 := Lib.hid s2
  clear c1 c2 s1 s2 hNl hN2
  have ha := x.isLt
  have hb := y.isLt
  have hma : x.msb = decide (9223372036854775808 ≤ x.toNat) := by rw [BitVec.msb_eq_decide]
  have hmb : y.msb = decide (9223372036854775808 ≤ y.toNat) := by rw [BitVec.msb_eq_decide]
  by_cases ka : 9223372036854775808 ≤ x.toNat <;> by_cases kb : 9223372036854775808 ≤ y.toNat
  · rw [decide_eq_true ka] at hma
    rw [decide_eq_true kb] at hmb
    rw [hma, hmb, if_pos rfl] at hsd
    have t1 : (x.toNat : Int) / 9223372036854775808 = 1 := by omega
    have t2 : (y.toNat : Int) / 9223372036854775808 = 1 := by omega
    rw [hsd] at m1 m2
    clear hsd hZ2
    generalize PA / PB = D at *
    generalize D * y = E at *
    clear ha hb hma hmb ka kb
    go_enter Tryd.func37, Tryd.ntmps37
    go_wp2_with (first | (go_at_call 33; (with_reducible refine (C1.out _).mono ?_); rintro e u ⟨rfl, rfl⟩) | (go_at_call 33; (with_reducible refine (C2.out _).mono ?_); rintro e u ⟨rfl, rfl⟩) | (go_at_call 35; (with_reducible refine (S1.out _).mono ?_); rintro e u ⟨rfl, rfl⟩) | (go_at_call 35; (with_reducible refine (S2.out _).mono ?_); rintro e u ⟨rfl, rfl⟩) | (go_at_call 44; (with_reducible refine (Z1.out _).mono ?_); rintro e u ⟨rfl, rfl⟩) | (go_at_call 44; (with_reducible refine (Z2.out _).mono ?_); rintro e u ⟨rfl, rfl⟩) | (go_at_call 43; (with_reducible refine (DV.out _).mono ?_); rintro e u ⟨rfl, rfl⟩))
    go_ret
    exact ⟨rfl, rfl⟩
  · rw [decide_eq_true ka] at hma
    rw [decide_eq_false kb] at hmb
    rw [hma, hmb, if_neg (by decide)] at hsd
    have t1 : (x.toNat : Int) / 9223372036854775808 = 1 := by omega
    have t2 : (y.toNat : Int) / 9223372036854775808 = 0 := by omega
    rw [hsd] at m1 m2
    clear hsd hZ2
    generalize PA / PB = D at *
    generalize -D * y = E at *
    generalize -D = D2 at *
    clear ha hb hma hmb ka kb
    go_enter Tryd.func37, Tryd.ntmps37
    go_wp2_with (first | (go_at_call 33; (with_reducible refine (C1.out _).mono ?_); rintro e u ⟨rfl, rfl⟩) | (go_at_call 33; (with_reducible refine (C2.out _).mono ?_); rintro e u ⟨rfl, rfl⟩) | (go_at_call 35; (with_reducible refine (S1.out _).mono ?_); rintro e u ⟨rfl, rfl⟩) | (go_at_call 35; (with_reducible refine (S2.out _).mono ?_); rintro e u ⟨rfl, rfl⟩) | (go_at_call 44; (with_reducible refine (Z1.out _).mono ?_); rintro e u ⟨rfl, rfl⟩) | (go_at_call 44; (with_reducible refine (Z2.out _).mono ?_); rintro e u ⟨rfl, rfl⟩) | (go_at_call 43; (with_reducible refine (DV.out _).mono ?_); rintro e u ⟨rfl, rfl⟩))
    go_ret
    exact ⟨rfl, rfl⟩
  · rw [decide_eq_false ka] at hma
    rw [decide_eq_true kb] at hmb
    rw [hma, hmb, if_neg (by decide)] at hsd
    have t1 : (x.toNat : Int) / 9223372036854775808 = 0 := by omega
    have t2 : (y.toNat : Int) / 9223372036854775808 = 1 := by omega
    rw [hsd] at m1 m2
    clear hsd hZ2
    generalize PA / PB = D at *
    generalize -D * y = E at *
    generalize -D = D2 at *
    clear ha hb hma hmb ka kb
    go_enter Tryd.func37, Tryd.ntmps37
    go_wp2_with (first | (go_at_call 33; (with_reducible refine (C1.out _).mono ?_); rintro e u ⟨rfl, rfl⟩) | (go_at_call 33; (with_reducible refine (C2.out _).mono ?_); rintro e u ⟨rfl, rfl⟩) | (go_at_call 35; (with_reducible refine (S1.out _).mono ?_); rintro e u ⟨rfl, rfl⟩) | (go_at_call 35; (with_reducible refine (S2.out _).mono ?_); rintro e u ⟨rfl, rfl⟩) | (go_at_call 44; (with_reducible refine (Z1.out _).mono ?_); rintro e u ⟨rfl, rfl⟩) | (go_at_call 44; (with_reducible refine (Z2.out _).mono ?_); rintro e u ⟨rfl, rfl⟩) | (go_at_call 43; (with_reducible refine (DV.out _).mono ?_); rintro e u ⟨rfl, rfl⟩))
    go_ret
    exact ⟨rfl, rfl⟩
  · rw [decide_eq_false ka] at hma
    rw [decide_eq_false kb] at hmb
    rw [hma, hmb, if_pos rfl] at hsd
    have t1 : (x.toNat : Int) / 9223372036854775808 = 0 := by omega
    have t2 : (y.toNat : Int) / 9223372036854775808 = 0 := by omega
    rw [hsd] at m1 m2
    clear hsd hZ2
    generalize PA / PB = D at *
    generalize D * y = E at *
    clear ha hb hma hmb ka kb
    go_enter Tryd.func37, Tryd.ntmps37
    go_wp2_with (first | (go_at_call 33; (with_reducible refine (C1.out _).mono ?_); rintro e u ⟨rfl, rfl⟩) | (go_at_call 33; (with_reducible refine (C2.out _).mono ?_); rintro e u ⟨rfl, rfl⟩) | (go_at_call 35; (with_reducible refine (S1.out _).mono ?_); rintro e u ⟨rfl, rfl⟩) | (go_at_call 35; (with_reducible refine (S2.out _).mono ?_); rintro e u ⟨rfl, rfl⟩) | (go_at_call 44; (with_reducible refine (Z1.out _).mono ?_); rintro e u ⟨rfl, rfl⟩) | (go_at_call 44; (with_reducible refine (Z2.out _).mono ?_); rintro e u ⟨rfl, rfl⟩) | (go_at_call 43; (with_reducible refine (DV.out _).mono ?_); rintro e u ⟨rfl, rfl⟩))
    go_ret
    exact ⟨rfl, rfl⟩
set_option maxHeartbeats 1000000 in
theorem rar_64_6 (x y : B64) (w : World) (hy : y ≠ 0) : Calls Tryd.prog 37 #[.int .i64 6, .int .u64 (x.toNat : Int), .int .u64 (y.toNat : Int), .int .i64 64] w fun e w' => e = .returned (.int .u64 ((arB 64 6 x y x y).toNat : Int)) ∧ w' = w := by
  obtain ⟨Z, hZ⟩ : ∃ Z : Nat, Z = (arB 64 6 x y x y).toNat := ⟨_, rfl⟩
  have c1 := fun W => rcut_64 x.toNat W x.isLt
  have c2 := fun W => rcut_64 y.toNat W y.isLt
  have s1 := fun W => rsign_64 x.toNat W x.isLt
  have s2 := fun W => rsign_64 y.toNat W y.isLt
  rw [cut64_eq] at c1 c2
  rw [sg64_eq] at s1 s2
  rw [← hZ]
  have hN : (y.toNat : Int) % 64 = ((y.toNat % 64 : Nat) : Int) := by omega
  obtain ⟨N, hN2⟩ : ∃ N, N = y.toNat % 64 := ⟨_, rfl⟩
  rw [← hN2] at hN
  have hNl : N < 64 := by omega
  have hZ2 : Z = (x - x / y * y).toNat := hZ
  clear hZ
  have dv := fun W => rdivide_k x.toNat y.toNat W x.isLt (by have : y.toNat ≠ 0 := fun e => hy (BitVec.eq_of_toNat_eq (by simpa using e)); omega) y.isLt
  rw [← BitVec.toNat_udiv] at dv
  have f1 := w_mul (x / y) y
  have f2 := w_sub x (x / y * y)
  rw [← hZ2] at f2
  generalize x / y * y = E at *
  generalize x / y = D at *
  have DV := Lib.hid dv
  clear dv hy
  have C1 := Lib.hid c1
  have C2 := Lib.hid c2
  have S1 := Lib.hid s1
  have S2 := Lib.hid s2
  clear c1 c2 s1 s2 hNl hN2
  clear hZ2
  go_enter Tryd.func37, Tryd.ntmps37
  go_wp2_with (first | (go_at_call 33; (with_reducible refine (C1.out _).mono ?_); rintro e u ⟨rfl, rfl⟩) | (go_at_call 33; (with_reducible refine (C2.out _).mono ?_); rintro e u ⟨rfl, rfl⟩) | (go_at_call 35; (with_reducible refine (S1.out _).mono ?_); rintro e u ⟨rfl, rfl⟩) | (go_at_call 35; (with_reducible refine (S2.out _).mono ?_); rintro e u ⟨rfl, rfl⟩) | (go_at_call 43; (with_reducible refine (DV.out _).mono ?_); rintro e u ⟨rfl, rfl⟩))
  go_ret
  exact ⟨rfl, rfl⟩
set_option maxHeartbeats 1000000 in
theorem rar_64_7 (x y : B64) (w : World) : Calls Tryd.prog 37 #[.int .i64 7, .int .u64 (x.toNat : Int), .int .u64 (y.toNat : Int), .int .i64 64] w fun e w' => e = .returned (.int .u64 ((arB 64 7 x y x y).toNat : Int)) ∧ w' = w := by
  obtain ⟨Z, hZ⟩ : ∃ Z : Nat, Z = (arB 64 7 x y x y).toNat := ⟨_, rfl⟩
  have c1 := fun W => rcut_64 x.toNat W x.isLt
  have c2 := fun W => rcut_64 y.toNat W y.isLt
  have s1 := fun W => rsign_64 x.toNat W x.isLt
  have s2 := fun W => rsign_64 y.toNat W y.isLt
  rw [cut64_eq] at c1 c2
  rw [sg64_eq] at s1 s2
  rw [← hZ]
  have hN : (y.toNat : Int) % 64 = ((y.toNat % 64 : Nat) : Int) := by omega
  obtain ⟨N, hN2⟩ : ∃ N, N = y.toNat % 64 := ⟨_, rfl⟩
  rw [← hN2] at hN
  have hNl : N < 64 := by omega
  have hZ2 : Z = (x &&& y).toNat := hZ
  clear hZ
  have f1 := w_and x y
  rw [← hZ2] at f1
  have C1 := Lib.hid c1
  have C2 := Lib.hid c2
  have S1 := Lib.hid s1
  have S2 := Lib.hid s2
  clear c1 c2 s1 s2 hNl hN2
  clear hZ2
  go_enter Tryd.func37, Tryd.ntmps37
  go_wp2_with (first | (go_at_call 33; (with_reducible refine (C1.out _).mono ?_); rintro e u ⟨rfl, rfl⟩) | (go_at_call 33; (with_reducible refine (C2.out _).mono ?_); rintro e u ⟨rfl, rfl⟩) | (go_at_call 35; (with_reducible refine (S1.out _).mono ?_); rintro e u ⟨rfl, rfl⟩) | (go_at_call 35; (with_reducible refine (S2.out _).mono ?_); rintro e u ⟨rfl, rfl⟩))
  go_ret
  exact ⟨rfl, rfl⟩
set_option maxHeartbeats 1000000 in
theorem rar_64_8 (x y : B64) (w : World) : Calls Tryd.prog 37 #[.int .i64 8, .int .u64 (x.toNat : Int), .int .u64 (y.toNat : Int), .int .i64 64] w fun e w' => e = .returned (.int .u64 ((arB 64 8 x y x y).toNat : Int)) ∧ w' = w := by
  obtain ⟨Z, hZ⟩ : ∃ Z : Nat, Z = (arB 64 8 x y x y).toNat := ⟨_, rfl⟩
  have c1 := fun W => rcut_64 x.toNat W x.isLt
  have c2 := fun W => rcut_64 y.toNat W y.isLt
  have s1 := fun W => rsign_64 x.toNat W x.isLt
  have s2 := fun W => rsign_64 y.toNat W y.isLt
  rw [cut64_eq] at c1 c2
  rw [sg64_eq] at s1 s2
  rw [← hZ]
  have hN : (y.toNat : Int) % 64 = ((y.toNat % 64 : Nat) : Int) := by omega
  obtain ⟨N, hN2⟩ : ∃ N, N = y.toNat % 64 := ⟨_, rfl⟩
  rw [← hN2] at hN
  have hNl : N < 64 := by omega
  have hZ2 : Z = (x ||| y).toNat := hZ
  clear hZ
  have f1 := w_or x y
  rw [← hZ2] at f1
  have C1 := Lib.hid c1
  have C2 := Lib.hid c2
  have S1 := Lib.hid s1
  have S2 := Lib.hid s2
  clear c1 c2 s1 s2 hNl hN2
  clear hZ2
  go_enter Tryd.func37, Tryd.ntmps37
  go_wp2_with (first | (go_at_call 33; (with_reducible refine (C1.out _).mono ?_); rintro e u ⟨rfl, rfl⟩) | (go_at_call 33; (with_reducible refine (C2.out _).mono ?_); rintro e u ⟨rfl, rfl⟩) | (go_at_call 35; (with_reducible refine (S1.out _).mono ?_); rintro e u ⟨rfl, rfl⟩) | (go_at_call 35; (with_reducible refine (S2.out _).mono ?_); rintro e u ⟨rfl, rfl⟩))
  go_ret
  exact ⟨rfl, rfl⟩
set_option maxHeartbeats 1000000 in
theorem rar_64_9 (x y : B64) (w : World) : Calls Tryd.prog 37 #[.int .i64 9, .int .u64 (x.toNat : Int), .int .u64 (y.toNat : Int), .int .i64 64] w fun e w' => e = .returned (.int .u64 ((arB 64 9 x y x y).toNat : Int)) ∧ w' = w := by
  obtain ⟨Z, hZ⟩ : ∃ Z : Nat, Z = (arB 64 9 x y x y).toNat := ⟨_, rfl⟩
  have c1 := fun W => rcut_64 x.toNat W x.isLt
  have c2 := fun W => rcut_64 y.toNat W y.isLt
  have s1 := fun W => rsign_64 x.toNat W x.isLt
  have s2 := fun W => rsign_64 y.toNat W y.isLt
  rw [cut64_eq] at c1 c2
  rw [sg64_eq] at s1 s2
  rw [← hZ]
  have hN : (y.toNat : Int) % 64 = ((y.toNat % 64 : Nat) : Int) := by omega
  obtain ⟨N, hN2⟩ : ∃ N, N = y.toNat % 64 := ⟨_, rfl⟩
  rw [← hN2] at hN
  have hNl : N < 64 := by omega
  have hZ2 : Z = (x ^^^ y).toNat := hZ
  clear hZ
  have f1 := w_xor x y
  rw [← hZ2] at f1
  have C1 := Lib.hid c1
  have C2 := Lib.hid c2
  have S1 := Lib.hid s1
  have S2 := Lib.hid s2
  clear c1 c2 s1 s2 hNl hN2
  clear hZ2
  go_enter Tryd.func37, Tryd.ntmps37
  go_wp2_with (first | (go_at_call 33; (with_reducible refine (C1.out _).mono ?_); rintro e u ⟨rfl, rfl⟩) | (go_at_call 33; (with_reducible refine (C2.out _).mono ?_); rintro e u ⟨rfl, rfl⟩) | (go_at_call 35; (with_reducible refine (S1.out _).mono ?_); rintro e u ⟨rfl, rfl⟩) | (go_at_call 35; (with_reducible refine (S2.out _).mono ?_); rintro e u ⟨rfl, rfl⟩))
  go_ret
  exact ⟨rfl, rfl⟩
set_option maxHeartbeats 1000000 in
theorem rar_64_10 (x y : B64) (w : World) : Calls Tryd.prog 37 #[.int .i64 10, .int .u64 (x.toNat : Int), .int .u64 (y.toNat : Int), .int .i64 64] w fun e w' => e = .returned (.int .u64 ((arB 64 10 x y x y).toNat : Int)) ∧ w' = w := by
  obtain ⟨Z, hZ⟩ : ∃ Z : Nat, Z = (arB 64 10 x y x y).toNat := ⟨_, rfl⟩
  have c1 := fun W => rcut_64 x.toNat W x.isLt
  have c2 := fun W => rcut_64 y.toNat W y.isLt
  have s1 := fun W => rsign_64 x.toNat W x.isLt
  have s2 := fun W => rsign_64 y.toNat W y.isLt
  rw [cut64_eq] at c1 c2
  rw [sg64_eq] at s1 s2
  rw [← hZ]
  have hN : (y.toNat : Int) % 64 = ((y.toNat % 64 : Nat) : Int) := by omega
  obtain ⟨N, hN2⟩ : ∃ N, N = y.toNat % 64 := ⟨_, rfl⟩
  rw [← hN2] at hN
  have hNl : N < 64 := by omega
  have hZ2 : Z = (x <<< N).toNat := by rw [hZ, hN2]; rfl
  clear hZ
  have f1 := w_shl x N
  rw [← hZ2] at f1
  have C1 := Lib.hid c1
  have C2 := Lib.hid c2
  have S1 := Lib.hid s1
  have S2 := Lib.hid s2
  clear c1 c2 s1 s2 hNl hN2
  clear hZ2
  go_enter Tryd.func37, Tryd.ntmps37
  go_wp2_with (first | (go_at_call 33; (with_reducible refine (C1.out _).mono ?_); rintro e u ⟨rfl, rfl⟩) | (go_at_call 33; (with_reducible refine (C2.out _).mono ?_); rintro e u ⟨rfl, rfl⟩) | (go_at_call 35; (with_reducible refine (S1.out _).mono ?_); rintro e u ⟨rfl, rfl⟩) | (go_at_call 35; (with_reducible refine (S2.out _).mono ?_); rintro e u ⟨rfl, rfl⟩))
  go_ret
  exact ⟨rfl, rfl⟩
set_option maxHeartbeats 1000000 in
theorem rar_64_11 (x y : B64) (w : World) : Calls Tryd.prog 37 #[.int .i64 11, .int .u64 (x.toNat : Int), .int .u64 (y.toNat : Int), .int .i64 64] w fun e w' => e = .returned (.int .u64 ((arB 64 11 x y x y).toNat : Int)) ∧ w' = w := by
  obtain ⟨Z, hZ⟩ : ∃ Z : Nat, Z = (arB 64 11 x y x y).toNat := ⟨_, rfl⟩
  have c1 := fun W => rcut_64 x.toNat W x.isLt
  have c2 := fun W => rcut_64 y.toNat W y.isLt
  have s1 := fun W => rsign_64 x.toNat W x.isLt
  have s2 := fun W => rsign_64 y.toNat W y.isLt
  rw [cut64_eq] at c1 c2
  rw [sg64_eq] at s1 s2
  rw [← hZ]
  have hN : (y.toNat : Int) % 64 = ((y.toNat % 64 : Nat) : Int) := by omega
  obtain ⟨N, hN2⟩ : ∃ N, N = y.toNat % 64 := ⟨_, rfl⟩
  rw [← hN2] at hN
  have hNl : N < 64 := by omega
  have hZ2 : Z = (x >>> N ||| fillB x N).toNat := by rw [hZ, hN2]; rfl
  clear hZ
  have f1 := w_shr x N
  have f2 := w_or (x >>> N) (fillB x N)
  rw [← hZ2] at f2
  obtain ⟨s, hs⟩ : ∃ s, s = x.toNat / 9223372036854775808 := ⟨_, rfl⟩
  have f3 : (x.toNat : Int) / 9223372036854775808 = (s : Int) := by omega
  have hs2 : s < 2 := by have := x.isLt; omega
  have fl := fun W => rfill_k s N W hs2 (by omega)
  have hfb : ((fillN s N : Nat) : Int) = ((fillB x N).toNat : Int) := by unfold fillB; rw [← hs, BitVec.toNat_ofNat, Nat.mod_eq_of_lt (fill_lt _ _)]
  rw [hfb] at fl
  generalize fillB x N = G at *
  generalize x >>> N = H at *
  have FL := Lib.hid fl
  clear fl hfb hs hs2
  have C1 := Lib.hid c1
  have C2 := Lib.hid c2
  have S1 := Lib.hid s1
  have S2 := Lib.hid s2
  clear c1 c2 s1 s2 hNl hN2
  clear hZ2
  go_enter Tryd.func37, Tryd.ntmps37
  go_wp2_with (first | (go_at_call 33; (with_reducible refine (C1.out _).mono ?_); rintro e u ⟨rfl, rfl⟩) | (go_at_call 33; (with_reducible refine (C2.out _).mono ?_); rintro e u ⟨rfl, rfl⟩) | (go_at_call 35; (with_reducible refine (S1.out _).mono ?_); rintro e u ⟨rfl, rfl⟩) | (go_at_call 35; (with_reducible refine (S2.out _).mono ?_); rintro e u ⟨rfl, rfl⟩) | (go_at_call 45; (with_reducible refine (FL.out _).mono ?_); rintro e u ⟨rfl, rfl⟩))
  go_ret
  exact ⟨rfl, rfl⟩
set_option maxHeartbeats 1000000 in
theorem rar_64_12 (x y : B64) (w : World) : Calls Tryd.prog 37 #[.int .i64 12, .int .u64 (x.toNat : Int), .int .u64 (y.toNat : Int), .int .i64 64] w fun e w' => e = .returned (.int .u64 ((arB 64 12 x y x y).toNat : Int)) ∧ w' = w := by
  obtain ⟨Z, hZ⟩ : ∃ Z : Nat, Z = (arB 64 12 x y x y).toNat := ⟨_, rfl⟩
  have c1 := fun W => rcut_64 x.toNat W x.isLt
  have c2 := fun W => rcut_64 y.toNat W y.isLt
  have s1 := fun W => rsign_64 x.toNat W x.isLt
  have s2 := fun W => rsign_64 y.toNat W y.isLt
  rw [cut64_eq] at c1 c2
  rw [sg64_eq] at s1 s2
  rw [← hZ]
  have hN : (y.toNat : Int) % 64 = ((y.toNat % 64 : Nat) : Int) := by omega
  obtain ⟨N, hN2⟩ : ∃ N, N = y.toNat % 64 := ⟨_, rfl⟩
  rw [← hN2] at hN
  have hNl : N < 64 := by omega
  have hZ2 : Z = (x >>> N).toNat := by rw [hZ, hN2]; rfl
  clear hZ
  have f1 := w_shr x N
  rw [← hZ2] at f1
  have C1 := Lib.hid c1
  have C2 := Lib.hid c2
  have S1 := Lib.hid s1
  have S2 := Lib.hid s2
  clear c1 c2 s1 s2 hNl hN2
  clear hZ2
  go_enter Tryd.func37, Tryd.ntmps37
  go_wp2_with (first | (go_at_call 33; (with_reducible refine (C1.out _).mono ?_); rintro e u ⟨rfl, rfl⟩) | (go_at_call 33; (with_reducible refine (C2.out _).mono ?_); rintro e u ⟨rfl, rfl⟩) | (go_at_call 35; (with_reducible refine (S1.out _).mono ?_); rintro e u ⟨rfl, rfl⟩) | (go_at_call 35; (with_reducible refine (S2.out _).mono ?_); rintro e u ⟨rfl, rfl⟩))
  go_ret
  exact ⟨rfl, rfl⟩
set_option maxHeartbeats 1000000 in
theorem rar_64_13 (x y : B64) (w : World) : Calls Tryd.prog 37 #[.int .i64 13, .int .u64 (x.toNat : Int), .int .u64 (y.toNat : Int), .int .i64 64] w fun e w' => e = .returned (.int .u64 ((arB 64 13 x y x y).toNat : Int)) ∧ w' = w := by
  obtain ⟨Z, hZ⟩ : ∃ Z : Nat, Z = (arB 64 13 x y x y).toNat := ⟨_, rfl⟩
  have c1 := fun W => rcut_64 x.toNat W x.isLt
  have c2 := fun W => rcut_64 y.toNat W y.isLt
  have s1 := fun W => rsign_64 x.toNat W x.isLt
  have s2 := fun W => rsign_64 y.toNat W y.isLt
  rw [cut64_eq] at c1 c2
  rw [sg64_eq] at s1 s2
  rw [← hZ]
  have hN : (y.toNat : Int) % 64 = ((y.toNat % 64 : Nat) : Int) := by omega
  obtain ⟨N, hN2⟩ : ∃ N, N = y.toNat % 64 := ⟨_, rfl⟩
  rw [← hN2] at hN
  have hNl : N < 64 := by omega
  have hZ2 : Z = (x <<< N ||| x >>> (64 - N)).toNat := by rw [hZ, hN2]; rfl
  clear hZ
  have e0 : IntKind.u64.wrap (64 - (N : Int)) = ((64 - N : Nat) : Int) := by rw [IntWalk.u64_in _ (by omega)]; omega
  have f1 := w_shl x N
  have f2 := w_shr x (64 - N)
  have f3 := w_or (x <<< N) (x >>> (64 - N))
  rw [← hZ2] at f3
  generalize x <<< N = G at *
  generalize x >>> (64 - N) = H at *
  have hM : min (64 - N) 64 = 64 - N := Nat.min_eq_left (by omega)
  generalize 64 - N = M at *
  have C1 := Lib.hid c1
  have C2 := Lib.hid c2
  have S1 := Lib.hid s1
  have S2 := Lib.hid s2
  clear c1 c2 s1 s2 hNl hN2
  clear hZ2
  go_enter Tryd.func37, Tryd.ntmps37
  go_wp2_with (first | (go_at_call 33; (with_reducible refine (C1.out _).mono ?_); rintro e u ⟨rfl, rfl⟩) | (go_at_call 33; (with_reducible refine (C2.out _).mono ?_); rintro e u ⟨rfl, rfl⟩) | (go_at_call 35; (with_reducible refine (S1.out _).mono ?_); rintro e u ⟨rfl, rfl⟩) | (go_at_call 35; (with_reducible refine (S2.out _).mono ?_); rintro e u ⟨rfl, rfl⟩))
  go_ret
  exact ⟨rfl, rfl⟩
set_option maxHeartbeats 1000000 in
theorem rar_64_14 (x y : B64) (w : World) : Calls Tryd.prog 37 #[.int .i64 14, .int .u64 (x.toNat : Int), .int .u64 (y.toNat : Int), .int .i64 64] w fun e w' => e = .returned (.int .u64 ((arB 64 14 x y x y).toNat : Int)) ∧ w' = w := by
  obtain ⟨Z, hZ⟩ : ∃ Z : Nat, Z = (arB 64 14 x y x y).toNat := ⟨_, rfl⟩
  have c1 := fun W => rcut_64 x.toNat W x.isLt
  have c2 := fun W => rcut_64 y.toNat W y.isLt
  have s1 := fun W => rsign_64 x.toNat W x.isLt
  have s2 := fun W => rsign_64 y.toNat W y.isLt
  rw [cut64_eq] at c1 c2
  rw [sg64_eq] at s1 s2
  rw [← hZ]
  have hN : (y.toNat : Int) % 64 = ((y.toNat % 64 : Nat) : Int) := by omega
  obtain ⟨N, hN2⟩ : ∃ N, N = y.toNat % 64 := ⟨_, rfl⟩
  rw [← hN2] at hN
  have hNl : N < 64 := by omega
  have hZ2 : Z = (x >>> N ||| x <<< (64 - N)).toNat := by rw [hZ, hN2]; rfl
  clear hZ
  have e0 : IntKind.u64.wrap (64 - (N : Int)) = ((64 - N : Nat) : Int) := by rw [IntWalk.u64_in _ (by omega)]; omega
  have f1 := w_shl x (64 - N)
  have f2 := w_shr x N
  have f3 := w_or (x >>> N) (x <<< (64 - N))
  rw [← hZ2] at f3
  generalize x <<< (64 - N) = G at *
  generalize x >>> N = H at *
  have hM : min (64 - N) 64 = 64 - N := Nat.min_eq_left (by omega)
  generalize 64 - N = M at *
  have C1 := Lib.hid c1
  have C2 := Lib.hid c2
  have S1 := Lib.hid s1
  have S2 := Lib.hid s2
  clear c1 c2 s1 s2 hNl hN2
  clear hZ2
  go_enter Tryd.func37, Tryd.ntmps37
  go_wp2_with (first | (go_at_call 33; (with_reducible refine (C1.out _).mono ?_); rintro e u ⟨rfl, rfl⟩) | (go_at_call 33; (with_reducible refine (C2.out _).mono ?_); rintro e u ⟨rfl, rfl⟩) | (go_at_call 35; (with_reducible refine (S1.out _).mono ?_); rintro e u ⟨rfl, rfl⟩) | (go_at_call 35; (with_reducible refine (S2.out _).mono ?_); rintro e u ⟨rfl, rfl⟩))
  go_ret
  exact ⟨rfl, rfl⟩
end Go.Proofs.YtllffbdcpilioaaDoor
