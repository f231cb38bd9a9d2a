/-
  Texts Num, NumRF, NumOps, NumRA, NumBin, NumRW.
-/
import Derived.Test.YtmfmokblmipagaaGreatR06
import Derived.Laws.BitsAllLaws
set_option linter.unusedSimpArgs false
set_option linter.unusedVariables false
set_option maxHeartbeats 8000000
open Pl
section
namespace Go.Proofs.YtmfmokblmipagaaGreat
open Go.RowKit Nm
end Go.Proofs.YtmfmokblmipagaaGreat
end
section
namespace Go.Proofs.YtmfmokblmipagaaGreat
open Go.RowKit Nm
theorem ret_q64 {a b : Int} (h : a = b) : Ending.returned (.int .u64 a) = .returned (.int .u64 b) := by rw [h]
theorem rcut_64 (x : Nat) (w : World) (hx : x < 18446744073709551616) : Calls Tryz.prog 123 #[.int .u64 (x : Int), .int .i64 64] w fun e w' => e = .returned (.int .u64 ((x % 18446744073709551616 : Nat) : Int)) ∧ w' = w := by
 go_enter Tryz.func123, Tryz.ntmps123
 go_wp2
 go_ret
 refine ⟨ret_q64 ?_, rfl⟩
 first | omega | (simp [IntKind.wrap_u64]; omega) | (rw [IntKind.wrap_u64]; omega)
def sg64 (x : Nat) : Nat := if x % 18446744073709551616 < 9223372036854775808 then x % 18446744073709551616 else x % 18446744073709551616 + 0
theorem rsign_64 (x : Nat) (w : World) (hx : x < 18446744073709551616) : Calls Tryz.prog 125 #[.int .u64 (x : Int), .int .i64 64] w fun e w' => e = .returned (.int .u64 ((sg64 x : Nat) : Int)) ∧ w' = w := by
 have HC := Lib.hid (fun W => rcut_64 x W hx)
 obtain ⟨c, hc⟩ : ∃ c, c = x % 18446744073709551616 := ⟨_, rfl⟩
 rw [← hc] at HC
 have hs : sg64 x = if c < 9223372036854775808 then c else c + 0 := by rw [hc]; rfl
 have hl : c < 18446744073709551616 := by omega
 rw [hs]
 clear hc hs
 by_cases h : c < 9223372036854775808
 ·rw [if_pos h]
  have e1 : (c : Int) / 9223372036854775808 = 0 := by omega
  go_enter Tryz.func125, Tryz.ntmps125
  go_wp2_with (go_at_call 123; (with_reducible refine (HC.out _).mono ?_); rintro e u ⟨rfl, rfl⟩)
  go_ret
  exact ⟨rfl, rfl⟩
 ·rw [if_neg h]
  have e1 : (c : Int) / 9223372036854775808 = 1 := by omega
  go_enter Tryz.func125, Tryz.ntmps125
  go_wp2_with (go_at_call 123; (with_reducible refine (HC.out _).mono ?_); rintro e u ⟨rfl, rfl⟩)
  go_ret
  exact ⟨ret_q64 (by rfl), rfl⟩
def fillN (s n : Nat) : Nat := if s = 0 ∨ n = 0 then 0 else 18446744073709551616 - 2 ^ (64 - n)
theorem rfill_k (s n : Nat) (w : World) (hs : s < 2) (hn : n < 64) : Calls Tryz.prog 135 #[.int .u64 (s : Int), .int .u64 (n : Int)] w fun e w' => e = .returned (.int .u64 ((fillN s n : Nat) : Int)) ∧ w' = w := by
 unfold fillN
 by_cases h : s = 0 ∨ n = 0
 ·rw [if_pos h]
  rcases h with rfl | rfl
  ·go_enter Tryz.func135, Tryz.ntmps135
   go_wp2
   go_ret
   exact ⟨rfl, rfl⟩
  ·rcases (show s = 0 ∨ s = 1 by omega) with rfl | rfl
   all_goals
    go_enter Tryz.func135, Tryz.ntmps135
    go_wp2
    go_ret
    exact ⟨rfl, rfl⟩
 ·rw [if_neg h]
  obtain rfl : s = 1 := by omega
  have h1 : (2 : Nat) ^ (64 - n) ≤ 2 ^ 63 := Nat.pow_le_pow_right (by decide) (by omega)
  have h2 : 0 < (2 : Nat) ^ (64 - n) := Nat.two_pow_pos _
  have e0 : IntKind.u64.wrap (64 - (n : Int)) = ((64 - n : Nat) : Int) := by rw [IntWalk.u64_in _ (by omega)]; omega
  have e2 : ((n : Int) == 0) = false := beq_eq_false_iff_ne.2 (by omega)
  rw [show (2 : Nat) ^ 63 = 9223372036854775808 from rfl] at h1
  go_enter Tryz.func135, Tryz.ntmps135
  go_wp2
  go_ret
  refine ⟨ret_q64 ?_, rfl⟩
  rw [show (2 : Int) ^ (64 - n) = ((2 ^ (64 - n) : Nat) : Int) by simp]
  generalize 2 ^ (64 - n) = P at *
  simp only [IntKind.wrap_u64]
  omega
end Go.Proofs.YtmfmokblmipagaaGreat
end
section
namespace Go.Proofs.YtmfmokblmipagaaGreat
open Go.RowKit Nm
theorem n_shl {w : Nat} (x : BitVec w) (n : Nat) : ((x.toNat : Int) * 2 ^ n) % 2 ^ w = ((x <<< n).toNat : Int) := by
 rw [BitVec.toNat_shiftLeft, Nat.shiftLeft_eq]; simp
theorem n_shr {w : Nat} (x : BitVec w) (n : Nat) : (x.toNat : Int) / 2 ^ n = ((x >>> n).toNat : Int) := by
 rw [BitVec.toNat_ushiftRight, Nat.shiftRight_eq_div_pow]; simp
end Go.Proofs.YtmfmokblmipagaaGreat
end
section
namespace Go.Proofs.YtmfmokblmipagaaGreat
open Go.RowKit Nm
theorem sg64_eq (x : B64) : sg64 x.toNat = x.toNat := by
 have := x.isLt
 unfold sg64
 rw [Nat.mod_eq_of_lt (by omega)]; split <;> rfl
theorem cut64_eq (x : B64) : x.toNat % 18446744073709551616 = x.toNat := Nat.mod_eq_of_lt x.isLt
theorem w_add (a b : B64) : IntKind.u64.wrap ((a.toNat : Int) + (b.toNat : Int)) = ((a + b).toNat : Int) := by rw [IntKind.wrap_u64, BitVec.toNat_add]; omega
theorem w_mul (a b : B64) : IntKind.u64.wrap ((a.toNat : Int) * (b.toNat : Int)) = ((a * b).toNat : Int) := by rw [IntKind.wrap_u64, BitVec.toNat_mul, ← Int.natCast_mul]; simp
theorem w_and (a b : B64) : bits .and .u64 (a.toNat : Int) (b.toNat : Int) = ((a &&& b).toNat : Int) := by rw [u64_and_nat _ _ a.isLt b.isLt, BitVec.toNat_and]
theorem w_or (a b : B64) : bits .or .u64 (a.toNat : Int) (b.toNat : Int) = ((a ||| b).toNat : Int) := by rw [u64_or_nat _ _ a.isLt b.isLt, BitVec.toNat_or]
theorem w_xor (a b : B64) : bits .xor .u64 (a.toNat : Int) (b.toNat : Int) = ((a ^^^ b).toNat : Int) := by rw [u64_xor_nat _ _ a.isLt b.isLt, BitVec.toNat_xor]
theorem w_shl (a : B64) (n : Nat) : IntKind.u64.wrap ((a.toNat : Int) * 2 ^ n) = ((a <<< n).toNat : Int) := by rw [IntKind.wrap_u64]; exact n_shl a n
theorem w_shr (a : B64) (n : Nat) : (a.toNat : Int) / 2 ^ n = ((a >>> n).toNat : Int) := n_shr a n
def fillB (s : B64) (n : Nat) : B64 := BitVec.ofNat 64 (fillN (s.toNat / 9223372036854775808) n)
def arB (w : Nat) (k : Int) (ux uy sx sy : B64) : B64 :=
 if k = 0 then ux + uy else if k = 1 then ux - uy else if k = 2 then ux * uy else if k = 3 then sx.sdiv sy else if k = 4 then ux / uy
 else if k = 5 then sx - sx.sdiv sy * sy else if k = 6 then ux - ux / uy * uy else if k = 7 then ux &&& uy else if k = 8 then ux ||| uy else if k = 9 then ux ^^^ uy
 else if k = 10 then ux <<< (uy.toNat % w) else if k = 11 then sx >>> (uy.toNat % w) ||| fillB sx (uy.toNat % w) else if k = 12 then ux >>> (uy.toNat % w)
 else if k = 13 then ux <<< (uy.toNat % w) ||| ux >>> (w - uy.toNat % w) else ux >>> (uy.toNat % w) ||| ux <<< (w - uy.toNat % w)
theorem fill_lt (s n : Nat) : fillN s n < 18446744073709551616 := by
 unfold fillN
 split
 ·decide
 ·rename_i h
  have : 0 < 2 ^ (64 - n) := Nat.two_pow_pos _
  omega
theorem rar_64_0 (x y : B64) (w : World) : Calls Tryz.prog 127 #[.int .i64 0, .int .u64 (x.toNat : Int), .int .u64 (y.toNat : Int), .int .i64 64] w fun e w' => e = .returned (.int .u64 ((arB 64 0 x y x y).toNat : Int)) ∧ w' = w := by
 obtain ⟨Z, hZ⟩ : ∃ Z : Nat, Z = (arB 64 0 x y x y).toNat := ⟨_, rfl⟩
 have c1 := fun W => rcut_64 x.toNat W x.isLt
 have c2 := fun W => rcut_64 y.toNat W y.isLt
 have s1 := fun W => rsign_64 x.toNat W x.isLt
 have s2 := fun W => rsign_64 y.toNat W y.isLt
 rw [cut64_eq] at c1 c2
 rw [sg64_eq] at s1 s2
 rw [← hZ]
 have hN : (y.toNat : Int) % 64 = ((y.toNat % 64 : Nat) : Int) := by omega
 obtain ⟨N, hN2⟩ : ∃ N, N = y.toNat % 64 := ⟨_, rfl⟩
 rw [← hN2] at hN
 have hNl : N < 64 := by omega
 have hZ2 : Z = (x + y).toNat := hZ
 clear hZ
 have f1 := w_add x y
 rw [← hZ2] at f1
 have C1 := Lib.hid c1
 have C2 := Lib.hid c2
 have S1 := Lib.hid s1
 have S2 := Lib.hid s2
 clear c1 c2 s1 s2 hNl hN2
 clear hZ2
 go_enter Tryz.func127, Tryz.ntmps127
 go_wp2_with (first | (go_at_call 123; (with_reducible refine (C1.out _).mono ?_); rintro e u ⟨rfl, rfl⟩) | (go_at_call 123; (with_reducible refine (C2.out _).mono ?_); rintro e u ⟨rfl, rfl⟩) | (go_at_call 125; (with_reducible refine (S1.out _).mono ?_); rintro e u ⟨rfl, rfl⟩) | (go_at_call 125; (with_reducible refine (S2.out _).mono ?_); rintro e u ⟨rfl, rfl⟩))
 go_ret
 exact ⟨rfl, rfl⟩
theorem rar_64_2 (x y : B64) (w : World) : Calls Tryz.prog 127 #[.int .i64 2, .int .u64 (x.toNat : Int), .int .u64 (y.toNat : Int), .int .i64 64] w fun e w' => e = .returned (.int .u64 ((arB 64 2 x y x y).toNat : Int)) ∧ w' = w := by
 obtain ⟨Z, hZ⟩ : ∃ Z : Nat, Z = (arB 64 2 x y x y).toNat := ⟨_, rfl⟩
 have c1 := fun W => rcut_64 x.toNat W x.isLt
 have c2 := fun W => rcut_64 y.toNat W y.isLt
 have s1 := fun W => rsign_64 x.toNat W x.isLt
 have s2 := fun W => rsign_64 y.toNat W y.isLt
 rw [cut64_eq] at c1 c2
 rw [sg64_eq] at s1 s2
 rw [← hZ]
 have hN : (y.toNat : Int) % 64 = ((y.toNat % 64 : Nat) : Int) := by omega
 obtain ⟨N, hN2⟩ : ∃ N, N = y.toNat % 64 := ⟨_, rfl⟩
 rw [← hN2] at hN
 have hNl : N < 64 := by omega
 have hZ2 : Z = (x * y).toNat := hZ
 clear hZ
 have f1 := w_mul x y
 rw [← hZ2] at f1
 have C1 := Lib.hid c1
 have C2 := Lib.hid c2
 have S1 := Lib.hid s1
 have S2 := Lib.hid s2
 clear c1 c2 s1 s2 hNl hN2
 clear hZ2
 go_enter Tryz.func127, Tryz.ntmps127
 go_wp2_with (first | (go_at_call 123; (with_reducible refine (C1.out _).mono ?_); rintro e u ⟨rfl, rfl⟩) | (go_at_call 123; (with_reducible refine (C2.out _).mono ?_); rintro e u ⟨rfl, rfl⟩) | (go_at_call 125; (with_reducible refine (S1.out _).mono ?_); rintro e u ⟨rfl, rfl⟩) | (go_at_call 125; (with_reducible refine (S2.out _).mono ?_); rintro e u ⟨rfl, rfl⟩))
 go_ret
 exact ⟨rfl, rfl⟩
theorem rar_64_7 (x y : B64) (w : World) : Calls Tryz.prog 127 #[.int .i64 7, .int .u64 (x.toNat : Int), .int .u64 (y.toNat : Int), .int .i64 64] w fun e w' => e = .returned (.int .u64 ((arB 64 7 x y x y).toNat : Int)) ∧ w' = w := by
 obtain ⟨Z, hZ⟩ : ∃ Z : Nat, Z = (arB 64 7 x y x y).toNat := ⟨_, rfl⟩
 have c1 := fun W => rcut_64 x.toNat W x.isLt
 have c2 := fun W => rcut_64 y.toNat W y.isLt
 have s1 := fun W => rsign_64 x.toNat W x.isLt
 have s2 := fun W => rsign_64 y.toNat W y.isLt
 rw [cut64_eq] at c1 c2
 rw [sg64_eq] at s1 s2
 rw [← hZ]
 have hN : (y.toNat : Int) % 64 = ((y.toNat % 64 : Nat) : Int) := by omega
 obtain ⟨N, hN2⟩ : ∃ N, N = y.toNat % 64 := ⟨_, rfl⟩
 rw [← hN2] at hN
 have hNl : N < 64 := by omega
 have hZ2 : Z = (x &&& y).toNat := hZ
 clear hZ
 have f1 := w_and x y
 rw [← hZ2] at f1
 have C1 := Lib.hid c1
 have C2 := Lib.hid c2
 have S1 := Lib.hid s1
 have S2 := Lib.hid s2
 clear c1 c2 s1 s2 hNl hN2
 clear hZ2
 go_enter Tryz.func127, Tryz.ntmps127
 go_wp2_with (first | (go_at_call 123; (with_reducible refine (C1.out _).mono ?_); rintro e u ⟨rfl, rfl⟩) | (go_at_call 123; (with_reducible refine (C2.out _).mono ?_); rintro e u ⟨rfl, rfl⟩) | (go_at_call 125; (with_reducible refine (S1.out _).mono ?_); rintro e u ⟨rfl, rfl⟩) | (go_at_call 125; (with_reducible refine (S2.out _).mono ?_); rintro e u ⟨rfl, rfl⟩))
 go_ret
 exact ⟨rfl, rfl⟩
theorem rar_64_8 (x y : B64) (w : World) : Calls Tryz.prog 127 #[.int .i64 8, .int .u64 (x.toNat : Int), .int .u64 (y.toNat : Int), .int .i64 64] w fun e w' => e = .returned (.int .u64 ((arB 64 8 x y x y).toNat : Int)) ∧ w' = w := by
 obtain ⟨Z, hZ⟩ : ∃ Z : Nat, Z = (arB 64 8 x y x y).toNat := ⟨_, rfl⟩
 have c1 := fun W => rcut_64 x.toNat W x.isLt
 have c2 := fun W => rcut_64 y.toNat W y.isLt
 have s1 := fun W => rsign_64 x.toNat W x.isLt
 have s2 := fun W => rsign_64 y.toNat W y.isLt
 rw [cut64_eq] at c1 c2
 rw [sg64_eq] at s1 s2
 rw [← hZ]
 have hN : (y.toNat : Int) % 64 = ((y.toNat % 64 : Nat) : Int) := by omega
 obtain ⟨N, hN2⟩ : ∃ N, N = y.toNat % 64 := ⟨_, rfl⟩
 rw [← hN2] at hN
 have hNl : N < 64 := by omega
 have hZ2 : Z = (x ||| y).toNat := hZ
 clear hZ
 have f1 := w_or x y
 rw [← hZ2] at f1
 have C1 := Lib.hid c1
 have C2 := Lib.hid c2
 have S1 := Lib.hid s1
 have S2 := Lib.hid s2
 clear c1 c2 s1 s2 hNl hN2
 clear hZ2
 go_enter Tryz.func127, Tryz.ntmps127
 go_wp2_with (first | (go_at_call 123; (with_reducible refine (C1.out _).mono ?_); rintro e u ⟨rfl, rfl⟩) | (go_at_call 123; (with_reducible refine (C2.out _).mono ?_); rintro e u ⟨rfl, rfl⟩) | (go_at_call 125; (with_reducible refine (S1.out _).mono ?_); rintro e u ⟨rfl, rfl⟩) | (go_at_call 125; (with_reducible refine (S2.out _).mono ?_); rintro e u ⟨rfl, rfl⟩))
 go_ret
 exact ⟨rfl, rfl⟩
theorem rar_64_9 (x y : B64) (w : World) : Calls Tryz.prog 127 #[.int .i64 9, .int .u64 (x.toNat : Int), .int .u64 (y.toNat : Int), .int .i64 64] w fun e w' => e = .returned (.int .u64 ((arB 64 9 x y x y).toNat : Int)) ∧ w' = w := by
 obtain ⟨Z, hZ⟩ : ∃ Z : Nat, Z = (arB 64 9 x y x y).toNat := ⟨_, rfl⟩
 have c1 := fun W => rcut_64 x.toNat W x.isLt
 have c2 := fun W => rcut_64 y.toNat W y.isLt
 have s1 := fun W => rsign_64 x.toNat W x.isLt
 have s2 := fun W => rsign_64 y.toNat W y.isLt
 rw [cut64_eq] at c1 c2
 rw [sg64_eq] at s1 s2
 rw [← hZ]
 have hN : (y.toNat : Int) % 64 = ((y.toNat % 64 : Nat) : Int) := by omega
 obtain ⟨N, hN2⟩ : ∃ N, N = y.toNat % 64 := ⟨_, rfl⟩
 rw [← hN2] at hN
 have hNl : N < 64 := by omega
 have hZ2 : Z = (x ^^^ y).toNat := hZ
 clear hZ
 have f1 := w_xor x y
 rw [← hZ2] at f1
 have C1 := Lib.hid c1
 have C2 := Lib.hid c2
 have S1 := Lib.hid s1
 have S2 := Lib.hid s2
 clear c1 c2 s1 s2 hNl hN2
 clear hZ2
 go_enter Tryz.func127, Tryz.ntmps127
 go_wp2_with (first | (go_at_call 123; (with_reducible refine (C1.out _).mono ?_); rintro e u ⟨rfl, rfl⟩) | (go_at_call 123; (with_reducible refine (C2.out _).mono ?_); rintro e u ⟨rfl, rfl⟩) | (go_at_call 125; (with_reducible refine (S1.out _).mono ?_); rintro e u ⟨rfl, rfl⟩) | (go_at_call 125; (with_reducible refine (S2.out _).mono ?_); rintro e u ⟨rfl, rfl⟩))
 go_ret
 exact ⟨rfl, rfl⟩
theorem rar_64_10 (x y : B64) (w : World) : Calls Tryz.prog 127 #[.int .i64 10, .int .u64 (x.toNat : Int), .int .u64 (y.toNat : Int), .int .i64 64] w fun e w' => e = .returned (.int .u64 ((arB 64 10 x y x y).toNat : Int)) ∧ w' = w := by
 obtain ⟨Z, hZ⟩ : ∃ Z : Nat, Z = (arB 64 10 x y x y).toNat := ⟨_, rfl⟩
 have c1 := fun W => rcut_64 x.toNat W x.isLt
 have c2 := fun W => rcut_64 y.toNat W y.isLt
 have s1 := fun W => rsign_64 x.toNat W x.isLt
 have s2 := fun W => rsign_64 y.toNat W y.isLt
 rw [cut64_eq] at c1 c2
 rw [sg64_eq] at s1 s2
 rw [← hZ]
 have hN : (y.toNat : Int) % 64 = ((y.toNat % 64 : Nat) : Int) := by omega
 obtain ⟨N, hN2⟩ : ∃ N, N = y.toNat % 64 := ⟨_, rfl⟩
 rw [← hN2] at hN
 have hNl : N < 64 := by omega
 have hZ2 : Z = (x <<< N).toNat := by rw [hZ, hN2]; rfl
 clear hZ
 have f1 := w_shl x N
 rw [← hZ2] at f1
 have C1 := Lib.hid c1
 have C2 := Lib.hid c2
 have S1 := Lib.hid s1
 have S2 := Lib.hid s2
 clear c1 c2 s1 s2 hNl hN2
 clear hZ2
 go_enter Tryz.func127, Tryz.ntmps127
 go_wp2_with (first | (go_at_call 123; (with_reducible refine (C1.out _).mono ?_); rintro e u ⟨rfl, rfl⟩) | (go_at_call 123; (with_reducible refine (C2.out _).mono ?_); rintro e u ⟨rfl, rfl⟩) | (go_at_call 125; (with_reducible refine (S1.out _).mono ?_); rintro e u ⟨rfl, rfl⟩) | (go_at_call 125; (with_reducible refine (S2.out _).mono ?_); rintro e u ⟨rfl, rfl⟩))
 go_ret
 exact ⟨rfl, rfl⟩
theorem rar_64_11 (x y : B64) (w : World) : Calls Tryz.prog 127 #[.int .i64 11, .int .u64 (x.toNat : Int), .int .u64 (y.toNat : Int), .int .i64 64] w fun e w' => e = .returned (.int .u64 ((arB 64 11 x y x y).toNat : Int)) ∧ w' = w := by
 obtain ⟨Z, hZ⟩ : ∃ Z : Nat, Z = (arB 64 11 x y x y).toNat := ⟨_, rfl⟩
 have c1 := fun W => rcut_64 x.toNat W x.isLt
 have c2 := fun W => rcut_64 y.toNat W y.isLt
 have s1 := fun W => rsign_64 x.toNat W x.isLt
 have s2 := fun W => rsign_64 y.toNat W y.isLt
 rw [cut64_eq] at c1 c2
 rw [sg64_eq] at s1 s2
 rw [← hZ]
 have hN : (y.toNat : Int) % 64 = ((y.toNat % 64 : Nat) : Int) := by omega
 obtain ⟨N, hN2⟩ : ∃ N, N = y.toNat % 64 := ⟨_, rfl⟩
 rw [← hN2] at hN
 have hNl : N < 64 := by omega
 have hZ2 : Z = (x >>> N ||| fillB x N).toNat := by rw [hZ, hN2]; rfl
 clear hZ
 have f1 := w_shr x N
 have f2 := w_or (x >>> N) (fillB x N)
 rw [← hZ2] at f2
 obtain ⟨s, hs⟩ : ∃ s, s = x.toNat / 9223372036854775808 := ⟨_, rfl⟩
 have f3 : (x.toNat : Int) / 9223372036854775808 = (s : Int) := by omega
 have hs2 : s < 2 := by have := x.isLt; omega
 have fl := fun W => rfill_k s N W hs2 (by omega)
 have hfb : ((fillN s N : Nat) : Int) = ((fillB x N).toNat : Int) := by unfold fillB; rw [← hs, BitVec.toNat_ofNat, Nat.mod_eq_of_lt (fill_lt _ _)]
 rw [hfb] at fl
 generalize fillB x N = G at *
 generalize x >>> N = H at *
 have FL := Lib.hid fl
 clear fl hfb hs hs2
 have C1 := Lib.hid c1
 have C2 := Lib.hid c2
 have S1 := Lib.hid s1
 have S2 := Lib.hid s2
 clear c1 c2 s1 s2 hNl hN2
 clear hZ2
 go_enter Tryz.func127, Tryz.ntmps127
 go_wp2_with (first | (go_at_call 123; (with_reducible refine (C1.out _).mono ?_); rintro e u ⟨rfl, rfl⟩) | (go_at_call 123; (with_reducible refine (C2.out _).mono ?_); rintro e u ⟨rfl, rfl⟩) | (go_at_call 125; (with_reducible refine (S1.out _).mono ?_); rintro e u ⟨rfl, rfl⟩) | (go_at_call 125; (with_reducible refine (S2.out _).mono ?_); rintro e u ⟨rfl, rfl⟩) | (go_at_call 135; (with_reducible refine (FL.out _).mono ?_); rintro e u ⟨rfl, rfl⟩))
 go_ret
 exact ⟨rfl, rfl⟩
theorem rar_64_12 (x y : B64) (w : World) : Calls Tryz.prog 127 #[.int .i64 12, .int .u64 (x.toNat : Int), .int .u64 (y.toNat : Int), .int .i64 64] w fun e w' => e = .returned (.int .u64 ((arB 64 12 x y x y).toNat : Int)) ∧ w' = w := by
 obtain ⟨Z, hZ⟩ : ∃ Z : Nat, Z = (arB 64 12 x y x y).toNat := ⟨_, rfl⟩
 have c1 := fun W => rcut_64 x.toNat W x.isLt
 have c2 := fun W => rcut_64 y.toNat W y.isLt
 have s1 := fun W => rsign_64 x.toNat W x.isLt
 have s2 := fun W => rsign_64 y.toNat W y.isLt
 rw [cut64_eq] at c1 c2
 rw [sg64_eq] at s1 s2
 rw [← hZ]
 have hN : (y.toNat : Int) % 64 = ((y.toNat % 64 : Nat) : Int) := by omega
 obtain ⟨N, hN2⟩ : ∃ N, N = y.toNat % 64 := ⟨_, rfl⟩
 rw [← hN2] at hN
 have hNl : N < 64 := by omega
 have hZ2 : Z = (x >>> N).toNat := by rw [hZ, hN2]; rfl
 clear hZ
 have f1 := w_shr x N
 rw [← hZ2] at f1
 have C1 := Lib.hid c1
 have C2 := Lib.hid c2
 have S1 := Lib.hid s1
 have S2 := Lib.hid s2
 clear c1 c2 s1 s2 hNl hN2
 clear hZ2
 go_enter Tryz.func127, Tryz.ntmps127
 go_wp2_with (first | (go_at_call 123; (with_reducible refine (C1.out _).mono ?_); rintro e u ⟨rfl, rfl⟩) | (go_at_call 123; (with_reducible refine (C2.out _).mono ?_); rintro e u ⟨rfl, rfl⟩) | (go_at_call 125; (with_reducible refine (S1.out _).mono ?_); rintro e u ⟨rfl, rfl⟩) | (go_at_call 125; (with_reducible refine (S2.out _).mono ?_); rintro e u ⟨rfl, rfl⟩))
 go_ret
 exact ⟨rfl, rfl⟩
end Go.Proofs.YtmfmokblmipagaaGreat
end
section
namespace Go.Proofs.YtmfmokblmipagaaGreat
open Go.RowKit Nm
def arN (op : Int) : Int :=
 if op = 69 ∨ op = 80 ∨ 103 ≤ op ∧ op ≤ 105 ∨ 121 ≤ op ∧ op ≤ 123 ∨ op = 167 ∨ op = 172 ∨ op = 173 ∨ 192 ≤ op ∧ op ≤ 196 then 1
 else if 70 ≤ op ∧ op ≤ 79 ∨ 81 ≤ op ∧ op ≤ 90 ∨ 106 ≤ op ∧ op ≤ 120 ∨ 124 ≤ op ∧ op ≤ 138 then 2 else 0
theorem ret_ni64 {a b : Int} (h : a = b) : Ending.returned (.int .i64 a) = .returned (.int .i64 b) := by rw [h]
theorem ar_1 {op : Int} (h : op = 69 ∨ op = 80 ∨ 103 ≤ op ∧ op ≤ 105 ∨ 121 ≤ op ∧ op ≤ 123 ∨ op = 167 ∨ op = 172 ∨ op = 173 ∨ 192 ≤ op ∧ op ≤ 196) : 1 = arN op := by unfold arN; rw [if_pos h]
theorem ar_2 {op : Int} (h : 70 ≤ op ∧ op ≤ 79 ∨ 81 ≤ op ∧ op ≤ 90 ∨ 106 ≤ op ∧ op ≤ 120 ∨ 124 ≤ op ∧ op ≤ 138) : 2 = arN op := by unfold arN; rw [if_neg (by omega), if_pos h]
theorem ar_0 {op : Int} (h : ¬ (op = 69 ∨ op = 80 ∨ 103 ≤ op ∧ op ≤ 105 ∨ 121 ≤ op ∧ op ≤ 123 ∨ op = 167 ∨ op = 172 ∨ op = 173 ∨ 192 ≤ op ∧ op ≤ 196)) (h2 : ¬ (70 ≤ op ∧ op ≤ 79 ∨ 81 ≤ op ∧ op ≤ 90 ∨ 106 ≤ op ∧ op ≤ 120 ∨ 124 ≤ op ∧ op ≤ 138)) : 0 = arN op := by unfold arN; rw [if_neg h, if_neg h2]
end Go.Proofs.YtmfmokblmipagaaGreat
end
section
namespace Go.Proofs.YtmfmokblmipagaaGreat
open Go.RowKit Nm
theorem mod_sub_div {w : Nat} (x y : BitVec w) : x - x / y * y = x % y := by
 apply BitVec.eq_of_toNat_eq
 have h := Nat.div_add_mod x.toNat y.toNat
 have hx := x.isLt
 have hle : x.toNat / y.toNat * y.toNat ≤ x.toNat := Nat.div_mul_le_self _ _
 rw [BitVec.toNat_umod, BitVec.toNat_sub, BitVec.toNat_mul, BitVec.toNat_udiv, Nat.mod_eq_of_lt (Nat.lt_of_le_of_lt hle hx)]
 rw [Nat.mul_comm] at h
 have hm : x.toNat % y.toNat ≤ x.toNat := Nat.mod_le _ _
 generalize x.toNat / y.toNat * y.toNat = q at *
 rw [show 2 ^ w - q + x.toNat = 2 ^ w + x.toNat % y.toNat by omega, Nat.add_mod_left]
 exact Nat.mod_eq_of_lt (by omega)
theorem fillB_eq (x : B64) (n : Nat) (hn : n < 64) : fillB x n = if x >>> 63 = 1 ∧ 0 < n then BitVec.allOnes 64 <<< (64 - n) else 0 := by
 have hs : x >>> 63 = 1 ↔ x.toNat / 9223372036854775808 = 1 := by
  constructor
  ·intro h
   have := congrArg BitVec.toNat h
   rw [BitVec.toNat_ushiftRight, Nat.shiftRight_eq_div_pow] at this
   exact this
  ·intro h
   apply BitVec.eq_of_toNat_eq
   rw [BitVec.toNat_ushiftRight, Nat.shiftRight_eq_div_pow]
   exact h
 have hl : x.toNat / 9223372036854775808 < 2 := by have := x.isLt; omega
 unfold fillB fillN
 by_cases h : x.toNat / 9223372036854775808 = 0 ∨ n = 0
 ·rw [if_pos h, if_neg (by rw [hs]; omega)]; rfl
 ·rw [if_neg h, if_pos ⟨hs.2 (by omega), by omega⟩]
  apply BitVec.eq_of_toNat_eq
  have h1 : (2 : Nat) ^ (64 - n) ≤ 2 ^ 63 := Nat.pow_le_pow_right (by decide) (by omega)
  have h2 : 0 < (2 : Nat) ^ (64 - n) := Nat.two_pow_pos _
  rw [BitVec.toNat_ofNat, BitVec.toNat_shiftLeft, BitVec.toNat_allOnes, Nat.shiftLeft_eq, Nat.sub_mul, Nat.one_mul]
  have h3 : 2 ^ 64 * 2 ^ (64 - n) - 2 ^ (64 - n) = 2 ^ 64 * (2 ^ (64 - n) - 1) + (2 ^ 64 - 2 ^ (64 - n)) := by
   rw [Nat.mul_sub, Nat.mul_one]
   have h4 := Nat.mul_le_mul_left (2 ^ 64) h2
   have h5 : (2 : Nat) ^ 63 ≤ 2 ^ 64 := by decide
   omega
  rw [h3, Nat.mul_add_mod]
theorem sar64 (x : B64) (n : Nat) (hn : n < 64) : x >>> n ||| fillB x n = x.sshiftRight n := by
 rw [fillB_eq x n hn, sar_or x n hn]
theorem ror_eq {w : Nat} (hw : 0 < w) (x : BitVec w) (n : Nat) (hn : n < w) : x >>> n ||| x <<< (w - n) = rotl x ((w - n) % w) := by
 unfold rotl
 by_cases h : n = 0
 ·subst h
  have e1 : x <<< w = 0 := by
   apply BitVec.eq_of_toNat_eq
   rw [BitVec.toNat_shiftLeft, Nat.shiftLeft_eq]; simp
  have e2 : x >>> w = 0 := by
   apply BitVec.eq_of_toNat_eq
   rw [BitVec.toNat_ushiftRight, Nat.shiftRight_eq_div_pow, Nat.div_eq_of_lt x.isLt]; rfl
  rw [Nat.sub_zero, Nat.mod_self, Nat.sub_zero, e1, e2]
  simp
 ·rw [Nat.mod_eq_of_lt (show w - n < w by omega), show w - (w - n) = n by omega, BitVec.or_comm]
theorem ar_64 (k : Nat) (hk : k < 15) (x y : B64) (hy : ¬ (3 ≤ k ∧ k ≤ 6 ∧ y = 0)) (ho : ¬ (k = 3 ∧ x = BitVec.intMin 64 ∧ y = BitVec.allOnes 64)) : opB (k : Int) x y = (arB 64 (k : Int) x y x y, 0) := by
 have hn : y.toNat % 64 < 64 := Nat.mod_lt _ (by decide)
 unfold opB
 rw [if_neg (fun h => hy ⟨by omega, by omega, h.2.2⟩)]
 have hk2 : k = 0 ∨ k = 1 ∨ k = 2 ∨ k = 3 ∨ k = 4 ∨ k = 5 ∨ k = 6 ∨ k = 7 ∨ k = 8 ∨ k = 9 ∨ k = 10 ∨ k = 11 ∨ k = 12 ∨ k = 13 ∨ k = 14 := by omega
 rcases hk2 with rfl | rfl | rfl | rfl | rfl | rfl | rfl | rfl | rfl | rfl | rfl | rfl | rfl | rfl | rfl
 ·rfl
 ·rfl
 ·rfl
 ·show (if x = BitVec.intMin 64 ∧ y = BitVec.allOnes 64 then _ else _) = (x.sdiv y, 0)
  rw [if_neg (fun h => ho ⟨rfl, h⟩)]
 ·rfl
 ·show (x.srem y, (0 : Int)) = (x - x.sdiv y * y, 0)
  rw [srem_sub]
 ·show (x % y, (0 : Int)) = (x - x / y * y, 0)
  rw [mod_sub_div]
 ·rfl
 ·rfl
 ·rfl
 ·rfl
 ·show (x.sshiftRight _, (0 : Int)) = (x >>> (y.toNat % 64) ||| fillB x (y.toNat % 64), 0)
  rw [sar64 x _ hn]
 ·rfl
 ·rfl
 ·show (rotl x ((64 - y.toNat % 64) % 64), (0 : Int)) = (x >>> (y.toNat % 64) ||| x <<< (64 - y.toNat % 64), 0)
  rw [ror_eq (by decide) x _ hn]
end Go.Proofs.YtmfmokblmipagaaGreat
end
