/-
  Texts AriRU2, AriRS.
-/
import Derived.Test.YtcpfabkokgiepaaQ15
import Derived.Test.YtcpfabkokgiepaaQ33
set_option linter.unusedSimpArgs false
set_option linter.unusedVariables false
set_option maxHeartbeats 8000000
open Pl
section
namespace Go.Proofs.Ytcpfabkokgiepaa
open Go.RowKit Pl
set_option maxRecDepth 100000 in
theorem run_8_2 (v : Vec) (w : World) : Calls Try.prog 76 #[.int .i64 64866, .agg (mY v)] w fun e w' => e = .returned (.tuple #[.agg (mY (vu3 8 2 v)), .int .i64 0]) ∧ Below w.heap.size w w' := by
 have hs : HL w [(w.heap.size + 1, 0), (w.heap.size, v)] _ := HL.two w v 0
 rw [mU] at hs
 have T := Lib.hid (fun W => tY 64866 W (by decide))
 rw [show wF 64866 = 8 by decide] at T
 have K := Lib.hid (fun W => tE 64866 2 W (by decide) (by decide) (by decide))
 go_enter Try.func76, Try.ntmps76
 go_wp2_with (first | (go_at_call 85; (with_reducible refine (T.out _).mono ?_); rintro e u ⟨rfl, hb⟩; replace hs := hs.below hb; clear hb) | (go_at_call 86; (with_reducible refine (K.out _).mono ?_); rintro e u ⟨rfl, hb⟩; replace hs := hs.below hb; clear hb))
 rw [← mU]
 obtain ⟨O, W, hOO, hW, hA, hR, hO, hZ, nR, hWO⟩ := zH hs
 rw [← hOO]
 rw [← hW]
 clear hW hOO hs T K u
 go_loopw [9] (fun iv wr => ∃ i : Nat, i ≤ 16 ∧ iv = .int .i64 i ∧ St W O (mJ 0#128 8 (tC 8 2 v) i) wr) (fun iv _ => 16 - (intOf iv).toNat)
 case atStart => exact xE
 case round =>
  obtain ⟨i, hi, rfl, hs⟩ := hrel
  by_cases hlt : i < 16
  ·obtain ⟨x, hxx⟩ : ∃ x, x = mT v 8 i := ⟨_, rfl⟩
   have bx : x < 256 := hxx ▸ mL v 8 i
   have G := fun W => fC v i i W rfl hlt
   have S := fun W => uD v i i W rfl hlt
   rw [← hxx] at G S
   obtain ⟨s, hss⟩ : ∃ s, s = sgn 8 x := ⟨_, rfl⟩
   rw [← hss] at S
   have HG := Lib.hid G
   have HS := Lib.hid S
   clear G S
   obtain ⟨P, hP, hPX⟩ : ∃ P : Nat → Nat, Pop P ∧ tC 8 2 v i = P x := ⟨Go.Lib.onesCount, pop_ones, by rw [hxx]; rfl⟩
   obtain ⟨Z, hZe⟩ : ∃ Z, Z = P x := ⟨_, rfl⟩
   have HE := Lib.hid (pJ 8 (tC 8 2 v) 0#128 i Z (by rw [hPX, hZe]))
   have hz8 : Z ≤ 8 := hZe ▸ hP.le x bx
   have HZ2 := Lib.hid (show Z < 2 ^ 64 by omega)
   have HZE := Lib.hid hZe
   have BX := Lib.hid bx
   have q2 : IntKind.u64.wrap (-(x : Int)) = ((Pl.u64 (-(x : Int)) : Nat) : Int) := wrap_u64 _
   clear hPX hZe hss hxx bx
   go_wp2_with (first | (go_at_call 82; ((with_reducible refine (v6 _).mono ?_); rintro e w' ⟨rfl, rfl⟩)) | (with_reducible refine mG rfl _ rfl _ rfl _ (hs.kb.get hA (by omega)) ?_) | ((with_reducible refine tF ?_ _ rfl _ rfl _ (hs.kb.get hA (by omega)) ?_); (focus rfl)) | (with_reducible refine mG rfl _ rfl _ rfl _ hs.this ?_) | (go_at_call 74; (with_reducible refine (HG.out _).mono ?_); rintro e u ⟨rfl, hb⟩; replace hs := hs.below hb; clear hb) | (go_at_call 73; (with_reducible refine (HS.out _).mono ?_); rintro e u ⟨rfl, hb⟩; replace hs := hs.below hb; clear hb) | (go_at_call 68; (with_reducible refine (uA (mJ 0#128 8 (tC 8 2 v) i) _ _ i Z _ rfl rfl hlt HZ2.out).mono ?_); rintro e u ⟨rfl, hb⟩; replace hs := hs.below hb; clear hb) | (with_reducible refine mK rfl _ _ rfl O _ rfl rfl _ hs.this ?_; intro wq hq; replace hs := hs.sets hq; clear hq))
   go_loopw [10, 11] (fun xv nv wx => ∃ X N : Nat, xv = .int .u64 X ∧ nv = .int .u64 N ∧ X < 256 ∧ N + P X = Z ∧ St W O (mJ 0#128 8 (tC 8 2 v) i) wx) (fun xv _ _ => (intOf xv).toNat)
   case atStart => exact ⟨x, 0, rfl, rfl, BX.out, by rw [Nat.zero_add]; exact HZE.out.symm, hs⟩
   case round =>
    clear hs
    obtain ⟨X, N, rfl, rfl, hX, hN, hs⟩ := hrel
    by_cases h0 : 0 < X
    ·have hst := hP.st X hX
     have e1 : IntKind.u64.wrap ((N : Int) + (X : Int) % 2) = ((N + X % 2 : Nat) : Int) := by rw [IntWalk.u64_in _ (by omega)]; omega
     have HST := Lib.hid (show N + X % 2 + P (X / 2) = Z by omega)
     clear hst hN
     go_wp2_with fail
     go_roundw
     case rel => first | exact ⟨X / 2, N + X % 2, by go_num, by go_num, by omega, HST.out, hs⟩ | ((repeat apply Exists.intro); exact ⟨⟨X / 2, N + X % 2, by go_num, by go_num, by omega, HST.out, hs⟩, rfl⟩)
     case measure => exact xL
    ·obtain rfl : X = 0 := by omega
     rw [hP.z, Nat.add_zero] at hN
     subst hN
     go_wp2_with (first | (go_at_call 82; ((with_reducible refine (v6 _).mono ?_); rintro e w' ⟨rfl, rfl⟩)) | (with_reducible refine mG rfl _ rfl _ rfl _ (hs.kb.get hA (by omega)) ?_) | ((with_reducible refine tF ?_ _ rfl _ rfl _ (hs.kb.get hA (by omega)) ?_); (focus rfl)) | (with_reducible refine mG rfl _ rfl _ rfl _ hs.this ?_) | (go_at_call 74; (with_reducible refine (HG.out _).mono ?_); rintro e u ⟨rfl, hb⟩; replace hs := hs.below hb; clear hb) | (go_at_call 73; (with_reducible refine (HS.out _).mono ?_); rintro e u ⟨rfl, hb⟩; replace hs := hs.below hb; clear hb) | (go_at_call 68; (with_reducible refine (uA (mJ 0#128 8 (tC 8 2 v) i) _ _ i N _ rfl rfl hlt HZ2.out).mono ?_); rintro e u ⟨rfl, hb⟩; replace hs := hs.below hb; clear hb) | (with_reducible refine mK rfl _ _ rfl O _ rfl rfl _ hs.this ?_; intro wq hq; replace hs := hs.sets hq; clear hq))
     go_roundw
     case rel => exact xH
     case measure => exact xL
  ·obtain rfl : i = 16 := by omega
   have hR' := hs.kb.get hR (by omega)
   go_wp2_with (first | (go_at_call 82; ((with_reducible refine (v6 _).mono ?_); rintro e w' ⟨rfl, rfl⟩)) | (with_reducible refine mG rfl _ rfl _ rfl _ hs.this ?_) | (with_reducible refine mK rfl _ _ rfl (w.heap.size + 1) _ rfl rfl _ hR' ?_; intro wq hq))
   refine bodyPost_ret (mS rfl _ _ (w.heap.size + 1) _ _ rfl rfl hq.this) rfl ⟨?_, (hs.kb.to_below hZ hWO).trans (hq.below.mono (by omega))⟩
   exact congrArg (fun z => Ending.returned (.tuple #[.agg (mY z), .int .i64 0])) (rJ 8 (tC 8 2 v) v (by decide))
end Go.Proofs.Ytcpfabkokgiepaa
end
section
namespace Go.Proofs.Ytcpfabkokgiepaa
open Go.RowKit Pl
def shN (w k p x : Nat) : Nat := if k = 11 then u64 ((x : Int) * 2 ^ p) else if k = 12 then u64 (sgn w x / 2 ^ p) % 2 ^ w else u64 ((x : Int) / 2 ^ p)
theorem sh11 (p x : Nat) : IntKind.u64.wrap (((u64 ((x : Int) * 2 ^ p) : Nat) : Int) * 2) = ((u64 ((x : Int) * 2 ^ (p + 1)) : Nat) : Int) := by
 rw [wrap_u64, show ((x : Int) * 2 ^ (p + 1)) = (x : Int) * 2 ^ p * 2 by rw [Int.pow_succ, Int.mul_assoc]]
 generalize (x : Int) * 2 ^ p = z
 unfold u64; omega
theorem sh13 (p x : Nat) (hx : x < 2 ^ 64) : ((u64 ((x : Int) / 2 ^ p) : Nat) : Int) / 2 = ((u64 ((x : Int) / 2 ^ (p + 1)) : Nat) : Int) := by
 have e : ∀ q : Nat, u64 ((x : Int) / 2 ^ q) = x / 2 ^ q := fun q => by
  rw [show ((x : Int) / 2 ^ q) = ((x / 2 ^ q : Nat) : Int) by simp]
  have := Nat.div_le_self x (2 ^ q)
  generalize x / 2 ^ q = y at *
  unfold u64; omega
 rw [e, e, Nat.pow_succ, ← Nat.div_div_eq_div_mul]
 omega
theorem q_succ (S : Int) (t : Nat) : S / 2 ^ (t + 1) = S / 2 ^ t / 2 := by
 rw [Int.pow_succ, Int.ediv_ediv_of_nonneg (Int.le_of_lt (Int.pow_pos (by decide)))]
theorem q_pos (S H : Int) (t : Nat) (h0 : 0 ≤ S) (h1 : S < H) : 0 ≤ S / 2 ^ t ∧ S / 2 ^ t < H := by
 have hp : (0 : Int) < 2 ^ t := Int.pow_pos (by decide)
 refine ⟨Int.ediv_nonneg h0 (Int.le_of_lt hp), Int.lt_of_le_of_lt ?_ h1⟩
 exact Int.ediv_le_self _ h0
theorem q_neg (S H : Int) (t : Nat) (h0 : S < 0) (h1 : -H ≤ S) (hH : 0 ≤ H) : -H ≤ S / 2 ^ t ∧ S / 2 ^ t < 0 := by
 have hp : (0 : Int) < 2 ^ t := Int.pow_pos (by decide)
 refine ⟨Int.le_ediv_of_mul_le hp ?_, Int.ediv_neg_of_neg_of_pos h0 hp⟩
 have h2 : 0 ≤ H * (2 ^ t - 1) := Int.mul_nonneg hH (by omega)
 rw [Int.mul_sub, Int.mul_one] at h2
 rw [Int.neg_mul]
 omega
theorem sh12p_8 (x t : Nat) (hx : x < 256) (h0 : 0 ≤ sgn 8 x) : bits .or .u64 ((shN 8 12 t x / 2 : Nat) : Int) 0 = ((shN 8 12 (t + 1) x : Nat) : Int) ∧ shN 8 12 t x < 256 := by
 have hS : sgn 8 x < 128 := by unfold sgn; rw [show (2 : Nat) ^ (8 - 1) = 128 from rfl, show (2 : Int) ^ 8 = 256 from rfl]; split <;> omega
 obtain ⟨q1, q2⟩ := q_pos _ 128 t h0 hS
 have e := q_succ (sgn 8 x) t
 have a1 : shN 8 12 t x = u64 (sgn 8 x / 2 ^ t) % 2 ^ 8 := rfl
 have a2 : shN 8 12 (t + 1) x = u64 (sgn 8 x / 2 ^ (t + 1)) % 2 ^ 8 := rfl
 rw [e] at a2
 generalize sgn 8 x / 2 ^ t = Q at *
 rw [show (2 : Nat) ^ 8 = 256 from rfl] at a1 a2
 generalize shN 8 12 t x = X at *
 generalize shN 8 12 (t + 1) x = Y at *
 unfold u64 at a1 a2
 have hXY : X / 2 = Y := by omega
 have hb : X < 256 := by omega
 refine ⟨?_, hb⟩
 have := u64_or_nat (X / 2) 0 (by omega) (by decide)
 rw [Nat.or_zero, hXY] at this
 rw [hXY]
 exact this
theorem sh12n_8 (x t : Nat) (hx : x < 256) (h0 : sgn 8 x < 0) : bits .or .u64 ((shN 8 12 t x / 2 : Nat) : Int) 128 = ((shN 8 12 (t + 1) x : Nat) : Int) ∧ shN 8 12 t x < 256 := by
 have hS : -128 ≤ sgn 8 x := by unfold sgn; rw [show (2 : Nat) ^ (8 - 1) = 128 from rfl, show (2 : Int) ^ 8 = 256 from rfl]; split <;> omega
 obtain ⟨q1, q2⟩ := q_neg _ 128 t h0 hS (by decide)
 have e := q_succ (sgn 8 x) t
 have a1 : shN 8 12 t x = u64 (sgn 8 x / 2 ^ t) % 2 ^ 8 := rfl
 have a2 : shN 8 12 (t + 1) x = u64 (sgn 8 x / 2 ^ (t + 1)) % 2 ^ 8 := rfl
 rw [e] at a2
 generalize sgn 8 x / 2 ^ t = Q at *
 rw [show (2 : Nat) ^ 8 = 256 from rfl] at a1 a2
 generalize shN 8 12 t x = X at *
 generalize shN 8 12 (t + 1) x = Y at *
 unfold u64 at a1 a2
 have hXY : X / 2 + 128 = Y := by omega
 have hb : X < 256 := by omega
 refine ⟨?_, hb⟩
 have := u64_or_nat (X / 2) 128 (by omega) (by decide)
 have h2 := Nat.two_pow_add_eq_or_of_lt (i := 7) (b := X / 2) (by omega) 1
 rw [show (2 : Nat) ^ 7 * 1 = 128 from rfl] at h2
 rw [Nat.or_comm, ← h2, show 128 + X / 2 = Y by omega] at this
 exact this
theorem sh12p_16 (x t : Nat) (hx : x < 65536) (h0 : 0 ≤ sgn 16 x) : bits .or .u64 ((shN 16 12 t x / 2 : Nat) : Int) 0 = ((shN 16 12 (t + 1) x : Nat) : Int) ∧ shN 16 12 t x < 65536 := by
 have hS : sgn 16 x < 32768 := by unfold sgn; rw [show (2 : Nat) ^ (16 - 1) = 32768 from rfl, show (2 : Int) ^ 16 = 65536 from rfl]; split <;> omega
 obtain ⟨q1, q2⟩ := q_pos _ 32768 t h0 hS
 have e := q_succ (sgn 16 x) t
 have a1 : shN 16 12 t x = u64 (sgn 16 x / 2 ^ t) % 2 ^ 16 := rfl
 have a2 : shN 16 12 (t + 1) x = u64 (sgn 16 x / 2 ^ (t + 1)) % 2 ^ 16 := rfl
 rw [e] at a2
 generalize sgn 16 x / 2 ^ t = Q at *
 rw [show (2 : Nat) ^ 16 = 65536 from rfl] at a1 a2
 generalize shN 16 12 t x = X at *
 generalize shN 16 12 (t + 1) x = Y at *
 unfold u64 at a1 a2
 have hXY : X / 2 = Y := by omega
 have hb : X < 65536 := by omega
 refine ⟨?_, hb⟩
 have := u64_or_nat (X / 2) 0 (by omega) (by decide)
 rw [Nat.or_zero, hXY] at this
 rw [hXY]
 exact this
theorem sh12n_16 (x t : Nat) (hx : x < 65536) (h0 : sgn 16 x < 0) : bits .or .u64 ((shN 16 12 t x / 2 : Nat) : Int) 32768 = ((shN 16 12 (t + 1) x : Nat) : Int) ∧ shN 16 12 t x < 65536 := by
 have hS : -32768 ≤ sgn 16 x := by unfold sgn; rw [show (2 : Nat) ^ (16 - 1) = 32768 from rfl, show (2 : Int) ^ 16 = 65536 from rfl]; split <;> omega
 obtain ⟨q1, q2⟩ := q_neg _ 32768 t h0 hS (by decide)
 have e := q_succ (sgn 16 x) t
 have a1 : shN 16 12 t x = u64 (sgn 16 x / 2 ^ t) % 2 ^ 16 := rfl
 have a2 : shN 16 12 (t + 1) x = u64 (sgn 16 x / 2 ^ (t + 1)) % 2 ^ 16 := rfl
 rw [e] at a2
 generalize sgn 16 x / 2 ^ t = Q at *
 rw [show (2 : Nat) ^ 16 = 65536 from rfl] at a1 a2
 generalize shN 16 12 t x = X at *
 generalize shN 16 12 (t + 1) x = Y at *
 unfold u64 at a1 a2
 have hXY : X / 2 + 32768 = Y := by omega
 have hb : X < 65536 := by omega
 refine ⟨?_, hb⟩
 have := u64_or_nat (X / 2) 32768 (by omega) (by decide)
 have h2 := Nat.two_pow_add_eq_or_of_lt (i := 15) (b := X / 2) (by omega) 1
 rw [show (2 : Nat) ^ 15 * 1 = 32768 from rfl] at h2
 rw [Nat.or_comm, ← h2, show 32768 + X / 2 = Y by omega] at this
 exact this
theorem sh12p_32 (x t : Nat) (hx : x < 4294967296) (h0 : 0 ≤ sgn 32 x) : bits .or .u64 ((shN 32 12 t x / 2 : Nat) : Int) 0 = ((shN 32 12 (t + 1) x : Nat) : Int) ∧ shN 32 12 t x < 4294967296 := by
 have hS : sgn 32 x < 2147483648 := by unfold sgn; rw [show (2 : Nat) ^ (32 - 1) = 2147483648 from rfl, show (2 : Int) ^ 32 = 4294967296 from rfl]; split <;> omega
 obtain ⟨q1, q2⟩ := q_pos _ 2147483648 t h0 hS
 have e := q_succ (sgn 32 x) t
 have a1 : shN 32 12 t x = u64 (sgn 32 x / 2 ^ t) % 2 ^ 32 := rfl
 have a2 : shN 32 12 (t + 1) x = u64 (sgn 32 x / 2 ^ (t + 1)) % 2 ^ 32 := rfl
 rw [e] at a2
 generalize sgn 32 x / 2 ^ t = Q at *
 rw [show (2 : Nat) ^ 32 = 4294967296 from rfl] at a1 a2
 generalize shN 32 12 t x = X at *
 generalize shN 32 12 (t + 1) x = Y at *
 unfold u64 at a1 a2
 have hXY : X / 2 = Y := by omega
 have hb : X < 4294967296 := by omega
 refine ⟨?_, hb⟩
 have := u64_or_nat (X / 2) 0 (by omega) (by decide)
 rw [Nat.or_zero, hXY] at this
 rw [hXY]
 exact this
theorem sh12n_32 (x t : Nat) (hx : x < 4294967296) (h0 : sgn 32 x < 0) : bits .or .u64 ((shN 32 12 t x / 2 : Nat) : Int) 2147483648 = ((shN 32 12 (t + 1) x : Nat) : Int) ∧ shN 32 12 t x < 4294967296 := by
 have hS : -2147483648 ≤ sgn 32 x := by unfold sgn; rw [show (2 : Nat) ^ (32 - 1) = 2147483648 from rfl, show (2 : Int) ^ 32 = 4294967296 from rfl]; split <;> omega
 obtain ⟨q1, q2⟩ := q_neg _ 2147483648 t h0 hS (by decide)
 have e := q_succ (sgn 32 x) t
 have a1 : shN 32 12 t x = u64 (sgn 32 x / 2 ^ t) % 2 ^ 32 := rfl
 have a2 : shN 32 12 (t + 1) x = u64 (sgn 32 x / 2 ^ (t + 1)) % 2 ^ 32 := rfl
 rw [e] at a2
 generalize sgn 32 x / 2 ^ t = Q at *
 rw [show (2 : Nat) ^ 32 = 4294967296 from rfl] at a1 a2
 generalize shN 32 12 t x = X at *
 generalize shN 32 12 (t + 1) x = Y at *
 unfold u64 at a1 a2
 have hXY : X / 2 + 2147483648 = Y := by omega
 have hb : X < 4294967296 := by omega
 refine ⟨?_, hb⟩
 have := u64_or_nat (X / 2) 2147483648 (by omega) (by decide)
 have h2 := Nat.two_pow_add_eq_or_of_lt (i := 31) (b := X / 2) (by omega) 1
 rw [show (2 : Nat) ^ 31 * 1 = 2147483648 from rfl] at h2
 rw [Nat.or_comm, ← h2, show 2147483648 + X / 2 = Y by omega] at this
 exact this
theorem sh12p_64 (x t : Nat) (hx : x < 18446744073709551616) (h0 : 0 ≤ sgn 64 x) : bits .or .u64 ((shN 64 12 t x / 2 : Nat) : Int) 0 = ((shN 64 12 (t + 1) x : Nat) : Int) ∧ shN 64 12 t x < 18446744073709551616 := by
 have hS : sgn 64 x < 9223372036854775808 := by unfold sgn; rw [show (2 : Nat) ^ (64 - 1) = 9223372036854775808 from rfl, show (2 : Int) ^ 64 = 18446744073709551616 from rfl]; split <;> omega
 obtain ⟨q1, q2⟩ := q_pos _ 9223372036854775808 t h0 hS
 have e := q_succ (sgn 64 x) t
 have a1 : shN 64 12 t x = u64 (sgn 64 x / 2 ^ t) % 2 ^ 64 := rfl
 have a2 : shN 64 12 (t + 1) x = u64 (sgn 64 x / 2 ^ (t + 1)) % 2 ^ 64 := rfl
 rw [e] at a2
 generalize sgn 64 x / 2 ^ t = Q at *
 rw [show (2 : Nat) ^ 64 = 18446744073709551616 from rfl] at a1 a2
 generalize shN 64 12 t x = X at *
 generalize shN 64 12 (t + 1) x = Y at *
 unfold u64 at a1 a2
 have hXY : X / 2 = Y := by omega
 have hb : X < 18446744073709551616 := by omega
 refine ⟨?_, hb⟩
 have := u64_or_nat (X / 2) 0 (by omega) (by decide)
 rw [Nat.or_zero, hXY] at this
 rw [hXY]
 exact this
theorem sh12n_64 (x t : Nat) (hx : x < 18446744073709551616) (h0 : sgn 64 x < 0) : bits .or .u64 ((shN 64 12 t x / 2 : Nat) : Int) 9223372036854775808 = ((shN 64 12 (t + 1) x : Nat) : Int) ∧ shN 64 12 t x < 18446744073709551616 := by
 have hS : -9223372036854775808 ≤ sgn 64 x := by unfold sgn; rw [show (2 : Nat) ^ (64 - 1) = 9223372036854775808 from rfl, show (2 : Int) ^ 64 = 18446744073709551616 from rfl]; split <;> omega
 obtain ⟨q1, q2⟩ := q_neg _ 9223372036854775808 t h0 hS (by decide)
 have e := q_succ (sgn 64 x) t
 have a1 : shN 64 12 t x = u64 (sgn 64 x / 2 ^ t) % 2 ^ 64 := rfl
 have a2 : shN 64 12 (t + 1) x = u64 (sgn 64 x / 2 ^ (t + 1)) % 2 ^ 64 := rfl
 rw [e] at a2
 generalize sgn 64 x / 2 ^ t = Q at *
 rw [show (2 : Nat) ^ 64 = 18446744073709551616 from rfl] at a1 a2
 generalize shN 64 12 t x = X at *
 generalize shN 64 12 (t + 1) x = Y at *
 unfold u64 at a1 a2
 have hXY : X / 2 + 9223372036854775808 = Y := by omega
 have hb : X < 18446744073709551616 := by omega
 refine ⟨?_, hb⟩
 have := u64_or_nat (X / 2) 9223372036854775808 (by omega) (by decide)
 have h2 := Nat.two_pow_add_eq_or_of_lt (i := 63) (b := X / 2) (by omega) 1
 rw [show (2 : Nat) ^ 63 * 1 = 9223372036854775808 from rfl] at h2
 rw [Nat.or_comm, ← h2, show 9223372036854775808 + X / 2 = Y by omega] at this
 exact this
end Go.Proofs.Ytcpfabkokgiepaa
end
