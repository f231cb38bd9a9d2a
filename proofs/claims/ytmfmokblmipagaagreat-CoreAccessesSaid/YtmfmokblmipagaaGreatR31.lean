/-
  Texts Tb3, Tb4.
-/
import Derived.Test.YtmfmokblmipagaaGreatR30
set_option linter.unusedSimpArgs false
set_option linter.unusedVariables false
set_option maxHeartbeats 8000000
open Pl
section
namespace Go.Proofs.YtmfmokblmipagaaGreat
open Go.RowKit Pl
theorem acc_z (n op off : Nat) (x : BitVec 64) (β : Nat → Nat) (hop : ldC op ≠ 0) (hx : x.toNat < 4294967296) (ho : off < 4294967296) (hβ : ∀ i, i < n → β i < 256) (hin : x.toNat + off + ldC op ≤ n) :
 Acc n 0 [atc op off, numc 0] [x] β 0 [BitVec.ofNat 64 (loadN β (x.toNat + off) (ldC op)), 0] β := by
 have e := mod32 hx
 refine ⟨_, [0, 0, 0], Does.runs (Does.con (d_ld (V := []) hop (by omega) (by first | decide | simp) (by rw [e]; omega) hβ) (d_num (n := 0) (by first | decide | simp) (by simp))), rfl, rfl, rfl, rfl, fun _ => ?_⟩
 rw [e]
 rfl
theorem acc_spl (n op off R : Nat) (x : BitVec 64) (β : Nat → Nat) (hop : ldC op ≠ 0) (hR : R < 18446744073709551616) (hx : x.toNat < 4294967296) (ho : off < 4294967296) (hβ : ∀ i, i < n → β i < 256) (hin : x.toNat + off + ldC op ≤ n) :
 Acc n 1 (atc op off :: numc R :: opc 126 :: [setc 2, getc 2, getc 2]) [x] β 0 [BitVec.ofNat 64 (loadN β (x.toNat + off) (ldC op)) * BitVec.ofNat 64 R, BitVec.ofNat 64 (loadN β (x.toNat + off) (ldC op)) * BitVec.ofNat 64 R] β := by
 have e := mod32 hx
 refine ⟨_, [0, 0, _, 0], Does.runs (Does.con (d_ld (V := []) (L := [0, 0, 0, 0]) hop (by omega) (by first | decide | simp) (by rw [e]; omega) hβ) (Does.app (l1 := [_, _]) (d_nmul (by first | decide | simp) hR) (Does.con (d_set (by first | decide | simp) (by first | decide | simp)) (Does.con (d_get (a := 2) rfl (by first | decide | simp)) (d_get (a := 2) rfl (by first | decide | simp)))))), rfl, rfl, rfl, rfl, fun _ => ?_⟩
 rw [e]
 rfl
theorem acc_spl8 (n off : Nat) (x : BitVec 64) (β : Nat → Nat) (hx : x.toNat < 4294967296) (ho : off < 4294967296) (hβ : ∀ i, i < n → β i < 256) (hin : x.toNat + off + 8 ≤ n) :
 Acc n 1 (atc 41 off :: [setc 2, getc 2, getc 2]) [x] β 0 [BitVec.ofNat 64 (loadN β (x.toNat + off) 8), BitVec.ofNat 64 (loadN β (x.toNat + off) 8)] β := by
 have e := mod32 hx
 refine ⟨_, [0, 0, _, 0], Does.runs (Does.con (d_ld (op := 41) (V := []) (L := [0, 0, 0, 0]) (by first | decide | simp) (by omega) (by first | decide | simp) (by rw [e]; simp only [ldC]; simp; omega) hβ) (Does.con (d_set (V := []) (by first | decide | simp) (by first | decide | simp)) (Does.con (d_get (a := 2) rfl (by first | decide | simp)) (d_get (a := 2) rfl (by first | decide | simp))))), rfl, rfl, rfl, rfl, fun _ => ?_⟩
 rw [e]
 rfl
theorem acc_x (n k op off : Nat) (r : List Cel) (x : BitVec 64) (β : Nat → Nat) (hop : ldC op ≠ 0) (hx : x.toNat < 4294967296) (ho : off < 4294967296) (hin : ¬ x.toNat + off + ldC op ≤ n) (hk : k = 0 ∨ k = 1 ∨ k = 3) :
 Acc n k (atc op off :: r) [x] β 23 [] β := by
 have e := mod32 hx
 refine ⟨_, _, x_ld (V := []) r hop (by omega) (by first | decide | simp) (by rw [e]; omega), by simp, ?_, ?_, ?_, fun h => absurd h (by first | decide | simp)⟩ <;> rcases hk with rfl | rfl | rfl <;> rfl
theorem and_ones (y : BitVec 64) (W : Nat) (hW : W ≤ 64) : (y &&& BitVec.ofNat 64 (onesN W)).toNat = y.toNat % 2 ^ W := by
 rw [BitVec.toNat_and, BitVec.toNat_ofNat, Nat.mod_eq_of_lt (onesN_lt W hW)]
 unfold onesN
 exact Nat.and_two_pow_sub_one_eq_mod _ _
theorem low_lane (X w i : Nat) (hi : w * i + w ≤ 64) : getN (lowV X) w i = X / 2 ^ (w * i) % 2 ^ w := by
 have h := bitsAt_putAt_in 0 0 64 X (w * i) w (by first | decide | simp) hi
 rw [Nat.zero_add] at h
 exact h
theorem sar_lane (x : BitVec 64) (w i : Nat) (hw : 0 < w) (hi : w * i + w ≤ 64) : ((x <<< (64 - w - w * i)).sshiftRight (64 - w)).toNat = Pl.u64 (sgn w (x.toNat / 2 ^ (w * i) % 2 ^ w)) := by
 obtain ⟨X, hX⟩ : ∃ X, X = x.toNat := ⟨_, rfl⟩
 obtain ⟨y, hy⟩ : ∃ y, y = X / 2 ^ (w * i) % 2 ^ w := ⟨_, rfl⟩
 have hs : 2 ^ (w * i) * 2 ^ (64 - w - w * i) = 2 ^ (64 - w) := by rw [← Nat.pow_add]; congr 1; omega
 have hS : 2 ^ (64 - w) * 2 ^ w = 2 ^ 64 := by rw [← Nat.pow_add]; congr 1; omega
 have hwp : 2 ^ w = 2 * 2 ^ (w - 1) := by rw [Nat.mul_comm, ← Nat.pow_succ]; congr 1; omega
 have hylt : y < 2 ^ w := hy ▸ Nat.mod_lt _ (Nat.two_pow_pos _)
 have h1 := Nat.div_add_mod X (2 ^ (w * i))
 have h2 := Nat.div_add_mod (X / 2 ^ (w * i)) (2 ^ w)
 have h3 := Nat.mod_lt X (Nat.two_pow_pos (w * i))
 rw [← hy] at h2
 obtain ⟨c, hc⟩ : ∃ c, c = X / 2 ^ (w * i) / 2 ^ w := ⟨_, rfl⟩
 obtain ⟨a, ha⟩ : ∃ a, a = X % 2 ^ (w * i) := ⟨_, rfl⟩
 rw [← hc] at h2
 rw [← ha] at h1 h3
 rw [← h2] at h1
 have h4 : X * 2 ^ (64 - w - w * i) = 2 ^ 64 * c + (2 ^ (64 - w) * y + a * 2 ^ (64 - w - w * i)) := by
  rw [← h1, Nat.add_mul, Nat.mul_right_comm, hs, Nat.mul_add, ← Nat.mul_assoc, hS, Nat.add_assoc]
 have h5 : a * 2 ^ (64 - w - w * i) < 2 ^ (64 - w) := by
  rw [← hs]
  exact Nat.mul_lt_mul_of_pos_right h3 (Nat.two_pow_pos _)
 obtain ⟨r, hr⟩ : ∃ r, r = a * 2 ^ (64 - w - w * i) := ⟨_, rfl⟩
 rw [← hr] at h4 h5
 have h6 : 2 ^ (64 - w) * y + r < 2 ^ 64 := by
  have : 2 ^ (64 - w) * (y + 1) ≤ 2 ^ (64 - w) * 2 ^ w := Nat.mul_le_mul_left _ hylt
  rw [hS, Nat.mul_add, Nat.mul_one] at this
  omega
 have h7 : (x <<< (64 - w - w * i)).toNat = 2 ^ (64 - w) * y + r := by
  rw [BitVec.toNat_shiftLeft, Nat.shiftLeft_eq, ← hX, h4, Nat.mul_add_mod, Nat.mod_eq_of_lt h6]
 have h8 : (x <<< (64 - w - w * i)).toInt / ((2 ^ (64 - w) : Nat) : Int) = sgn w y := by
  have hp : (0 : Int) < ((2 ^ (64 - w) : Nat) : Int) := by exact_mod_cast Nat.two_pow_pos _
  have hS2 : 2 ^ (64 - w) * (2 * 2 ^ (w - 1)) = 2 ^ 64 := by rw [← hwp]; exact hS
  rw [BitVec.toInt_eq_toNat_cond, h7]
  unfold sgn
  by_cases hq : y < 2 ^ (w - 1)
  ·have : 2 ^ (64 - w) * (y + 1) ≤ 2 ^ (64 - w) * 2 ^ (w - 1) := Nat.mul_le_mul_left _ hq
   rw [Nat.mul_add, Nat.mul_one] at this
   rw [← Nat.mul_assoc, Nat.mul_comm (2 ^ (64 - w)) 2, Nat.mul_assoc] at hS2
   rw [if_pos hq, if_pos (by omega)]
   rw [← Int.natCast_ediv, Nat.mul_add_div (Nat.two_pow_pos _), Nat.div_eq_of_lt h5, Nat.add_zero]
  ·have : 2 ^ (64 - w) * 2 ^ (w - 1) ≤ 2 ^ (64 - w) * y := Nat.mul_le_mul_left _ (by omega)
   rw [← Nat.mul_assoc, Nat.mul_comm (2 ^ (64 - w)) 2, Nat.mul_assoc] at hS2
   rw [if_neg hq, if_neg (by omega), ← hS]
   have e1 : ((2 ^ (64 - w) * y + r : Nat) : Int) - ((2 ^ (64 - w) * 2 ^ w : Nat) : Int) = (r : Int) + ((2 ^ (64 - w) : Nat) : Int) * ((y : Int) - 2 ^ w) := by
    push_cast
    rw [Int.mul_sub]
    omega
   rw [e1, Int.add_mul_ediv_left _ _ (by omega), ← Int.natCast_ediv, Nat.div_eq_of_lt h5]
   simp
 have h9 : ((x <<< (64 - w - w * i)).sshiftRight (64 - w)).toInt = sgn w y := by
  rw [BitVec.toInt_sshiftRight, Int.shiftRight_eq_div_pow, h8]
 rw [← hX, ← hy, ← h9]
 unfold Pl.u64
 have := BitVec.toInt_eq_toNat_cond ((x <<< (64 - w - w * i)).sshiftRight (64 - w))
 have hl := ((x <<< (64 - w - w * i)).sshiftRight (64 - w)).isLt
 rw [this]
 split <;> omega
theorem lane_nat (x : BitVec 64) (w i : Nat) (s : Bool) (hw : 0 < w) (hw2 : w ≤ 32) (hi : w * i + w ≤ 64) :
 (laneB x w i s &&& BitVec.ofNat 64 (onesN (2 * w))).toNat = (if s = true then Pl.u64 (sgn w (getN (lowV x.toNat) w i)) else getN (lowV x.toNat) w i) % 2 ^ (2 * w) := by
 rw [and_ones _ _ (by omega), low_lane _ _ _ hi]
 unfold laneB
 cases s with
 | true => simp only [if_true]; rw [sar_lane x w i hw hi]
 | false => simp only [Bool.false_eq_true, if_false]; rw [and_ones _ _ (by omega), BitVec.toNat_ushiftRight, Nat.shiftRight_eq_div_pow]
theorem accB_one (f : Nat → BitVec 64) (W : Nat) : accB f W 1 = f 0 := by simp [accB]
theorem accB_succ (f : Nat → BitVec 64) (W t : Nat) : accB f W (t + 1) = accB f W t ||| (f t <<< (W * t)) := rfl
theorem d_spread1 {N : Option Nat} {V L : List (BitVec 64)} {β : Nat → Nat} {w m : Nat} {s : Bool} {x : BitVec 64} (hw : w = 8 ∧ m = 4 ∨ w = 16 ∧ m = 2 ∨ w = 32 ∧ m = 1) (hx : L[2]? = some x) (hV : V.length ≤ 50) : ∀ j, j < m →
 Does N (spreadC 2 w s (j + 1)) ⟨V, L, β, 0⟩ ⟨V ++ [accB (fun i => laneB x w i s &&& BitVec.ofNat 64 (onesN (2 * w))) (2 * w) (j + 1)], L, β, 0⟩
 | 0, hj => by
   rw [accB_one, spreadC, spreadC, List.nil_append]
   have e : 0 % (32 / w) = 0 := Nat.zero_mod _
   rw [e]
   exact Does.app (d_lane hx (by omega) (by omega) (by omega)) (d_into0 (by omega) (by omega))
 | j + 1, hj => by
   rw [spreadC, accB_succ]
   have e : (j + 1) % (32 / w) = j + 1 := by
    refine Nat.mod_eq_of_lt ?_
    rcases hw with ⟨rfl, rfl⟩ | ⟨rfl, rfl⟩ | ⟨rfl, rfl⟩ <;> simp <;> omega
   rw [e]
   have hb : 2 * w * (j + 1) < 64 ∧ 2 * w < 64 ∧ w * (j + 1) + w ≤ 64 := by rcases hw with ⟨rfl, rfl⟩ | ⟨rfl, rfl⟩ | ⟨rfl, rfl⟩ <;> omega
   exact Does.app (d_spread1 hw hx hV j (by omega)) (Does.app (d_lane hx (by simp; omega) (by omega) hb.2.2) (d_into (by omega) (by omega) hb.1 hb.2.1))
theorem d_spread2 {N : Option Nat} {V L : List (BitVec 64)} {β : Nat → Nat} {w m : Nat} {s : Bool} {x : BitVec 64} (hw : w = 8 ∧ m = 4 ∨ w = 16 ∧ m = 2 ∨ w = 32 ∧ m = 1) (hx : L[2]? = some x) (hV : V.length ≤ 50) : ∀ j, j < m →
 Does N (spreadC 2 w s (m + j + 1)) ⟨V, L, β, 0⟩ ⟨V ++ [accB (fun i => laneB x w i s &&& BitVec.ofNat 64 (onesN (2 * w))) (2 * w) m] ++ [accB (fun i => laneB x w (m + i) s &&& BitVec.ofNat 64 (onesN (2 * w))) (2 * w) (j + 1)], L, β, 0⟩
 | 0, hj => by
   rw [accB_one, spreadC]
   simp only [Nat.add_zero]
   have e : m % (32 / w) = 0 := by rcases hw with ⟨rfl, rfl⟩ | ⟨rfl, rfl⟩ | ⟨rfl, rfl⟩ <;> rfl
   have h1 := d_spread1 (N := N) (V := V) (β := β) (s := s) hw hx hV (m - 1) (by omega)
   rw [show m - 1 + 1 = m by omega] at h1
   rw [e]
   have hb : w * m + w ≤ 64 := by rcases hw with ⟨rfl, rfl⟩ | ⟨rfl, rfl⟩ | ⟨rfl, rfl⟩ <;> omega
   exact Does.app h1 (Does.app (d_lane hx (by simp; omega) (by omega) hb) (d_into0 (by simp; omega) (by omega)))
 | j + 1, hj => by
   rw [show m + (j + 1) + 1 = m + j + 1 + 1 by omega, spreadC, accB_succ]
   have e : (m + j + 1) % (32 / w) = j + 1 := by
    have : m = 32 / w := by rcases hw with ⟨rfl, rfl⟩ | ⟨rfl, rfl⟩ | ⟨rfl, rfl⟩ <;> rfl
    rw [← this, Nat.add_assoc, Nat.add_mod_left]
    exact Nat.mod_eq_of_lt hj
   rw [e]
   have hb : 2 * w * (j + 1) < 64 ∧ 2 * w < 64 ∧ w * (m + j + 1) + w ≤ 64 := by rcases hw with ⟨rfl, rfl⟩ | ⟨rfl, rfl⟩ | ⟨rfl, rfl⟩ <;> omega
   exact Does.app (d_spread2 hw hx hV j (by omega)) (Does.app (d_lane hx (by simp; omega) (by omega) hb.2.2) (d_into (by simp; omega) (by omega) hb.1 hb.2.1))
theorem spread_half (X w m h : Nat) (s : Bool) (hw : w = 8 ∧ m = 4 ∨ w = 16 ∧ m = 2 ∨ w = 32 ∧ m = 1) (hX : X < 18446744073709551616) (hh : h < 2) :
 BitVec.ofNat 64 (getN (spreadV X w s) 64 h) = accB (fun i => laneB (BitVec.ofNat 64 X) w (h * m + i) s &&& BitVec.ofNat 64 (onesN (2 * w))) (2 * w) m := by
 apply BitVec.eq_of_toNat_eq
 have hW : 2 * w * m = 64 := by rcases hw with ⟨rfl, rfl⟩ | ⟨rfl, rfl⟩ | ⟨rfl, rfl⟩ <;> rfl
 have hx : (BitVec.ofNat 64 X).toNat = X := by rw [BitVec.toNat_ofNat]; exact Nat.mod_eq_of_lt hX
 rw [BitVec.toNat_ofNat, Nat.mod_eq_of_lt (half_lt _ _), half_sum _ (2 * w) m h hW, accB_sum _ _ _ (by omega) (fun i hi => by rw [and_ones _ _ (by omega)]; exact Nat.mod_lt _ (Nat.two_pow_pos _))]
 refine sumN_congr fun i hi => ?_
 have hj : h * m + i < 2 * m := by
  have : h * m ≤ 1 * m := Nat.mul_le_mul_right _ (by omega)
  omega
 have hl : 64 / w = 2 * m ∧ 2 * m ≤ 128 / (2 * w) := by rcases hw with ⟨rfl, rfl⟩ | ⟨rfl, rfl⟩ | ⟨rfl, rfl⟩ <;> decide
 have hb : w * (h * m + i) + w ≤ 64 := by
  have : w * (h * m + i + 1) ≤ w * (2 * m) := Nat.mul_le_mul_left _ hj
  rw [Nat.mul_add, Nat.mul_one, ← Nat.mul_assoc, Nat.mul_comm w 2, hW] at this
  exact this
 rw [lane_nat _ w _ s (by omega) (by omega) hb, hx]
 unfold spreadV
 rw [hl.1, getN_buildOn _ _ _ _ _ hl.2, if_pos hj]
theorem acc_spread (n off w m : Nat) (s : Bool) (x : BitVec 64) (β : Nat → Nat) (hw : w = 8 ∧ m = 4 ∨ w = 16 ∧ m = 2 ∨ w = 32 ∧ m = 1) (hx : x.toNat < 4294967296) (ho : off < 4294967296) (hβ : ∀ i, i < n → β i < 256) (hin : x.toNat + off + 8 ≤ n) :
 Acc n 1 (atc 41 off :: setc 2 :: spreadC 2 w s (2 * m)) [x] β 0 [BitVec.ofNat 64 (getN (spreadV (loadN β (x.toNat + off) 8) w s) 64 0), BitVec.ofNat 64 (getN (spreadV (loadN β (x.toNat + off) 8) w s) 64 1)] β := by
 have e := mod32 hx
 have hX : loadN β (x.toNat + off) 8 < 18446744073709551616 := loadN_lt β _ 8 fun i hi => hβ _ (by omega)
 have h2 := d_spread2 (N := some n) (V := []) (β := β) (s := s) (L := [0, 0, BitVec.ofNat 64 (loadN β (x.toNat + off) 8), 0]) hw rfl (by first | decide | simp) (m - 1) (by omega)
 rw [show m - 1 + 1 = m by omega, show m + (m - 1) + 1 = 2 * m by omega] at h2
 have hl := d_ld (n := n) (op := 41) (off := off) (V := []) (L := [0, 0, 0, 0]) (β := β) (x := x) (by first | decide | simp) (by omega) (by first | decide | simp) (by rw [e]; simp only [ldC]; simp; omega) hβ
 rw [e] at hl
 refine ⟨_, [0, 0, BitVec.ofNat 64 (loadN β (x.toNat + off) 8), 0], Does.runs (Does.con hl (Does.con (d_set (V := []) (by first | decide | simp) (by first | decide | simp)) h2)), rfl, rfl, rfl, rfl, fun _ => ?_⟩
 rw [spread_half _ w m 0 s hw hX (by first | decide | simp), spread_half _ w m 1 s hw hX (by first | decide | simp)]
 simp
end Go.Proofs.YtmfmokblmipagaaGreat
end
section
namespace Go.Proofs.YtmfmokblmipagaaGreat
open Go.RowKit Pl
theorem acc_0b (n off : Nat) (x : BitVec 64) (v : Vec) (β : Nat → Nat) (hx : x.toNat < 4294967296) (ho : off < 4294967296) (hin : x.toNat + off + 16 ≤ n) :
 Acc n 3 [setc 4, setc 3, setc 2, getc 2, getc 4, atc 55 (off + 8), getc 2, getc 3, atc 55 off] [x, BitVec.ofNat 64 (getN v 64 0), BitVec.ofNat 64 (getN v 64 1)] β 0 [] (storeN β (x.toNat + off) v.toNat 16) := by
 have e := mod32 hx
 have s1 := d_st (n := n) (op := 55) (off := off + 8) (V := []) (L := [0, 0, x, BitVec.ofNat 64 (getN v 64 0), BitVec.ofNat 64 (getN v 64 1), 0]) (β := β) (x := x) (y := BitVec.ofNat 64 (getN v 64 1)) (by first | decide | simp) (by omega) (by first | decide | simp) (by rw [e]; simp only [stC]; simp; omega)
 have s2 := d_st (n := n) (op := 55) (off := off) (V := []) (L := [0, 0, x, BitVec.ofNat 64 (getN v 64 0), BitVec.ofNat 64 (getN v 64 1), 0]) (β := storeN β (x.toNat + off + 8) (getN v 64 1) 8) (x := x) (y := BitVec.ofNat 64 (getN v 64 0)) (by first | decide | simp) (by omega) (by first | decide | simp) (by rw [e]; simp only [stC]; simp; omega)
 rw [e] at s1 s2
 rw [BitVec.toNat_ofNat, Nat.mod_eq_of_lt (half_lt v 1), show stC 55 = 8 from rfl, ← Nat.add_assoc] at s1
 rw [BitVec.toNat_ofNat, Nat.mod_eq_of_lt (half_lt v 0), show stC 55 = 8 from rfl, store16] at s2
 exact ⟨_, [0, 0, x, _, _, 0], Does.runs (Does.con (d_set (V := [x, _]) (L := [0, 0, 0, 0, 0, 0]) (by first | decide | simp) (by simp)) (Does.con (d_set (V := [x]) (by first | decide | simp) (by simp)) (Does.con (d_set (V := []) (by first | decide | simp) (by simp)) (Does.con (d_get (a := 2) rfl (by first | decide | simp)) (Does.con (d_get (a := 4) rfl (by first | decide | simp)) (Does.con s1 (Does.con (d_get (a := 2) rfl (by first | decide | simp)) (Does.con (d_get (a := 3) rfl (by first | decide | simp)) s2)))))))), rfl, rfl, rfl, rfl, fun _ => rfl⟩
theorem acc_0bx (n off : Nat) (x p q : BitVec 64) (β : Nat → Nat) (hx : x.toNat < 4294967296) (ho : off < 4294967296) (hin : ¬ x.toNat + off + 16 ≤ n) :
 Acc n 3 [setc 4, setc 3, setc 2, getc 2, getc 4, atc 55 (off + 8), getc 2, getc 3, atc 55 off] [x, p, q] β 23 [] β := by
 have e := mod32 hx
 have s1 := x_st (n := n) (op := 55) (off := off + 8) (V := []) (L := [0, 0, x, p, q, 0]) (β := β) (x := x) (y := q) [getc 2, getc 3, atc 55 off] (by first | decide | simp) (by omega) (by first | decide | simp) (by rw [e]; simp only [stC]; simp; omega)
 exact ⟨_, [0, 0, x, p, q, 0], Does.to (l := [_]) (d_set (V := [x, p]) (L := [0, 0, 0, 0, 0, 0]) (by first | decide | simp) (by simp)) (Does.to (l := [_]) (d_set (V := [x]) (by first | decide | simp) (by simp)) (Does.to (l := [_]) (d_set (V := []) (by first | decide | simp) (by simp)) (Does.to (l := [_]) (d_get (a := 2) rfl (by first | decide | simp)) (Does.to (l := [_]) (d_get (a := 4) rfl (by first | decide | simp)) s1)))), rfl, rfl, rfl, rfl, fun h => absurd h (by first | decide | simp)⟩
theorem mask_bit (n a j : Nat) (h : 8 * n * a + 8 * n ≤ 64) (hj : j < 64) : (maskN n a).testBit j = ! decide (8 * n * a ≤ j ∧ j < 8 * n * a + 8 * n) := by
 unfold maskN
 obtain ⟨y, hy⟩ : ∃ y, y = (2 ^ (8 * n) - 1) * 2 ^ (8 * n * a) := ⟨_, rfl⟩
 have hlt : y < 2 ^ 64 := by
  rw [hy]
  have h1 : (2 ^ (8 * n) - 1) * 2 ^ (8 * n * a) < 2 ^ (8 * n) * 2 ^ (8 * n * a) := Nat.mul_lt_mul_of_pos_right (by have := Nat.two_pow_pos (8 * n); omega) (Nat.two_pow_pos _)
  rw [← Nat.pow_add] at h1
  exact Nat.lt_of_lt_of_le h1 (Nat.pow_le_pow_right (by first | decide | simp) (by omega))
 have hb : y.testBit j = decide (8 * n * a ≤ j ∧ j < 8 * n * a + 8 * n) := by
  rw [hy, ← Nat.shiftLeft_eq, Nat.testBit_shiftLeft, Nat.testBit_two_pow_sub_one]
  by_cases c1 : 8 * n * a ≤ j <;> by_cases c2 : j < 8 * n * a + 8 * n <;> simp [c1, c2] <;> omega
 rw [← hy, show 18446744073709551615 - y = 2 ^ 64 - (y + 1) by omega, Nat.testBit_two_pow_sub_succ hlt, hb]
 simp [hj]
theorem getN_bit (v : Vec) (h j : Nat) : (getN v 64 h).testBit j = (decide (j < 64) && v.toNat.testBit (64 * h + j)) := testBit_bitsAt v _ _ j
theorem lane_half (v : Vec) (X n lo : Nat) (hn : n = 1 ∨ n = 2 ∨ n = 4 ∨ n = 8) (hl : lo < 16 / n) (hX : X < 2 ^ (8 * n)) (h : Nat) (hh : h < 2) :
 BitVec.ofNat 64 (getN (setN v (8 * n) lo X) 64 h) = if h = lo / (8 / n) then (BitVec.ofNat 64 X <<< (8 * n * (lo % (8 / n)))) ||| (BitVec.ofNat 64 (getN v 64 h) &&& BitVec.ofNat 64 (maskN n (lo % (8 / n)))) else BitVec.ofNat 64 (getN v 64 h) := by
 have hq : 8 * n * lo = 64 * (lo / (8 / n)) + 8 * n * (lo % (8 / n)) ∧ 8 * n * (lo % (8 / n)) + 8 * n ≤ 64 ∧ lo / (8 / n) < 2 := by
  rcases hn with rfl | rfl | rfl | rfl <;> simp only [Nat.reduceDiv, Nat.reduceMul] at hl ⊢ <;> omega
 obtain ⟨p, hp⟩ : ∃ p, p = lo / (8 / n) := ⟨_, rfl⟩
 obtain ⟨a, ha⟩ : ∃ a, a = lo % (8 / n) := ⟨_, rfl⟩
 rw [← hp, ← ha] at hq ⊢
 obtain ⟨q1, q2, q3⟩ := hq
 obtain ⟨W, hW⟩ : ∃ W, W = 8 * n := ⟨_, rfl⟩
 have hm := mask_bit n a
 rw [← hW] at q1 q2 hm hX ⊢
 obtain ⟨S, hS⟩ : ∃ S, S = W * a := ⟨_, rfl⟩
 rw [← hS] at q1 q2 hm ⊢
 apply BitVec.eq_of_getLsbD_eq
 intro j hj
 rw [BitVec.getLsbD_ofNat, getN_bit]
 unfold setN
 rw [q1, testBit_putAt _ _ _ _ _ (by omega)]
 by_cases hc : h = p
 ·subst hc
  rw [if_pos rfl, BitVec.getLsbD_or, BitVec.getLsbD_and, BitVec.getLsbD_shiftLeft, BitVec.getLsbD_ofNat, BitVec.getLsbD_ofNat, BitVec.getLsbD_ofNat, hm j q2 hj, getN_bit]
  by_cases c1 : S ≤ j
  ·by_cases c2 : j < S + W
   ·have e1 : 64 * h + j - (64 * h + S) = j - S := by omega
    simp [hj, c1, c2, e1, show 64 * h + S ≤ 64 * h + j by omega, show 64 * h + j < 64 * h + S + W by omega, show j - S < 64 by omega, show ¬ j < S by omega]
   ·have hz : X.testBit (j - S) = false := Nat.testBit_lt_two_pow (Nat.lt_of_lt_of_le hX (Nat.pow_le_pow_right (by first | decide | simp) (by omega)))
    simp [hj, c1, c2, hz, show ¬ 64 * h + j < 64 * h + S + W by omega]
  ·simp [hj, c1, show ¬ 64 * h + S ≤ 64 * h + j by omega, show j < S by omega]
 ·rw [if_neg hc, BitVec.getLsbD_ofNat, getN_bit]
  have : ¬ (64 * p + S ≤ 64 * h + j ∧ 64 * h + j < 64 * p + S + W) := by omega
  simp [hj, this]
theorem ldN_ops {n : Nat} (hn : n = 1 ∨ n = 2 ∨ n = 4 ∨ n = 8) : ldC (ldN n) = n ∧ stC (stN n) = n := by rcases hn with rfl | rfl | rfl | rfl <;> decide
theorem maskN_lt (n a : Nat) : maskN n a < 18446744073709551616 := by unfold maskN; omega
theorem acc_lane_ld (N n off lo : Nat) (x : BitVec 64) (v : Vec) (β : Nat → Nat) (hn : n = 1 ∨ n = 2 ∨ n = 4 ∨ n = 8) (hl : lo < 16 / n) (hx : x.toNat < 4294967296) (ho : off < 4294967296) (hβ : ∀ i, i < N → β i < 256) (hin : x.toNat + off + n ≤ N) :
 Acc N 3 (laneLdC n 2 off lo) [x, BitVec.ofNat 64 (getN v 64 0), BitVec.ofNat 64 (getN v 64 1)] β 0 [BitVec.ofNat 64 (getN (setN v (8 * n) lo (loadN β (x.toNat + off) n)) 64 0), BitVec.ofNat 64 (getN (setN v (8 * n) lo (loadN β (x.toNat + off) n)) 64 1)] β := by
 have e := mod32 hx
 obtain ⟨o1, o2⟩ := ldN_ops hn
 have hX : loadN β (x.toNat + off) n < 2 ^ (8 * n) := loadN_lt β _ n fun i hi => hβ _ (by omega)
 have hq : 8 * n * (lo % (8 / n)) < 64 ∧ lo / (8 / n) < 2 := by
  rcases hn with rfl | rfl | rfl | rfl <;> simp only [Nat.reduceDiv, Nat.reduceMul] at hl ⊢ <;> omega
 obtain ⟨X, hXX⟩ : ∃ X, X = loadN β (x.toNat + off) n := ⟨_, rfl⟩
 have l1 := lane_half v _ n lo hn hl hX
 rw [← hXX] at l1 hX ⊢
 rw [l1 0 (by first | decide | simp), l1 1 (by first | decide | simp)]
 clear l1
 obtain ⟨p, hp⟩ : ∃ p, p = BitVec.ofNat 64 (getN v 64 0) := ⟨_, rfl⟩
 obtain ⟨q, hqq⟩ : ∃ q, q = BitVec.ofNat 64 (getN v 64 1) := ⟨_, rfl⟩
 rw [← hp, ← hqq]
 have s1 := d_ld (n := N) (op := ldN n) (off := off) (V := []) (L := [0, 0, x, p, q, 0]) (β := β) (x := x) (by rw [o1]; omega) (by omega) (by first | decide | simp) (by rw [e, o1]; exact hin) hβ
 rw [e, o1, ← hXX] at s1
 unfold laneLdC
 obtain ⟨a, ha⟩ : ∃ a, a = lo % (8 / n) := ⟨_, rfl⟩
 rw [← ha] at hq ⊢
 have pre : Does (some N) [setc 4, setc 3, setc 2, getc 2] ⟨[x, p, q], [0, 0, 0, 0, 0, 0], β, 0⟩ ⟨[x], [0, 0, x, p, q, 0], β, 0⟩ :=
  Does.con (d_set (V := [x, p]) (L := [0, 0, 0, 0, 0, 0]) (by first | decide | simp) (by simp)) (Does.con (d_set (V := [x]) (by first | decide | simp) (by simp)) (Does.con (d_set (V := []) (by first | decide | simp) (by simp)) (d_get (a := 2) rfl (by first | decide | simp))))
 have h2 : lo / (8 / n) = 0 ∨ lo / (8 / n) = 1 := by
  generalize lo / (8 / n) = z at hq
  omega
 have mid : ∀ (i : Nat) (z : BitVec 64), [0, 0, x, p, q, (0 : BitVec 64)][i]? = some z → Does (some N) [numc (8 * n * a), opc 134, getc i, numc (maskN n a), opc 131, opc 132, setc i] ⟨[BitVec.ofNat 64 X], [0, 0, x, p, q, 0], β, 0⟩ ⟨[], [0, 0, x, p, q, (0 : BitVec 64)].set i ((BitVec.ofNat 64 X <<< (8 * n * a)) ||| (z &&& BitVec.ofNat 64 (maskN n a))), β, 0⟩ := fun i z hz =>
  Does.app (l1 := [_, _]) (d_nshl (V := []) (by first | decide | simp) hq.1) (Does.con (d_get (V := [_]) hz (by first | decide | simp)) (Does.app (l1 := [_, _]) (d_nand (V := [_]) (by first | decide | simp) (maskN_lt n a)) (Does.con (d_or (V := []) (by first | decide | simp)) (d_set (V := []) (List.getElem?_eq_some_iff.1 hz).1 (by first | decide | simp)))))
 rcases h2 with h2 | h2
 ·rw [h2]
  refine ⟨_, [0, 0, x, _, q, 0], Does.runs (Does.app (l1 := [_, _, _, _]) pre (Does.con s1 (Does.app (l1 := [_, _, _, _, _, _, _]) (mid 3 p rfl) (Does.con (d_get (a := 3) rfl (by first | decide | simp)) (d_get (a := 4) rfl (by first | decide | simp)))))), rfl, rfl, rfl, rfl, fun _ => rfl⟩
 ·rw [h2]
  refine ⟨_, [0, 0, x, p, _, 0], Does.runs (Does.app (l1 := [_, _, _, _]) pre (Does.con s1 (Does.app (l1 := [_, _, _, _, _, _, _]) (mid 4 q rfl) (Does.con (d_get (a := 3) rfl (by first | decide | simp)) (d_get (a := 4) rfl (by first | decide | simp)))))), rfl, rfl, rfl, rfl, fun _ => rfl⟩
theorem acc_lane_ldx (N n off lo : Nat) (x p q : BitVec 64) (β : Nat → Nat) (hn : n = 1 ∨ n = 2 ∨ n = 4 ∨ n = 8) (hx : x.toNat < 4294967296) (ho : off < 4294967296) (hin : ¬ x.toNat + off + n ≤ N) :
 Acc N 3 (laneLdC n 2 off lo) [x, p, q] β 23 [] β := by
 have e := mod32 hx
 obtain ⟨o1, o2⟩ := ldN_ops hn
 have s1 := x_ld (n := N) (op := ldN n) (off := off) (V := []) (L := [0, 0, x, p, q, 0]) (β := β) (x := x) [numc (8 * n * (lo % (8 / n))), opc 134, getc (2 + (1 + lo / (8 / n))), numc (maskN n (lo % (8 / n))), opc 131, opc 132, setc (2 + (1 + lo / (8 / n))), getc (2 + 1), getc (2 + 2)] (by rw [o1]; omega) (by omega) (by first | decide | simp) (by rw [e, o1]; exact hin)
 exact ⟨_, [0, 0, x, p, q, 0], Does.to (l := [_]) (d_set (V := [x, p]) (L := [0, 0, 0, 0, 0, 0]) (by first | decide | simp) (by simp)) (Does.to (l := [_]) (d_set (V := [x]) (by first | decide | simp) (by simp)) (Does.to (l := [_]) (d_set (V := []) (by first | decide | simp) (by simp)) (Does.to (l := [_]) (d_get (a := 2) rfl (by first | decide | simp)) s1))), rfl, rfl, rfl, rfl, fun h => absurd h (by first | decide | simp)⟩
theorem lane_of_half (v : Vec) (n lo : Nat) (hn : n = 1 ∨ n = 2 ∨ n = 4) (hl : lo < 16 / n) : (laneB (BitVec.ofNat 64 (getN v 64 (lo / (8 / n)))) (8 * n) (lo % (8 / n)) false).toNat = getN v (8 * n) lo := by
 have hq : 8 * n * lo = 64 * (lo / (8 / n)) + 8 * n * (lo % (8 / n)) ∧ 8 * n * (lo % (8 / n)) + 8 * n ≤ 64 := by
  rcases hn with rfl | rfl | rfl <;> simp only [Nat.reduceDiv, Nat.reduceMul] at hl ⊢ <;> omega
 unfold laneB
 rw [if_neg (by first | decide | simp), and_ones _ _ (by omega), BitVec.toNat_ushiftRight, BitVec.toNat_ofNat, Nat.mod_eq_of_lt (half_lt v _), Nat.shiftRight_eq_div_pow]
 unfold getN
 rw [hq.1]
 apply Nat.eq_of_testBit_eq
 intro j
 rw [testBit_bitsAt, Nat.testBit_mod_two_pow, Nat.testBit_div_two_pow, testBit_bitsAt]
 by_cases hj : j < 8 * n
 ·simp [hj, show j + 8 * n * (lo % (8 / n)) < 64 by omega, show 64 * (lo / (8 / n)) + (j + 8 * n * (lo % (8 / n))) = 64 * (lo / (8 / n)) + 8 * n * (lo % (8 / n)) + j by omega]
 ·simp [hj]
theorem half_local (x p q : BitVec 64) (v : Vec) (hp : p = BitVec.ofNat 64 (getN v 64 0)) (hq : q = BitVec.ofNat 64 (getN v 64 1)) (h : Nat) (hh : h < 2) : [0, 0, x, p, q, (0 : BitVec 64)][2 + (1 + h)]? = some (BitVec.ofNat 64 (getN v 64 h)) := by
 obtain rfl | rfl : h = 0 ∨ h = 1 := by omega
 ·rw [hp]; rfl
 ·rw [hq]; rfl
theorem acc_lane_st (N n off lo : Nat) (x : BitVec 64) (v : Vec) (β : Nat → Nat) (hn : n = 1 ∨ n = 2 ∨ n = 4 ∨ n = 8) (hl : lo < 16 / n) (hx : x.toNat < 4294967296) (ho : off < 4294967296) :
 (x.toNat + off + n ≤ N → Acc N 3 (laneStC n 2 off lo) [x, BitVec.ofNat 64 (getN v 64 0), BitVec.ofNat 64 (getN v 64 1)] β 0 [] (storeN β (x.toNat + off) (getN v (8 * n) lo) n)) ∧ (¬ x.toNat + off + n ≤ N → Acc N 3 (laneStC n 2 off lo) [x, BitVec.ofNat 64 (getN v 64 0), BitVec.ofNat 64 (getN v 64 1)] β 23 [] β) := by
 have e := mod32 hx
 obtain ⟨o1, o2⟩ := ldN_ops hn
 obtain ⟨p, hp⟩ : ∃ p, p = BitVec.ofNat 64 (getN v 64 0) := ⟨_, rfl⟩
 obtain ⟨q, hqq⟩ : ∃ q, q = BitVec.ofNat 64 (getN v 64 1) := ⟨_, rfl⟩
 have hh : lo / (8 / n) < 2 := by rcases hn with rfl | rfl | rfl | rfl <;> simp only [Nat.reduceDiv] at hl ⊢ <;> omega
 have hloc := half_local x p q v hp hqq (lo / (8 / n)) hh
 rw [← hp, ← hqq]
 have pre : Does (some N) [setc 4, setc 3, setc 2, getc 2] ⟨[x, p, q], [0, 0, 0, 0, 0, 0], β, 0⟩ ⟨[x], [0, 0, x, p, q, 0], β, 0⟩ :=
  Does.con (d_set (V := [x, p]) (L := [0, 0, 0, 0, 0, 0]) (by first | decide | simp) (by simp)) (Does.con (d_set (V := [x]) (by first | decide | simp) (by simp)) (Does.con (d_set (V := []) (by first | decide | simp) (by simp)) (d_get (a := 2) rfl (by first | decide | simp))))
 have hmid : ∃ z : BitVec 64, z.toNat = getN v (8 * n) lo ∧ Does (some N) (laneC (2 + (1 + lo / (8 / n))) (8 * n) (lo % (8 / n)) false) ⟨[x], [0, 0, x, p, q, 0], β, 0⟩ ⟨[x, z], [0, 0, x, p, q, 0], β, 0⟩ := by
  by_cases h8 : n = 8
  ·subst h8
   refine ⟨BitVec.ofNat 64 (getN v 64 (lo / (8 / 8))), ?_, ?_⟩
   ·rw [BitVec.toNat_ofNat, Nat.mod_eq_of_lt (half_lt v _)]
    simp
   ·unfold laneC
    rw [if_pos (by first | decide | simp)]
    exact d_get (V := [x]) hloc (by first | decide | simp)
  ·have hn4 : n = 1 ∨ n = 2 ∨ n = 4 := by omega
   refine ⟨_, lane_of_half v n lo hn4 hl, d_lane (V := [x]) hloc (by first | decide | simp) (by omega) ?_⟩
   rcases hn4 with rfl | rfl | rfl <;> simp only [Nat.reduceDiv, Nat.reduceMul] <;> omega
 obtain ⟨z, hz, hd⟩ := hmid
 have hcs : laneStC n 2 off lo = [setc 4, setc 3, setc 2, getc 2] ++ (laneC (2 + (1 + lo / (8 / n))) (8 * n) (lo % (8 / n)) false ++ [atc (stN n) off]) := rfl
 rw [hcs]
 refine ⟨fun hin => ?_, fun hin => ?_⟩
 ·have s1 := d_st (n := N) (op := stN n) (off := off) (V := []) (L := [0, 0, x, p, q, 0]) (β := β) (x := x) (y := z) (by rw [o2]; omega) (by omega) (by first | decide | simp) (by rw [e, o2]; exact hin)
  rw [e, o2, hz] at s1
  exact ⟨_, [0, 0, x, p, q, 0], Does.runs (pre.app (hd.app s1)), rfl, rfl, rfl, rfl, fun _ => rfl⟩
 ·have s1 := x_st (n := N) (op := stN n) (off := off) (V := []) (L := [0, 0, x, p, q, 0]) (β := β) (x := x) (y := z) [] (by rw [o2]; omega) (by omega) (by first | decide | simp) (by rw [e, o2]; exact hin)
  exact ⟨_, [0, 0, x, p, q, 0], pre.to (hd.to s1), rfl, rfl, rfl, rfl, fun h => absurd h (by first | decide | simp)⟩
end Go.Proofs.YtmfmokblmipagaaGreat
end
