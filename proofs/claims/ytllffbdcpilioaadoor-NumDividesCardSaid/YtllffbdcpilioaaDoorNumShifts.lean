/-
  The walk of plaitlaw03.NumShifts.
-/
import Derived.Test.YtllffbdcpilioaaDoorNumOrders
namespace Go.Proofs.YtllffbdcpilioaaDoor
open Go.RowKit Nm
set_option linter.unusedVariables false
set_option linter.unusedSimpArgs false

theorem nat_arg (k : Nat) (h : k < 128) : (k : Int) = ((BitVec.ofNat 64 k).toNat : Int) := by rw [BitVec.toNat_ofNat]; omega
theorem sub_arg (s k : Nat) (h : k ≤ s) (hs : s < 128) : (s : Int) - (k : Int) = ((BitVec.ofNat 64 (s - k)).toNat : Int) := by rw [BitVec.toNat_ofNat]; omega
theorem add_arg (n : B64) (s : Nat) (hs : s < 128) : IntKind.u64.wrap ((n.toNat : Int) + (s : Int)) = ((n + BitVec.ofNat 64 s).toNat : Int) := by
  rw [IntKind.wrap_u64, BitVec.toNat_add, BitVec.toNat_ofNat]; omega
theorem rest_0 (op : Int) (x : B64) (s : Int) (w : World) (hb : -9223372036854775808 ≤ op ∧ op ≤ 9223372036854775807) :
    Calls Tryd.prog 17 #[.int .i64 op, .int .u64 (x.toNat : Int), .int .u64 0, .int .u64 s] w fun e w' => e = .returned (.int .u64 ((bB op x 0#64).toNat : Int)) ∧ w' = w := by
  have H := Lib.hid hb
  clear hb
  go_enter Tryd.func17, Tryd.ntmps17
  go_wp2_with (go_at_call 15; refine (lbin_any op x 0#64 _ _ _ rfl lit_0 H.out).mono ?_; rintro e w' ⟨rfl, rfl⟩)
  go_ret
  exact ⟨rfl, rfl⟩
theorem rest_1 (op : Int) (x : B64) (k s : Nat) (w : World) (hk : 0 < k) (hks : k ≤ s) (hs : s < 128) (hb : -9223372036854775808 ≤ op ∧ op ≤ 9223372036854775807) :
    Calls Tryd.prog 17 #[.int .i64 op, .int .u64 (x.toNat : Int), .int .u64 (k : Int), .int .u64 (s : Int)] w fun e w' => e = .returned (.int .u64 ((bB op x (BitVec.ofNat 64 (s - k))).toNat : Int)) ∧ w' = w := by
  have H := Lib.hid hb
  clear hb
  have h0 : ((k : Int) == 0) = false := by rw [beq_eq_false_iff_ne]; omega
  have HS := Lib.hid (sub_arg s k hks hs)
  go_enter Tryd.func17, Tryd.ntmps17
  go_wp2_with (go_at_call 15; refine (lbin_any op x (BitVec.ofNat 64 (s - k)) _ _ _ rfl HS.out H.out).mono ?_; rintro e w' ⟨rfl, rfl⟩)
  go_ret
  exact ⟨rfl, rfl⟩

theorem lit_31 : (31 : Int) = ((31#64).toNat : Int) := rfl
theorem lit_32 : (32 : Int) = ((32#64).toNat : Int) := rfl
theorem lit_63 : (63 : Int) = ((63#64).toNat : Int) := rfl
theorem lit_64 : (64 : Int) = ((64#64).toNat : Int) := rfl

theorem mask_get {w : Nat} (k i : Nat) (hk : k < w) : ((1 : BitVec w) <<< k - 1).getLsbD i = decide (i < k) := by
  have hp : 2 ^ k < 2 ^ w := Nat.pow_lt_pow_right (by decide) hk
  have h1p : 1 % 2 ^ w = 1 := Nat.mod_eq_of_lt (by have := Nat.two_pow_pos k; omega)
  have e : ((1 : BitVec w) <<< k - 1).toNat = 2 ^ k - 1 := by
    rw [BitVec.toNat_sub_of_le]
    · rw [BitVec.toNat_shiftLeft]
      simp [h1p, Nat.shiftLeft_eq, Nat.mod_eq_of_lt hp]
    · rw [BitVec.le_def, BitVec.toNat_shiftLeft]
      simp [h1p, Nat.shiftLeft_eq, Nat.mod_eq_of_lt hp]
      exact Nat.two_pow_pos k
  rw [BitVec.getLsbD, e, Nat.testBit_two_pow_sub_one]
theorem mask_toNat (k : Nat) (hk : k < 64) : (((1 : B64) <<< k - 1).toNat : Int) = IntKind.u64.wrap (IntKind.u64.wrap (2 ^ k) - 1) := by
  have hp : 2 ^ k < 2 ^ 64 := Nat.pow_lt_pow_right (by decide) hk
  have h0 := Nat.two_pow_pos k
  have e : ((1 : B64) <<< k - 1).toNat = 2 ^ k - 1 := by
    rw [BitVec.toNat_sub_of_le]
    · rw [BitVec.toNat_shiftLeft]
      simp [Nat.shiftLeft_eq, Nat.mod_eq_of_lt hp]
    · rw [BitVec.le_def, BitVec.toNat_shiftLeft]
      simp [Nat.shiftLeft_eq, Nat.mod_eq_of_lt hp]
      exact Nat.two_pow_pos k
  have e2 : (2 : Int) ^ k = ((2 ^ k : Nat) : Int) := by simp
  rw [e, e2, IntKind.wrap_u64, IntKind.wrap_u64]
  generalize 2 ^ k = p at *
  omega
theorem up_and (a b : B32) : up (a &&& b) = up a &&& up b := by
  apply BitVec.eq_of_getLsbD_eq; intro i hi
  rw [get_up, BitVec.getLsbD_and, BitVec.getLsbD_and, get_up, get_up, decide_eq_true hi]; simp only [Bool.true_and]
theorem up_or (a b : B32) : up (a ||| b) = up a ||| up b := by
  apply BitVec.eq_of_getLsbD_eq; intro i hi
  rw [get_up, BitVec.getLsbD_or, BitVec.getLsbD_or, get_up, get_up, decide_eq_true hi]; simp only [Bool.true_and]
theorem or_arg (a b : B64) : bits .or .u64 (a.toNat : Int) (b.toNat : Int) = ((a ||| b).toNat : Int) := by
  rw [u64_or_nat _ _ a.isLt b.isLt, BitVec.toNat_or]
theorem andNot_arg (a b : B64) : bits .andNot .u64 (a.toNat : Int) (b.toNat : Int) = ((a &&& ~~~b).toNat : Int) := by
  rw [u64_andNot_nat _ _ a.isLt b.isLt, BitVec.toNat_and, BitVec.toNat_not]
theorem cut_mask32 (x : B32) (k : Nat) (hk : k < 32) : up ((x >>> k) <<< k) = up x &&& ~~~((1 : B64) <<< k - 1) := by
  apply BitVec.eq_of_getLsbD_eq; intro i hi
  rw [get_up, BitVec.getLsbD_shiftLeft, BitVec.getLsbD_ushiftRight, BitVec.getLsbD_and, BitVec.getLsbD_not, get_up, mask_get _ _ (by omega), decide_eq_true hi]
  by_cases h : i < 32
  · by_cases h2 : i < k
    · rw [decide_eq_true h, decide_eq_true h2]; simp only [Bool.not_true, Bool.and_false, Bool.false_and]
    · rw [decide_eq_true h, decide_eq_false h2, show k + (i - k) = i by omega]; simp only [Bool.not_false, Bool.and_true, Bool.true_and]
  · rw [decide_eq_false h, BitVec.getLsbD_of_ge x i (by omega)]; simp only [Bool.false_and, Bool.and_false, Bool.true_and]
theorem lo_small (k : Nat) (h : k < 128) : (lo (BitVec.ofNat 64 k)).toNat = k := by
  rw [lo_toNat, BitVec.toNat_ofNat]; omega
theorem v_small (k : Nat) (h : k < 128) : (BitVec.ofNat 64 k).toNat = k := by
  rw [BitVec.toNat_ofNat]; omega
theorem ushift_zero {w : Nat} (x : BitVec w) : x >>> 0 = x := by apply BitVec.eq_of_toNat_eq; rw [BitVec.toNat_ushiftRight]; rfl
theorem rotl_zero {w : Nat} (x : BitVec w) (hw : 0 < w) : rotl x 0 = x := by
  have := rotl_or x 0 hw
  rw [if_pos rfl] at this
  rw [this]
  apply BitVec.eq_of_getLsbD_eq; intro i hi
  rw [BitVec.getLsbD_or, BitVec.getLsbD_shiftLeft]; simp
theorem and_ones {w : Nat} (x : BitVec w) : x &&& BitVec.allOnes w = x := by simp

theorem vand0 (x y : B64) : bB 113 x y = up (lo x &&& lo y) := rfl
theorem vorr0 (x y : B64) : bB 114 x y = up (lo x ||| lo y) := rfl
theorem vshl0 (x y : B64) : bB 116 x y = up ((lo x) <<< ((lo y).toNat % 32)) := rfl
theorem vsar0 (x y : B64) : bB 117 x y = up ((lo x).sshiftRight ((lo y).toNat % 32)) := rfl
theorem vshr0 (x y : B64) : bB 118 x y = up ((lo x) >>> ((lo y).toNat % 32)) := rfl
theorem vrol0 (x y : B64) : bB 119 x y = up (rotl (lo x) ((lo y).toNat % 32)) := rfl
theorem vror0 (x y : B64) : bB 120 x y = up (rotl (lo x) ((32 - (lo y).toNat % 32) % 32)) := rfl
theorem vand1 (x y : B64) : bB 131 x y = x &&& y := rfl
theorem vorr1 (x y : B64) : bB 132 x y = x ||| y := rfl
theorem vshl1 (x y : B64) : bB 134 x y = (x) <<< (y.toNat % 64) := rfl
theorem vsar1 (x y : B64) : bB 135 x y = (x).sshiftRight (y.toNat % 64) := rfl
theorem vshr1 (x y : B64) : bB 136 x y = (x) >>> (y.toNat % 64) := rfl
theorem vrol1 (x y : B64) : bB 137 x y = rotl (x) (y.toNat % 64) := rfl
theorem vror1 (x y : B64) : bB 138 x y = rotl (x) ((64 - y.toNat % 64) % 64) := rfl
theorem g0_0 (x n : B64) (k : Nat) (hk : k < 32) (hn : n.toNat % 32 = k) : (bB 116 x n) = (bB 116 x (BitVec.ofNat 64 k)) := by
  have nn : (lo n).toNat % 32 = k := by rw [lo_toNat]; omega
  have na : (lo (n + 32#64)).toNat % 32 = k := by rw [lo_toNat, BitVec.toNat_add, BitVec.toNat_ofNat]; omega
  have nk : (lo (BitVec.ofNat 64 k)).toNat % 32 = k := by rw [lo_small k (by omega)]; omega
  have ns : (lo (BitVec.ofNat 64 (32 - k))).toNat % 32 = (32 - k) % 32 := by rw [lo_small (32 - k) (by omega)]
  have n0 : (lo 0#64).toNat % 32 = 0 := rfl
  have nf : (lo 32#64).toNat % 32 = 0 := rfl
  have n1 : (lo 31#64).toNat % 32 = 31 := rfl
  have no : lo 18446744073709551615#64 = BitVec.allOnes 32 := rfl
  simp only [vand0, vorr0, vshl0, vsar0, vshr0, vrol0, vror0, nn, na, nk, ns, n0, nf, n1, no, and_ones, lo_up]
  try rfl
theorem g0_1 (x n : B64) (k : Nat) (hk : k < 32) (hn : n.toNat % 32 = k) : (bB 117 x (n + 32#64)) = (bB 117 x (BitVec.ofNat 64 k)) := by
  have nn : (lo n).toNat % 32 = k := by rw [lo_toNat]; omega
  have na : (lo (n + 32#64)).toNat % 32 = k := by rw [lo_toNat, BitVec.toNat_add, BitVec.toNat_ofNat]; omega
  have nk : (lo (BitVec.ofNat 64 k)).toNat % 32 = k := by rw [lo_small k (by omega)]; omega
  have ns : (lo (BitVec.ofNat 64 (32 - k))).toNat % 32 = (32 - k) % 32 := by rw [lo_small (32 - k) (by omega)]
  have n0 : (lo 0#64).toNat % 32 = 0 := rfl
  have nf : (lo 32#64).toNat % 32 = 0 := rfl
  have n1 : (lo 31#64).toNat % 32 = 31 := rfl
  have no : lo 18446744073709551615#64 = BitVec.allOnes 32 := rfl
  simp only [vand0, vorr0, vshl0, vsar0, vshr0, vrol0, vror0, nn, na, nk, ns, n0, nf, n1, no, and_ones, lo_up]
  try rfl
theorem g0_2 (x n : B64) (k : Nat) (hk : k < 32) (hn : n.toNat % 32 = k) : (bB 118 x 0#64) = (bB 113 x 18446744073709551615#64) := by
  have nn : (lo n).toNat % 32 = k := by rw [lo_toNat]; omega
  have na : (lo (n + 32#64)).toNat % 32 = k := by rw [lo_toNat, BitVec.toNat_add, BitVec.toNat_ofNat]; omega
  have nk : (lo (BitVec.ofNat 64 k)).toNat % 32 = k := by rw [lo_small k (by omega)]; omega
  have ns : (lo (BitVec.ofNat 64 (32 - k))).toNat % 32 = (32 - k) % 32 := by rw [lo_small (32 - k) (by omega)]
  have n0 : (lo 0#64).toNat % 32 = 0 := rfl
  have nf : (lo 32#64).toNat % 32 = 0 := rfl
  have n1 : (lo 31#64).toNat % 32 = 31 := rfl
  have no : lo 18446744073709551615#64 = BitVec.allOnes 32 := rfl
  simp only [vand0, vorr0, vshl0, vsar0, vshr0, vrol0, vror0, nn, na, nk, ns, n0, nf, n1, no, and_ones, lo_up]
  rw [ushift_zero]
theorem g0_3 (x n : B64) (k : Nat) (hk : k < 32) (hn : n.toNat % 32 = k) : (bB 119 x 32#64) = (bB 113 x 18446744073709551615#64) := by
  have nn : (lo n).toNat % 32 = k := by rw [lo_toNat]; omega
  have na : (lo (n + 32#64)).toNat % 32 = k := by rw [lo_toNat, BitVec.toNat_add, BitVec.toNat_ofNat]; omega
  have nk : (lo (BitVec.ofNat 64 k)).toNat % 32 = k := by rw [lo_small k (by omega)]; omega
  have ns : (lo (BitVec.ofNat 64 (32 - k))).toNat % 32 = (32 - k) % 32 := by rw [lo_small (32 - k) (by omega)]
  have n0 : (lo 0#64).toNat % 32 = 0 := rfl
  have nf : (lo 32#64).toNat % 32 = 0 := rfl
  have n1 : (lo 31#64).toNat % 32 = 31 := rfl
  have no : lo 18446744073709551615#64 = BitVec.allOnes 32 := rfl
  simp only [vand0, vorr0, vshl0, vsar0, vshr0, vrol0, vror0, nn, na, nk, ns, n0, nf, n1, no, and_ones, lo_up]
  rw [rotl_zero _ (by decide)]
theorem g0_4 (x n : B64) (k : Nat) (hk : k < 32) (hn : n.toNat % 32 = k) : (bB 120 (bB 119 x n) n) = (bB 113 x 18446744073709551615#64) := by
  have nn : (lo n).toNat % 32 = k := by rw [lo_toNat]; omega
  have na : (lo (n + 32#64)).toNat % 32 = k := by rw [lo_toNat, BitVec.toNat_add, BitVec.toNat_ofNat]; omega
  have nk : (lo (BitVec.ofNat 64 k)).toNat % 32 = k := by rw [lo_small k (by omega)]; omega
  have ns : (lo (BitVec.ofNat 64 (32 - k))).toNat % 32 = (32 - k) % 32 := by rw [lo_small (32 - k) (by omega)]
  have n0 : (lo 0#64).toNat % 32 = 0 := rfl
  have nf : (lo 32#64).toNat % 32 = 0 := rfl
  have n1 : (lo 31#64).toNat % 32 = 31 := rfl
  have no : lo 18446744073709551615#64 = BitVec.allOnes 32 := rfl
  simp only [vand0, vorr0, vshl0, vsar0, vshr0, vrol0, vror0, nn, na, nk, ns, n0, nf, n1, no, and_ones, lo_up]
  rw [rotl_rotl _ _ hk]
theorem g0_5 (x n : B64) (k : Nat) (hk : k < 32) (hn : n.toNat % 32 = k) : (bB 119 x n) = (bB 120 x (BitVec.ofNat 64 (32 - k))) := by
  have nn : (lo n).toNat % 32 = k := by rw [lo_toNat]; omega
  have na : (lo (n + 32#64)).toNat % 32 = k := by rw [lo_toNat, BitVec.toNat_add, BitVec.toNat_ofNat]; omega
  have nk : (lo (BitVec.ofNat 64 k)).toNat % 32 = k := by rw [lo_small k (by omega)]; omega
  have ns : (lo (BitVec.ofNat 64 (32 - k))).toNat % 32 = (32 - k) % 32 := by rw [lo_small (32 - k) (by omega)]
  have n0 : (lo 0#64).toNat % 32 = 0 := rfl
  have nf : (lo 32#64).toNat % 32 = 0 := rfl
  have n1 : (lo 31#64).toNat % 32 = 31 := rfl
  have no : lo 18446744073709551615#64 = BitVec.allOnes 32 := rfl
  simp only [vand0, vorr0, vshl0, vsar0, vshr0, vrol0, vror0, nn, na, nk, ns, n0, nf, n1, no, and_ones, lo_up]
  rw [rotr_num 32 k hk]
theorem g0_7 (x n : B64) (k : Nat) (hk : k < 32) (hn : n.toNat % 32 = k) : (bB 118 (bB 116 x (BitVec.ofNat 64 k)) (BitVec.ofNat 64 k)) = (bB 118 (bB 116 (bB 113 x 18446744073709551615#64) (BitVec.ofNat 64 k)) (BitVec.ofNat 64 k)) := by
  have nn : (lo n).toNat % 32 = k := by rw [lo_toNat]; omega
  have na : (lo (n + 32#64)).toNat % 32 = k := by rw [lo_toNat, BitVec.toNat_add, BitVec.toNat_ofNat]; omega
  have nk : (lo (BitVec.ofNat 64 k)).toNat % 32 = k := by rw [lo_small k (by omega)]; omega
  have ns : (lo (BitVec.ofNat 64 (32 - k))).toNat % 32 = (32 - k) % 32 := by rw [lo_small (32 - k) (by omega)]
  have n0 : (lo 0#64).toNat % 32 = 0 := rfl
  have nf : (lo 32#64).toNat % 32 = 0 := rfl
  have n1 : (lo 31#64).toNat % 32 = 31 := rfl
  have no : lo 18446744073709551615#64 = BitVec.allOnes 32 := rfl
  simp only [vand0, vorr0, vshl0, vsar0, vshr0, vrol0, vror0, nn, na, nk, ns, n0, nf, n1, no, and_ones, lo_up]
  try rfl
theorem g0_6p (x n : B64) (k : Nat) (hk : k < 32) (hp : 0 < k) (hn : n.toNat % 32 = k) : (bB 119 x n) = (bB 114 (bB 116 x (BitVec.ofNat 64 k)) (bB 118 x (BitVec.ofNat 64 (32 - k)))) := by
  have nn : (lo n).toNat % 32 = k := by rw [lo_toNat]; omega
  have na : (lo (n + 32#64)).toNat % 32 = k := by rw [lo_toNat, BitVec.toNat_add, BitVec.toNat_ofNat]; omega
  have nk : (lo (BitVec.ofNat 64 k)).toNat % 32 = k := by rw [lo_small k (by omega)]; omega
  have ns : (lo (BitVec.ofNat 64 (32 - k))).toNat % 32 = (32 - k) % 32 := by rw [lo_small (32 - k) (by omega)]
  have n0 : (lo 0#64).toNat % 32 = 0 := rfl
  have nf : (lo 32#64).toNat % 32 = 0 := rfl
  have n1 : (lo 31#64).toNat % 32 = 31 := rfl
  have no : lo 18446744073709551615#64 = BitVec.allOnes 32 := rfl
  simp only [vand0, vorr0, vshl0, vsar0, vshr0, vrol0, vror0, nn, na, nk, ns, n0, nf, n1, no, and_ones, lo_up]
  rw [rotl_or (lo x) k hk, if_neg (by omega), Nat.mod_eq_of_lt (show 32 - k < 32 by omega)]
theorem g0_6z (x n : B64) (hn : n.toNat % 32 = 0) : (bB 119 x n) = (bB 114 (bB 116 x 0#64) (bB 118 x 0#64)) := by
  obtain ⟨k, hk0⟩ : ∃ k, k = 0 := ⟨_, rfl⟩
  have hk : k < 32 := by omega
  rw [← hk0] at hn
  have nn : (lo n).toNat % 32 = k := by rw [lo_toNat]; omega
  have na : (lo (n + 32#64)).toNat % 32 = k := by rw [lo_toNat, BitVec.toNat_add, BitVec.toNat_ofNat]; omega
  have nk : (lo (BitVec.ofNat 64 k)).toNat % 32 = k := by rw [lo_small k (by omega)]; omega
  have ns : (lo (BitVec.ofNat 64 (32 - k))).toNat % 32 = (32 - k) % 32 := by rw [lo_small (32 - k) (by omega)]
  have n0 : (lo 0#64).toNat % 32 = 0 := rfl
  have nf : (lo 32#64).toNat % 32 = 0 := rfl
  have n1 : (lo 31#64).toNat % 32 = 31 := rfl
  have no : lo 18446744073709551615#64 = BitVec.allOnes 32 := rfl
  simp only [vand0, vorr0, vshl0, vsar0, vshr0, vrol0, vror0, nn, na, nk, ns, n0, nf, n1, no, and_ones, lo_up]
  subst hk0
  rw [rotl_or (lo x) 0 hk, if_pos rfl, ushift_zero]
theorem sign0 (x : B64) : (((((bB 118 x 31#64)).toNat : Int)) == 1) = decide ((lo x) >>> 31 = 1) := by
  have e : (bB 118 x 31#64) = up ((lo x) >>> 31) := rfl
  rw [e, Bool.eq_iff_iff, beq_iff_eq, decide_eq_true_eq]
  constructor
  · intro h; apply BitVec.eq_of_toNat_eq; rw [← up_toNat] at h; exact_mod_cast h
  · intro h; rw [h]; rfl
theorem ga0 (x n : B64) (k : Nat) (hk : k < 32) (hn : n.toNat % 32 = k) (c : Bool) (hc : (if (lo x) >>> 31 = 1 ∧ 0 < k then true else false) = c) : (bB 117 x (BitVec.ofNat 64 k)) = (bB 118 x (BitVec.ofNat 64 k)) ||| (if c = true then (bB 116 18446744073709551615#64 (BitVec.ofNat 64 (32 - k))) else 0#64) := by
  have nn : (lo n).toNat % 32 = k := by rw [lo_toNat]; omega
  have na : (lo (n + 32#64)).toNat % 32 = k := by rw [lo_toNat, BitVec.toNat_add, BitVec.toNat_ofNat]; omega
  have nk : (lo (BitVec.ofNat 64 k)).toNat % 32 = k := by rw [lo_small k (by omega)]; omega
  have ns : (lo (BitVec.ofNat 64 (32 - k))).toNat % 32 = (32 - k) % 32 := by rw [lo_small (32 - k) (by omega)]
  have n0 : (lo 0#64).toNat % 32 = 0 := rfl
  have nf : (lo 32#64).toNat % 32 = 0 := rfl
  have n1 : (lo 31#64).toNat % 32 = 31 := rfl
  have no : lo 18446744073709551615#64 = BitVec.allOnes 32 := rfl
  simp only [vand0, vorr0, vshl0, vsar0, vshr0, vrol0, vror0, nn, na, nk, ns, n0, nf, n1, no, and_ones, lo_up]
  rw [sar_or (lo x) k hk]
  by_cases h : (lo x) >>> 31 = 1 ∧ 0 < k
  · rw [if_pos h] at hc; subst hc
    rw [if_pos h, if_pos rfl, ← up_or, Nat.mod_eq_of_lt (show 32 - k < 32 by omega)]
  · rw [if_neg h] at hc; subst hc
    rw [if_neg h, if_neg (by decide)]
    simp
theorem gb0 (x n : B64) (k : Nat) (hk : k < 32) (hn : n.toNat % 32 = k) : (bB 116 (bB 118 x (BitVec.ofNat 64 k)) (BitVec.ofNat 64 k)) = (bB 113 x 18446744073709551615#64) &&& ~~~((1 : B64) <<< k - 1) := by
  have nn : (lo n).toNat % 32 = k := by rw [lo_toNat]; omega
  have na : (lo (n + 32#64)).toNat % 32 = k := by rw [lo_toNat, BitVec.toNat_add, BitVec.toNat_ofNat]; omega
  have nk : (lo (BitVec.ofNat 64 k)).toNat % 32 = k := by rw [lo_small k (by omega)]; omega
  have ns : (lo (BitVec.ofNat 64 (32 - k))).toNat % 32 = (32 - k) % 32 := by rw [lo_small (32 - k) (by omega)]
  have n0 : (lo 0#64).toNat % 32 = 0 := rfl
  have nf : (lo 32#64).toNat % 32 = 0 := rfl
  have n1 : (lo 31#64).toNat % 32 = 31 := rfl
  have no : lo 18446744073709551615#64 = BitVec.allOnes 32 := rfl
  simp only [vand0, vorr0, vshl0, vsar0, vshr0, vrol0, vror0, nn, na, nk, ns, n0, nf, n1, no, and_ones, lo_up]
  exact cut_mask32 _ k hk
theorem g1_0 (x n : B64) (k : Nat) (hk : k < 64) (hn : n.toNat % 64 = k) : (bB 134 x n) = (bB 134 x (BitVec.ofNat 64 k)) := by
  have nn : n.toNat % 64 = k := by omega
  have na : (n + 64#64).toNat % 64 = k := by rw [BitVec.toNat_add, BitVec.toNat_ofNat]; omega
  have nk : (BitVec.ofNat 64 k).toNat % 64 = k := by rw [v_small k (by omega)]; omega
  have ns : (BitVec.ofNat 64 (64 - k)).toNat % 64 = (64 - k) % 64 := by rw [v_small (64 - k) (by omega)]
  have n0 : (0#64).toNat % 64 = 0 := rfl
  have nf : (64#64).toNat % 64 = 0 := rfl
  have n1 : (63#64).toNat % 64 = 63 := rfl
  have no : 18446744073709551615#64 = BitVec.allOnes 64 := rfl
  simp only [vand1, vorr1, vshl1, vsar1, vshr1, vrol1, vror1, nn, na, nk, ns, n0, nf, n1, no, and_ones]
  try rfl
theorem g1_1 (x n : B64) (k : Nat) (hk : k < 64) (hn : n.toNat % 64 = k) : (bB 135 x (n + 64#64)) = (bB 135 x (BitVec.ofNat 64 k)) := by
  have nn : n.toNat % 64 = k := by omega
  have na : (n + 64#64).toNat % 64 = k := by rw [BitVec.toNat_add, BitVec.toNat_ofNat]; omega
  have nk : (BitVec.ofNat 64 k).toNat % 64 = k := by rw [v_small k (by omega)]; omega
  have ns : (BitVec.ofNat 64 (64 - k)).toNat % 64 = (64 - k) % 64 := by rw [v_small (64 - k) (by omega)]
  have n0 : (0#64).toNat % 64 = 0 := rfl
  have nf : (64#64).toNat % 64 = 0 := rfl
  have n1 : (63#64).toNat % 64 = 63 := rfl
  have no : 18446744073709551615#64 = BitVec.allOnes 64 := rfl
  simp only [vand1, vorr1, vshl1, vsar1, vshr1, vrol1, vror1, nn, na, nk, ns, n0, nf, n1, no, and_ones]
  try rfl
theorem g1_2 (x n : B64) (k : Nat) (hk : k < 64) (hn : n.toNat % 64 = k) : (bB 136 x 0#64) = (bB 131 x 18446744073709551615#64) := by
  have nn : n.toNat % 64 = k := by omega
  have na : (n + 64#64).toNat % 64 = k := by rw [BitVec.toNat_add, BitVec.toNat_ofNat]; omega
  have nk : (BitVec.ofNat 64 k).toNat % 64 = k := by rw [v_small k (by omega)]; omega
  have ns : (BitVec.ofNat 64 (64 - k)).toNat % 64 = (64 - k) % 64 := by rw [v_small (64 - k) (by omega)]
  have n0 : (0#64).toNat % 64 = 0 := rfl
  have nf : (64#64).toNat % 64 = 0 := rfl
  have n1 : (63#64).toNat % 64 = 63 := rfl
  have no : 18446744073709551615#64 = BitVec.allOnes 64 := rfl
  simp only [vand1, vorr1, vshl1, vsar1, vshr1, vrol1, vror1, nn, na, nk, ns, n0, nf, n1, no, and_ones]
  rw [ushift_zero]
theorem g1_3 (x n : B64) (k : Nat) (hk : k < 64) (hn : n.toNat % 64 = k) : (bB 137 x 64#64) = (bB 131 x 18446744073709551615#64) := by
  have nn : n.toNat % 64 = k := by omega
  have na : (n + 64#64).toNat % 64 = k := by rw [BitVec.toNat_add, BitVec.toNat_ofNat]; omega
  have nk : (BitVec.ofNat 64 k).toNat % 64 = k := by rw [v_small k (by omega)]; omega
  have ns : (BitVec.ofNat 64 (64 - k)).toNat % 64 = (64 - k) % 64 := by rw [v_small (64 - k) (by omega)]
  have n0 : (0#64).toNat % 64 = 0 := rfl
  have nf : (64#64).toNat % 64 = 0 := rfl
  have n1 : (63#64).toNat % 64 = 63 := rfl
  have no : 18446744073709551615#64 = BitVec.allOnes 64 := rfl
  simp only [vand1, vorr1, vshl1, vsar1, vshr1, vrol1, vror1, nn, na, nk, ns, n0, nf, n1, no, and_ones]
  rw [rotl_zero _ (by decide)]
theorem g1_4 (x n : B64) (k : Nat) (hk : k < 64) (hn : n.toNat % 64 = k) : (bB 138 (bB 137 x n) n) = (bB 131 x 18446744073709551615#64) := by
  have nn : n.toNat % 64 = k := by omega
  have na : (n + 64#64).toNat % 64 = k := by rw [BitVec.toNat_add, BitVec.toNat_ofNat]; omega
  have nk : (BitVec.ofNat 64 k).toNat % 64 = k := by rw [v_small k (by omega)]; omega
  have ns : (BitVec.ofNat 64 (64 - k)).toNat % 64 = (64 - k) % 64 := by rw [v_small (64 - k) (by omega)]
  have n0 : (0#64).toNat % 64 = 0 := rfl
  have nf : (64#64).toNat % 64 = 0 := rfl
  have n1 : (63#64).toNat % 64 = 63 := rfl
  have no : 18446744073709551615#64 = BitVec.allOnes 64 := rfl
  simp only [vand1, vorr1, vshl1, vsar1, vshr1, vrol1, vror1, nn, na, nk, ns, n0, nf, n1, no, and_ones]
  rw [rotl_rotl _ _ hk]
theorem g1_5 (x n : B64) (k : Nat) (hk : k < 64) (hn : n.toNat % 64 = k) : (bB 137 x n) = (bB 138 x (BitVec.ofNat 64 (64 - k))) := by
  have nn : n.toNat % 64 = k := by omega
  have na : (n + 64#64).toNat % 64 = k := by rw [BitVec.toNat_add, BitVec.toNat_ofNat]; omega
  have nk : (BitVec.ofNat 64 k).toNat % 64 = k := by rw [v_small k (by omega)]; omega
  have ns : (BitVec.ofNat 64 (64 - k)).toNat % 64 = (64 - k) % 64 := by rw [v_small (64 - k) (by omega)]
  have n0 : (0#64).toNat % 64 = 0 := rfl
  have nf : (64#64).toNat % 64 = 0 := rfl
  have n1 : (63#64).toNat % 64 = 63 := rfl
  have no : 18446744073709551615#64 = BitVec.allOnes 64 := rfl
  simp only [vand1, vorr1, vshl1, vsar1, vshr1, vrol1, vror1, nn, na, nk, ns, n0, nf, n1, no, and_ones]
  rw [rotr_num 64 k hk]
theorem g1_7 (x n : B64) (k : Nat) (hk : k < 64) (hn : n.toNat % 64 = k) : (bB 136 (bB 134 x (BitVec.ofNat 64 k)) (BitVec.ofNat 64 k)) = (bB 136 (bB 134 (bB 131 x 18446744073709551615#64) (BitVec.ofNat 64 k)) (BitVec.ofNat 64 k)) := by
  have nn : n.toNat % 64 = k := by omega
  have na : (n + 64#64).toNat % 64 = k := by rw [BitVec.toNat_add, BitVec.toNat_ofNat]; omega
  have nk : (BitVec.ofNat 64 k).toNat % 64 = k := by rw [v_small k (by omega)]; omega
  have ns : (BitVec.ofNat 64 (64 - k)).toNat % 64 = (64 - k) % 64 := by rw [v_small (64 - k) (by omega)]
  have n0 : (0#64).toNat % 64 = 0 := rfl
  have nf : (64#64).toNat % 64 = 0 := rfl
  have n1 : (63#64).toNat % 64 = 63 := rfl
  have no : 18446744073709551615#64 = BitVec.allOnes 64 := rfl
  simp only [vand1, vorr1, vshl1, vsar1, vshr1, vrol1, vror1, nn, na, nk, ns, n0, nf, n1, no, and_ones]
  try rfl
theorem g1_6p (x n : B64) (k : Nat) (hk : k < 64) (hp : 0 < k) (hn : n.toNat % 64 = k) : (bB 137 x n) = (bB 132 (bB 134 x (BitVec.ofNat 64 k)) (bB 136 x (BitVec.ofNat 64 (64 - k)))) := by
  have nn : n.toNat % 64 = k := by omega
  have na : (n + 64#64).toNat % 64 = k := by rw [BitVec.toNat_add, BitVec.toNat_ofNat]; omega
  have nk : (BitVec.ofNat 64 k).toNat % 64 = k := by rw [v_small k (by omega)]; omega
  have ns : (BitVec.ofNat 64 (64 - k)).toNat % 64 = (64 - k) % 64 := by rw [v_small (64 - k) (by omega)]
  have n0 : (0#64).toNat % 64 = 0 := rfl
  have nf : (64#64).toNat % 64 = 0 := rfl
  have n1 : (63#64).toNat % 64 = 63 := rfl
  have no : 18446744073709551615#64 = BitVec.allOnes 64 := rfl
  simp only [vand1, vorr1, vshl1, vsar1, vshr1, vrol1, vror1, nn, na, nk, ns, n0, nf, n1, no, and_ones]
  rw [rotl_or x k hk, if_neg (by omega), Nat.mod_eq_of_lt (show 64 - k < 64 by omega)]
theorem g1_6z (x n : B64) (hn : n.toNat % 64 = 0) : (bB 137 x n) = (bB 132 (bB 134 x 0#64) (bB 136 x 0#64)) := by
  obtain ⟨k, hk0⟩ : ∃ k, k = 0 := ⟨_, rfl⟩
  have hk : k < 64 := by omega
  rw [← hk0] at hn
  have nn : n.toNat % 64 = k := by omega
  have na : (n + 64#64).toNat % 64 = k := by rw [BitVec.toNat_add, BitVec.toNat_ofNat]; omega
  have nk : (BitVec.ofNat 64 k).toNat % 64 = k := by rw [v_small k (by omega)]; omega
  have ns : (BitVec.ofNat 64 (64 - k)).toNat % 64 = (64 - k) % 64 := by rw [v_small (64 - k) (by omega)]
  have n0 : (0#64).toNat % 64 = 0 := rfl
  have nf : (64#64).toNat % 64 = 0 := rfl
  have n1 : (63#64).toNat % 64 = 63 := rfl
  have no : 18446744073709551615#64 = BitVec.allOnes 64 := rfl
  simp only [vand1, vorr1, vshl1, vsar1, vshr1, vrol1, vror1, nn, na, nk, ns, n0, nf, n1, no, and_ones]
  subst hk0
  rw [rotl_or x 0 hk, if_pos rfl, ushift_zero]
theorem sign1 (x : B64) : (((((bB 136 x 63#64)).toNat : Int)) == 1) = decide (x >>> 63 = 1) := by
  have e : (bB 136 x 63#64) = (x >>> 63) := rfl
  rw [e, Bool.eq_iff_iff, beq_iff_eq, decide_eq_true_eq]
  constructor
  · intro h; apply BitVec.eq_of_toNat_eq; exact_mod_cast h
  · intro h; rw [h]; rfl
theorem ga1 (x n : B64) (k : Nat) (hk : k < 64) (hn : n.toNat % 64 = k) (c : Bool) (hc : (if x >>> 63 = 1 ∧ 0 < k then true else false) = c) : (bB 135 x (BitVec.ofNat 64 k)) = (bB 136 x (BitVec.ofNat 64 k)) ||| (if c = true then (bB 134 18446744073709551615#64 (BitVec.ofNat 64 (64 - k))) else 0#64) := by
  have nn : n.toNat % 64 = k := by omega
  have na : (n + 64#64).toNat % 64 = k := by rw [BitVec.toNat_add, BitVec.toNat_ofNat]; omega
  have nk : (BitVec.ofNat 64 k).toNat % 64 = k := by rw [v_small k (by omega)]; omega
  have ns : (BitVec.ofNat 64 (64 - k)).toNat % 64 = (64 - k) % 64 := by rw [v_small (64 - k) (by omega)]
  have n0 : (0#64).toNat % 64 = 0 := rfl
  have nf : (64#64).toNat % 64 = 0 := rfl
  have n1 : (63#64).toNat % 64 = 63 := rfl
  have no : 18446744073709551615#64 = BitVec.allOnes 64 := rfl
  simp only [vand1, vorr1, vshl1, vsar1, vshr1, vrol1, vror1, nn, na, nk, ns, n0, nf, n1, no, and_ones]
  rw [sar_or x k hk]
  by_cases h : x >>> 63 = 1 ∧ 0 < k
  · rw [if_pos h] at hc; subst hc
    rw [if_pos h, if_pos rfl, Nat.mod_eq_of_lt (show 64 - k < 64 by omega)]
  · rw [if_neg h] at hc; subst hc
    rw [if_neg h, if_neg (by decide)]
    simp
theorem gb1 (x n : B64) (k : Nat) (hk : k < 64) (hn : n.toNat % 64 = k) : (bB 134 (bB 136 x (BitVec.ofNat 64 k)) (BitVec.ofNat 64 k)) = (bB 131 x 18446744073709551615#64) &&& ~~~((1 : B64) <<< k - 1) := by
  have nn : n.toNat % 64 = k := by omega
  have na : (n + 64#64).toNat % 64 = k := by rw [BitVec.toNat_add, BitVec.toNat_ofNat]; omega
  have nk : (BitVec.ofNat 64 k).toNat % 64 = k := by rw [v_small k (by omega)]; omega
  have ns : (BitVec.ofNat 64 (64 - k)).toNat % 64 = (64 - k) % 64 := by rw [v_small (64 - k) (by omega)]
  have n0 : (0#64).toNat % 64 = 0 := rfl
  have nf : (64#64).toNat % 64 = 0 := rfl
  have n1 : (63#64).toNat % 64 = 63 := rfl
  have no : 18446744073709551615#64 = BitVec.allOnes 64 := rfl
  simp only [vand1, vorr1, vshl1, vsar1, vshr1, vrol1, vror1, nn, na, nk, ns, n0, nf, n1, no, and_ones]
  exact shr_shl x k hk
theorem sh01_0 (x n : B64) (hn : n.toNat % 32 = 0) : (((bB 116 x n).toNat : Int) != ((bB 116 x 0#64).toNat : Int)) = false :=
  ne_false (g0_0 x n 0 (by decide) hn)
theorem sh01_1 (x n : B64) (hn : n.toNat % 32 = 0) : (((bB 117 x (n + 32#64)).toNat : Int) != ((bB 117 x 0#64).toNat : Int)) = false :=
  ne_false (g0_1 x n 0 (by decide) hn)
theorem sh01_2 (x n : B64) (hn : n.toNat % 32 = 0) : (((bB 118 x 0#64).toNat : Int) != ((bB 113 x 18446744073709551615#64).toNat : Int)) = false :=
  ne_false (g0_2 x n 0 (by decide) hn)
theorem sh01_3 (x n : B64) (hn : n.toNat % 32 = 0) : (((bB 119 x 32#64).toNat : Int) != ((bB 113 x 18446744073709551615#64).toNat : Int)) = false :=
  ne_false (g0_3 x n 0 (by decide) hn)
theorem sh01_4 (x n : B64) (hn : n.toNat % 32 = 0) : (((bB 120 (bB 119 x n) n).toNat : Int) != ((bB 113 x 18446744073709551615#64).toNat : Int)) = false :=
  ne_false (g0_4 x n 0 (by decide) hn)
theorem sh01_5 (x n : B64) (hn : n.toNat % 32 = 0) : (((bB 119 x n).toNat : Int) != ((bB 120 x 32#64).toNat : Int)) = false :=
  ne_false (g0_5 x n 0 (by decide) hn)
theorem sh01_6 (x n : B64) (hn : n.toNat % 32 = 0) : (((bB 119 x n).toNat : Int) != ((bB 114 (bB 116 x 0#64) (bB 118 x 0#64)).toNat : Int)) = false :=
  ne_false (g0_6z x n hn)
theorem sh01_7 (x n : B64) (hn : n.toNat % 32 = 0) : (((bB 118 (bB 116 x 0#64) 0#64).toNat : Int) != ((bB 118 (bB 116 (bB 113 x 18446744073709551615#64) 0#64) 0#64).toNat : Int)) = false :=
  ne_false (g0_7 x n 0 (by decide) hn)
theorem sh00_0 (x n : B64) (k : Nat) (hk : k < 32) (hp : 0 < k) (hn : n.toNat % 32 = k) : (((bB 116 x n).toNat : Int) != ((bB 116 x (BitVec.ofNat 64 k)).toNat : Int)) = false :=
  ne_false (g0_0 x n k hk hn)
theorem sh00_1 (x n : B64) (k : Nat) (hk : k < 32) (hp : 0 < k) (hn : n.toNat % 32 = k) : (((bB 117 x (n + 32#64)).toNat : Int) != ((bB 117 x (BitVec.ofNat 64 k)).toNat : Int)) = false :=
  ne_false (g0_1 x n k hk hn)
theorem sh00_2 (x n : B64) (k : Nat) (hk : k < 32) (hp : 0 < k) (hn : n.toNat % 32 = k) : (((bB 118 x 0#64).toNat : Int) != ((bB 113 x 18446744073709551615#64).toNat : Int)) = false :=
  ne_false (g0_2 x n k hk hn)
theorem sh00_3 (x n : B64) (k : Nat) (hk : k < 32) (hp : 0 < k) (hn : n.toNat % 32 = k) : (((bB 119 x 32#64).toNat : Int) != ((bB 113 x 18446744073709551615#64).toNat : Int)) = false :=
  ne_false (g0_3 x n k hk hn)
theorem sh00_4 (x n : B64) (k : Nat) (hk : k < 32) (hp : 0 < k) (hn : n.toNat % 32 = k) : (((bB 120 (bB 119 x n) n).toNat : Int) != ((bB 113 x 18446744073709551615#64).toNat : Int)) = false :=
  ne_false (g0_4 x n k hk hn)
theorem sh00_5 (x n : B64) (k : Nat) (hk : k < 32) (hp : 0 < k) (hn : n.toNat % 32 = k) : (((bB 119 x n).toNat : Int) != ((bB 120 x (BitVec.ofNat 64 (32 - k))).toNat : Int)) = false :=
  ne_false (g0_5 x n k hk hn)
theorem sh00_6 (x n : B64) (k : Nat) (hk : k < 32) (hp : 0 < k) (hn : n.toNat % 32 = k) : (((bB 119 x n).toNat : Int) != ((bB 114 (bB 116 x (BitVec.ofNat 64 k)) (bB 118 x (BitVec.ofNat 64 (32 - k)))).toNat : Int)) = false :=
  ne_false (g0_6p x n k hk hp hn)
theorem sh00_7 (x n : B64) (k : Nat) (hk : k < 32) (hp : 0 < k) (hn : n.toNat % 32 = k) : (((bB 118 (bB 116 x (BitVec.ofNat 64 k)) (BitVec.ofNat 64 k)).toNat : Int) != ((bB 118 (bB 116 (bB 113 x 18446744073709551615#64) (BitVec.ofNat 64 k)) (BitVec.ofNat 64 k)).toNat : Int)) = false :=
  ne_false (g0_7 x n k hk hn)
theorem sh11_0 (x n : B64) (hn : n.toNat % 64 = 0) : (((bB 134 x n).toNat : Int) != ((bB 134 x 0#64).toNat : Int)) = false :=
  ne_false (g1_0 x n 0 (by decide) hn)
theorem sh11_1 (x n : B64) (hn : n.toNat % 64 = 0) : (((bB 135 x (n + 64#64)).toNat : Int) != ((bB 135 x 0#64).toNat : Int)) = false :=
  ne_false (g1_1 x n 0 (by decide) hn)
theorem sh11_2 (x n : B64) (hn : n.toNat % 64 = 0) : (((bB 136 x 0#64).toNat : Int) != ((bB 131 x 18446744073709551615#64).toNat : Int)) = false :=
  ne_false (g1_2 x n 0 (by decide) hn)
theorem sh11_3 (x n : B64) (hn : n.toNat % 64 = 0) : (((bB 137 x 64#64).toNat : Int) != ((bB 131 x 18446744073709551615#64).toNat : Int)) = false :=
  ne_false (g1_3 x n 0 (by decide) hn)
theorem sh11_4 (x n : B64) (hn : n.toNat % 64 = 0) : (((bB 138 (bB 137 x n) n).toNat : Int) != ((bB 131 x 18446744073709551615#64).toNat : Int)) = false :=
  ne_false (g1_4 x n 0 (by decide) hn)
theorem sh11_5 (x n : B64) (hn : n.toNat % 64 = 0) : (((bB 137 x n).toNat : Int) != ((bB 138 x 64#64).toNat : Int)) = false :=
  ne_false (g1_5 x n 0 (by decide) hn)
theorem sh11_6 (x n : B64) (hn : n.toNat % 64 = 0) : (((bB 137 x n).toNat : Int) != ((bB 132 (bB 134 x 0#64) (bB 136 x 0#64)).toNat : Int)) = false :=
  ne_false (g1_6z x n hn)
theorem sh11_7 (x n : B64) (hn : n.toNat % 64 = 0) : (((bB 136 (bB 134 x 0#64) 0#64).toNat : Int) != ((bB 136 (bB 134 (bB 131 x 18446744073709551615#64) 0#64) 0#64).toNat : Int)) = false :=
  ne_false (g1_7 x n 0 (by decide) hn)
theorem sh10_0 (x n : B64) (k : Nat) (hk : k < 64) (hp : 0 < k) (hn : n.toNat % 64 = k) : (((bB 134 x n).toNat : Int) != ((bB 134 x (BitVec.ofNat 64 k)).toNat : Int)) = false :=
  ne_false (g1_0 x n k hk hn)
theorem sh10_1 (x n : B64) (k : Nat) (hk : k < 64) (hp : 0 < k) (hn : n.toNat % 64 = k) : (((bB 135 x (n + 64#64)).toNat : Int) != ((bB 135 x (BitVec.ofNat 64 k)).toNat : Int)) = false :=
  ne_false (g1_1 x n k hk hn)
theorem sh10_2 (x n : B64) (k : Nat) (hk : k < 64) (hp : 0 < k) (hn : n.toNat % 64 = k) : (((bB 136 x 0#64).toNat : Int) != ((bB 131 x 18446744073709551615#64).toNat : Int)) = false :=
  ne_false (g1_2 x n k hk hn)
theorem sh10_3 (x n : B64) (k : Nat) (hk : k < 64) (hp : 0 < k) (hn : n.toNat % 64 = k) : (((bB 137 x 64#64).toNat : Int) != ((bB 131 x 18446744073709551615#64).toNat : Int)) = false :=
  ne_false (g1_3 x n k hk hn)
theorem sh10_4 (x n : B64) (k : Nat) (hk : k < 64) (hp : 0 < k) (hn : n.toNat % 64 = k) : (((bB 138 (bB 137 x n) n).toNat : Int) != ((bB 131 x 18446744073709551615#64).toNat : Int)) = false :=
  ne_false (g1_4 x n k hk hn)
theorem sh10_5 (x n : B64) (k : Nat) (hk : k < 64) (hp : 0 < k) (hn : n.toNat % 64 = k) : (((bB 137 x n).toNat : Int) != ((bB 138 x (BitVec.ofNat 64 (64 - k))).toNat : Int)) = false :=
  ne_false (g1_5 x n k hk hn)
theorem sh10_6 (x n : B64) (k : Nat) (hk : k < 64) (hp : 0 < k) (hn : n.toNat % 64 = k) : (((bB 137 x n).toNat : Int) != ((bB 132 (bB 134 x (BitVec.ofNat 64 k)) (bB 136 x (BitVec.ofNat 64 (64 - k)))).toNat : Int)) = false :=
  ne_false (g1_6p x n k hk hp hn)
theorem sh10_7 (x n : B64) (k : Nat) (hk : k < 64) (hp : 0 < k) (hn : n.toNat % 64 = k) : (((bB 136 (bB 134 x (BitVec.ofNat 64 k)) (BitVec.ofNat 64 k)).toNat : Int) != ((bB 136 (bB 134 (bB 131 x 18446744073709551615#64) (BitVec.ofNat 64 k)) (BitVec.ofNat 64 k)).toNat : Int)) = false :=
  ne_false (g1_7 x n k hk hn)
theorem sa011 (x n : B64) (hn : n.toNat % 32 = 0) (hs : ((((bB 118 x 31#64)).toNat : Int) == 1) = true) : ((((bB 117 x 0#64).toNat : Int)) != bits .or .u64 ((bB 118 x 0#64).toNat : Int) 0) = false := by
  rw [sign0] at hs
  have e := ga0 x n 0 (by decide) hn false (by simp)
  have e2 := or_arg (bB 118 x 0#64) 0#64
  refine eq_test ?_
  refine Eq.trans ?_ e2.symm
  rw [e, if_neg (by decide)]
theorem sa010 (x n : B64) (hn : n.toNat % 32 = 0) (hs : ((((bB 118 x 31#64)).toNat : Int) == 1) = false) : ((((bB 117 x 0#64).toNat : Int)) != bits .or .u64 ((bB 118 x 0#64).toNat : Int) 0) = false := by
  rw [sign0] at hs
  have e := ga0 x n 0 (by decide) hn false (by simp)
  have e2 := or_arg (bB 118 x 0#64) 0#64
  refine eq_test ?_
  refine Eq.trans ?_ e2.symm
  rw [e, if_neg (by decide)]
theorem sb01 (x n : B64) (hn : n.toNat % 32 = 0) : ((((bB 116 (bB 118 x 0#64) 0#64).toNat : Int)) != bits .andNot .u64 (((bB 113 x 18446744073709551615#64)).toNat : Int) 0) = false := by
  have e := gb0 x n 0 (by decide) hn
  refine eq_test ?_
  have e2 := andNot_arg (bB 113 x 18446744073709551615#64) ((1 : B64) <<< 0 - 1)
  refine Eq.trans ?_ e2.symm
  rw [← e]
theorem sa001 (x n : B64) (k : Nat) (hk : k < 32) (hp : 0 < k) (hn : n.toNat % 32 = k) (hs : ((((bB 118 x 31#64)).toNat : Int) == 1) = true) : ((((bB 117 x (BitVec.ofNat 64 k)).toNat : Int)) != bits .or .u64 ((bB 118 x (BitVec.ofNat 64 k)).toNat : Int) (((bB 116 18446744073709551615#64 (BitVec.ofNat 64 (32 - k))).toNat : Nat) : Int)) = false := by
  rw [sign0] at hs
  have e := ga0 x n k hk hn true (by rw [if_pos ⟨by simpa using hs, hp⟩])
  have e2 := or_arg (bB 118 x (BitVec.ofNat 64 k)) (bB 116 18446744073709551615#64 (BitVec.ofNat 64 (32 - k)))
  refine eq_test ?_
  rw [e2, e, if_pos rfl]
theorem sa000 (x n : B64) (k : Nat) (hk : k < 32) (hp : 0 < k) (hn : n.toNat % 32 = k) (hs : ((((bB 118 x 31#64)).toNat : Int) == 1) = false) : ((((bB 117 x (BitVec.ofNat 64 k)).toNat : Int)) != bits .or .u64 ((bB 118 x (BitVec.ofNat 64 k)).toNat : Int) 0) = false := by
  rw [sign0] at hs
  have e := ga0 x n k hk hn false (by rw [if_neg (fun h => by have := h.1; simp [this] at hs)])
  have e2 := or_arg (bB 118 x (BitVec.ofNat 64 k)) 0#64
  refine eq_test ?_
  refine Eq.trans ?_ e2.symm
  rw [e, if_neg (by decide)]
theorem sb00 (x n : B64) (k : Nat) (hk : k < 32) (hp : 0 < k) (hn : n.toNat % 32 = k) : ((((bB 116 (bB 118 x (BitVec.ofNat 64 k)) (BitVec.ofNat 64 k)).toNat : Int)) != bits .andNot .u64 (((bB 113 x 18446744073709551615#64)).toNat : Int) (IntKind.u64.wrap (IntKind.u64.wrap (2 ^ k) - 1))) = false := by
  have e := gb0 x n k hk hn
  refine eq_test ?_
  have e2 := andNot_arg (bB 113 x 18446744073709551615#64) ((1 : B64) <<< k - 1)
  rw [mask_toNat k (by omega)] at e2
  rw [e2, e]
theorem sa111 (x n : B64) (hn : n.toNat % 64 = 0) (hs : ((((bB 136 x 63#64)).toNat : Int) == 1) = true) : ((((bB 135 x 0#64).toNat : Int)) != bits .or .u64 ((bB 136 x 0#64).toNat : Int) 0) = false := by
  rw [sign1] at hs
  have e := ga1 x n 0 (by decide) hn false (by simp)
  have e2 := or_arg (bB 136 x 0#64) 0#64
  refine eq_test ?_
  refine Eq.trans ?_ e2.symm
  rw [e, if_neg (by decide)]
theorem sa110 (x n : B64) (hn : n.toNat % 64 = 0) (hs : ((((bB 136 x 63#64)).toNat : Int) == 1) = false) : ((((bB 135 x 0#64).toNat : Int)) != bits .or .u64 ((bB 136 x 0#64).toNat : Int) 0) = false := by
  rw [sign1] at hs
  have e := ga1 x n 0 (by decide) hn false (by simp)
  have e2 := or_arg (bB 136 x 0#64) 0#64
  refine eq_test ?_
  refine Eq.trans ?_ e2.symm
  rw [e, if_neg (by decide)]
theorem sb11 (x n : B64) (hn : n.toNat % 64 = 0) : ((((bB 134 (bB 136 x 0#64) 0#64).toNat : Int)) != bits .andNot .u64 (((bB 131 x 18446744073709551615#64)).toNat : Int) 0) = false := by
  have e := gb1 x n 0 (by decide) hn
  refine eq_test ?_
  have e2 := andNot_arg (bB 131 x 18446744073709551615#64) ((1 : B64) <<< 0 - 1)
  refine Eq.trans ?_ e2.symm
  rw [← e]
theorem sa101 (x n : B64) (k : Nat) (hk : k < 64) (hp : 0 < k) (hn : n.toNat % 64 = k) (hs : ((((bB 136 x 63#64)).toNat : Int) == 1) = true) : ((((bB 135 x (BitVec.ofNat 64 k)).toNat : Int)) != bits .or .u64 ((bB 136 x (BitVec.ofNat 64 k)).toNat : Int) (((bB 134 18446744073709551615#64 (BitVec.ofNat 64 (64 - k))).toNat : Nat) : Int)) = false := by
  rw [sign1] at hs
  have e := ga1 x n k hk hn true (by rw [if_pos ⟨by simpa using hs, hp⟩])
  have e2 := or_arg (bB 136 x (BitVec.ofNat 64 k)) (bB 134 18446744073709551615#64 (BitVec.ofNat 64 (64 - k)))
  refine eq_test ?_
  rw [e2, e, if_pos rfl]
theorem sa100 (x n : B64) (k : Nat) (hk : k < 64) (hp : 0 < k) (hn : n.toNat % 64 = k) (hs : ((((bB 136 x 63#64)).toNat : Int) == 1) = false) : ((((bB 135 x (BitVec.ofNat 64 k)).toNat : Int)) != bits .or .u64 ((bB 136 x (BitVec.ofNat 64 k)).toNat : Int) 0) = false := by
  rw [sign1] at hs
  have e := ga1 x n k hk hn false (by rw [if_neg (fun h => by have := h.1; simp [this] at hs)])
  have e2 := or_arg (bB 136 x (BitVec.ofNat 64 k)) 0#64
  refine eq_test ?_
  refine Eq.trans ?_ e2.symm
  rw [e, if_neg (by decide)]
theorem sb10 (x n : B64) (k : Nat) (hk : k < 64) (hp : 0 < k) (hn : n.toNat % 64 = k) : ((((bB 134 (bB 136 x (BitVec.ofNat 64 k)) (BitVec.ofNat 64 k)).toNat : Int)) != bits .andNot .u64 (((bB 131 x 18446744073709551615#64)).toNat : Int) (IntKind.u64.wrap (IntKind.u64.wrap (2 ^ k) - 1))) = false := by
  have e := gb1 x n k hk hn
  refine eq_test ?_
  have e2 := andNot_arg (bB 131 x 18446744073709551615#64) ((1 : B64) <<< k - 1)
  rw [mask_toNat k (by omega)] at e2
  rw [e2, e]
set_option maxHeartbeats 4000000 in
set_option maxRecDepth 100000 in
theorem shifts_walk (x n : B64) (w : World) : Calls Tryd.prog 6 #[.int .u64 (x.toNat : Int), .int .u64 (n.toNat : Int)] w fun e w' => e = .returned (.bool true) ∧ w' = w := by
  go_enter Tryd.func6, Tryd.ntmps6
  go_wp2_with (go_at_call 10; refine (awake_any _).mono ?_; rintro e w' ⟨rfl, rfl⟩)
  go_loop [5] (fun wv => ∃ k : Nat, k ≤ 2 ∧ wv = .int .i64 k) (fun wv => 2 - (intOf wv).toNat)
  case atStart => exact ⟨0, by omega, rfl⟩
  case round =>
    obtain ⟨j, hj, rfl⟩ := hrel
    rcases (show j = 0 ∨ j = 1 ∨ j = 2 by omega) with rfl | rfl | rfl

    ·
      by_cases hn : n.toNat % 32 = 0
      · have en : (n.toNat : Int) % 32 = 0 := by omega
        have ha : IntKind.u64.wrap ((n.toNat : Int) + 32) = ((n + 32#64).toNat : Int) := add_arg n 32 (by decide)
        have HA := Lib.hid ha
        clear ha
        have f0 := sh01_0 x n hn
        have f1 := sh01_1 x n hn
        have f2 := sh01_2 x n hn
        have f3 := sh01_3 x n hn
        have f4 := sh01_4 x n hn
        have f5 := sh01_5 x n hn
        have f6 := sh01_6 x n hn
        have f7 := sh01_7 x n hn
        have fb := sb01 x n hn
        rcases (show (((((bB 118 x 31#64)).toNat : Int) == 1) = true) ∨ (((((bB 118 x 31#64)).toNat : Int) == 1) = false) from by cases (((((bB 118 x 31#64)).toNat : Int) == 1)) <;> simp) with hs | hs
        ·
          have fa := sa011 x n hn hs
          clear hn
          as_aux_lemma =>
            go_wp2_with (first | (go_at_call 15; (with_reducible refine (lbin_any 113 x 18446744073709551615#64 _ _ _ rfl lit_m (by decide)).mono ?_); rintro e w' ⟨rfl, rfl⟩) | (go_at_call 15; (with_reducible refine (lbin_any 116 x n _ _ _ rfl rfl (by decide)).mono ?_); rintro e w' ⟨rfl, rfl⟩) | (go_at_call 15; (with_reducible refine (lbin_any 116 x 0#64 _ _ _ rfl lit_0 (by decide)).mono ?_); rintro e w' ⟨rfl, rfl⟩) | (go_at_call 15; (with_reducible refine (lbin_any 117 x (n + 32#64) _ _ _ rfl HA.out (by decide)).mono ?_); rintro e w' ⟨rfl, rfl⟩) | (go_at_call 15; (with_reducible refine (lbin_any 117 x 0#64 _ _ _ rfl lit_0 (by decide)).mono ?_); rintro e w' ⟨rfl, rfl⟩) | (go_at_call 15; (with_reducible refine (lbin_any 118 x 0#64 _ _ _ rfl lit_0 (by decide)).mono ?_); rintro e w' ⟨rfl, rfl⟩) | (go_at_call 15; (with_reducible refine (lbin_any 119 x 32#64 _ _ _ rfl lit_32 (by decide)).mono ?_); rintro e w' ⟨rfl, rfl⟩) | (go_at_call 15; (with_reducible refine (lbin_any 119 x n _ _ _ rfl rfl (by decide)).mono ?_); rintro e w' ⟨rfl, rfl⟩) | (go_at_call 15; (with_reducible refine (lbin_any 120 (bB 119 x n) n _ _ _ rfl rfl (by decide)).mono ?_); rintro e w' ⟨rfl, rfl⟩) | (go_at_call 15; (with_reducible refine (lbin_any 120 x 32#64 _ _ _ rfl lit_32 (by decide)).mono ?_); rintro e w' ⟨rfl, rfl⟩) | (go_at_call 17; (with_reducible refine (rest_0 118 x _ _ (by decide)).mono ?_); rintro e w' ⟨rfl, rfl⟩) | (go_at_call 15; (with_reducible refine (lbin_any 114 (bB 116 x 0#64) (bB 118 x 0#64) _ _ _ rfl rfl (by decide)).mono ?_); rintro e w' ⟨rfl, rfl⟩) | (go_at_call 15; (with_reducible refine (lbin_any 118 x 31#64 _ _ _ rfl lit_31 (by decide)).mono ?_); rintro e w' ⟨rfl, rfl⟩) | (go_at_call 15; (with_reducible refine (lbin_any 116 18446744073709551615#64 32#64 _ _ _ lit_m lit_32 (by decide)).mono ?_); rintro e w' ⟨rfl, rfl⟩) | (go_at_call 15; (with_reducible refine (lbin_any 118 x 0#64 _ _ _ rfl lit_0 (by decide)).mono ?_); rintro e w' ⟨rfl, rfl⟩) | (go_at_call 15; (with_reducible refine (lbin_any 118 (bB 116 x 0#64) 0#64 _ _ _ rfl lit_0 (by decide)).mono ?_); rintro e w' ⟨rfl, rfl⟩) | (go_at_call 15; (with_reducible refine (lbin_any 116 (bB 113 x 18446744073709551615#64) 0#64 _ _ _ rfl lit_0 (by decide)).mono ?_); rintro e w' ⟨rfl, rfl⟩) | (go_at_call 15; (with_reducible refine (lbin_any 118 (bB 116 (bB 113 x 18446744073709551615#64) 0#64) 0#64 _ _ _ rfl lit_0 (by decide)).mono ?_); rintro e w' ⟨rfl, rfl⟩) | (go_at_call 15; (with_reducible refine (lbin_any 116 (bB 118 x 0#64) 0#64 _ _ _ rfl lit_0 (by decide)).mono ?_); rintro e w' ⟨rfl, rfl⟩))
            exact ⟨⟨1, by omega, rfl⟩, by simp [intOf]⟩
        ·
          have fa := sa010 x n hn hs
          clear hn
          as_aux_lemma =>
            go_wp2_with (first | (go_at_call 15; (with_reducible refine (lbin_any 113 x 18446744073709551615#64 _ _ _ rfl lit_m (by decide)).mono ?_); rintro e w' ⟨rfl, rfl⟩) | (go_at_call 15; (with_reducible refine (lbin_any 116 x n _ _ _ rfl rfl (by decide)).mono ?_); rintro e w' ⟨rfl, rfl⟩) | (go_at_call 15; (with_reducible refine (lbin_any 116 x 0#64 _ _ _ rfl lit_0 (by decide)).mono ?_); rintro e w' ⟨rfl, rfl⟩) | (go_at_call 15; (with_reducible refine (lbin_any 117 x (n + 32#64) _ _ _ rfl HA.out (by decide)).mono ?_); rintro e w' ⟨rfl, rfl⟩) | (go_at_call 15; (with_reducible refine (lbin_any 117 x 0#64 _ _ _ rfl lit_0 (by decide)).mono ?_); rintro e w' ⟨rfl, rfl⟩) | (go_at_call 15; (with_reducible refine (lbin_any 118 x 0#64 _ _ _ rfl lit_0 (by decide)).mono ?_); rintro e w' ⟨rfl, rfl⟩) | (go_at_call 15; (with_reducible refine (lbin_any 119 x 32#64 _ _ _ rfl lit_32 (by decide)).mono ?_); rintro e w' ⟨rfl, rfl⟩) | (go_at_call 15; (with_reducible refine (lbin_any 119 x n _ _ _ rfl rfl (by decide)).mono ?_); rintro e w' ⟨rfl, rfl⟩) | (go_at_call 15; (with_reducible refine (lbin_any 120 (bB 119 x n) n _ _ _ rfl rfl (by decide)).mono ?_); rintro e w' ⟨rfl, rfl⟩) | (go_at_call 15; (with_reducible refine (lbin_any 120 x 32#64 _ _ _ rfl lit_32 (by decide)).mono ?_); rintro e w' ⟨rfl, rfl⟩) | (go_at_call 17; (with_reducible refine (rest_0 118 x _ _ (by decide)).mono ?_); rintro e w' ⟨rfl, rfl⟩) | (go_at_call 15; (with_reducible refine (lbin_any 114 (bB 116 x 0#64) (bB 118 x 0#64) _ _ _ rfl rfl (by decide)).mono ?_); rintro e w' ⟨rfl, rfl⟩) | (go_at_call 15; (with_reducible refine (lbin_any 118 x 31#64 _ _ _ rfl lit_31 (by decide)).mono ?_); rintro e w' ⟨rfl, rfl⟩) | (go_at_call 15; (with_reducible refine (lbin_any 116 18446744073709551615#64 32#64 _ _ _ lit_m lit_32 (by decide)).mono ?_); rintro e w' ⟨rfl, rfl⟩) | (go_at_call 15; (with_reducible refine (lbin_any 118 x 0#64 _ _ _ rfl lit_0 (by decide)).mono ?_); rintro e w' ⟨rfl, rfl⟩) | (go_at_call 15; (with_reducible refine (lbin_any 118 (bB 116 x 0#64) 0#64 _ _ _ rfl lit_0 (by decide)).mono ?_); rintro e w' ⟨rfl, rfl⟩) | (go_at_call 15; (with_reducible refine (lbin_any 116 (bB 113 x 18446744073709551615#64) 0#64 _ _ _ rfl lit_0 (by decide)).mono ?_); rintro e w' ⟨rfl, rfl⟩) | (go_at_call 15; (with_reducible refine (lbin_any 118 (bB 116 (bB 113 x 18446744073709551615#64) 0#64) 0#64 _ _ _ rfl lit_0 (by decide)).mono ?_); rintro e w' ⟨rfl, rfl⟩) | (go_at_call 15; (with_reducible refine (lbin_any 116 (bB 118 x 0#64) 0#64 _ _ _ rfl lit_0 (by decide)).mono ?_); rintro e w' ⟨rfl, rfl⟩))
            exact ⟨⟨1, by omega, rfl⟩, by simp [intOf]⟩
      · obtain ⟨k, hn⟩ : ∃ k, n.toNat % 32 = k := ⟨_, rfl⟩
        have hk : k < 32 := by omega
        have hp : 0 < k := by omega
        have en : (n.toNat : Int) % 32 = (k : Int) := by omega
        have kt : decide ((k : Int) > 0) = true := by rw [decide_eq_true_eq]; omega
        have HK := Lib.hid (nat_arg k (by omega))
        have hsk : (32 : Int) - (k : Int) = (((BitVec.ofNat 64 (32 - k))).toNat : Int) := sub_arg 32 k (by omega) (by decide)
        have HSK := Lib.hid hsk
        clear hsk
        have ha : IntKind.u64.wrap ((n.toNat : Int) + 32) = ((n + 32#64).toNat : Int) := add_arg n 32 (by decide)
        have HA := Lib.hid ha
        clear ha
        have HP := Lib.hid hp
        have f0 := sh00_0 x n k hk hp hn
        have f1 := sh00_1 x n k hk hp hn
        have f2 := sh00_2 x n k hk hp hn
        have f3 := sh00_3 x n k hk hp hn
        have f4 := sh00_4 x n k hk hp hn
        have f5 := sh00_5 x n k hk hp hn
        have f6 := sh00_6 x n k hk hp hn
        have f7 := sh00_7 x n k hk hp hn
        have fb := sb00 x n k hk hp hn
        rcases (show (((((bB 118 x 31#64)).toNat : Int) == 1) = true) ∨ (((((bB 118 x 31#64)).toNat : Int) == 1) = false) from by cases (((((bB 118 x 31#64)).toNat : Int) == 1)) <;> simp) with hs | hs
        ·
          have fa := sa001 x n k hk hp hn hs
          clear hn
          as_aux_lemma =>
            go_wp2_with (first | (go_at_call 15; (with_reducible refine (lbin_any 113 x 18446744073709551615#64 _ _ _ rfl lit_m (by decide)).mono ?_); rintro e w' ⟨rfl, rfl⟩) | (go_at_call 15; (with_reducible refine (lbin_any 116 x n _ _ _ rfl rfl (by decide)).mono ?_); rintro e w' ⟨rfl, rfl⟩) | (go_at_call 15; (with_reducible refine (lbin_any 116 x (BitVec.ofNat 64 k) _ _ _ rfl HK.out (by decide)).mono ?_); rintro e w' ⟨rfl, rfl⟩) | (go_at_call 15; (with_reducible refine (lbin_any 117 x (n + 32#64) _ _ _ rfl HA.out (by decide)).mono ?_); rintro e w' ⟨rfl, rfl⟩) | (go_at_call 15; (with_reducible refine (lbin_any 117 x (BitVec.ofNat 64 k) _ _ _ rfl HK.out (by decide)).mono ?_); rintro e w' ⟨rfl, rfl⟩) | (go_at_call 15; (with_reducible refine (lbin_any 118 x 0#64 _ _ _ rfl lit_0 (by decide)).mono ?_); rintro e w' ⟨rfl, rfl⟩) | (go_at_call 15; (with_reducible refine (lbin_any 119 x 32#64 _ _ _ rfl lit_32 (by decide)).mono ?_); rintro e w' ⟨rfl, rfl⟩) | (go_at_call 15; (with_reducible refine (lbin_any 119 x n _ _ _ rfl rfl (by decide)).mono ?_); rintro e w' ⟨rfl, rfl⟩) | (go_at_call 15; (with_reducible refine (lbin_any 120 (bB 119 x n) n _ _ _ rfl rfl (by decide)).mono ?_); rintro e w' ⟨rfl, rfl⟩) | (go_at_call 15; (with_reducible refine (lbin_any 120 x (BitVec.ofNat 64 (32 - k)) _ _ _ rfl HSK.out (by decide)).mono ?_); rintro e w' ⟨rfl, rfl⟩) | (go_at_call 17; (refine (rest_1 118 x k 32 _ HP.out (by omega) (by decide) (by decide)).mono ?_); rintro e w' ⟨rfl, rfl⟩) | (go_at_call 15; (with_reducible refine (lbin_any 114 (bB 116 x (BitVec.ofNat 64 k)) (bB 118 x (BitVec.ofNat 64 (32 - k))) _ _ _ rfl rfl (by decide)).mono ?_); rintro e w' ⟨rfl, rfl⟩) | (go_at_call 15; (with_reducible refine (lbin_any 118 x 31#64 _ _ _ rfl lit_31 (by decide)).mono ?_); rintro e w' ⟨rfl, rfl⟩) | (go_at_call 15; (with_reducible refine (lbin_any 116 18446744073709551615#64 (BitVec.ofNat 64 (32 - k)) _ _ _ lit_m HSK.out (by decide)).mono ?_); rintro e w' ⟨rfl, rfl⟩) | (go_at_call 15; (with_reducible refine (lbin_any 118 x (BitVec.ofNat 64 k) _ _ _ rfl HK.out (by decide)).mono ?_); rintro e w' ⟨rfl, rfl⟩) | (go_at_call 15; (with_reducible refine (lbin_any 118 (bB 116 x (BitVec.ofNat 64 k)) (BitVec.ofNat 64 k) _ _ _ rfl HK.out (by decide)).mono ?_); rintro e w' ⟨rfl, rfl⟩) | (go_at_call 15; (with_reducible refine (lbin_any 116 (bB 113 x 18446744073709551615#64) (BitVec.ofNat 64 k) _ _ _ rfl HK.out (by decide)).mono ?_); rintro e w' ⟨rfl, rfl⟩) | (go_at_call 15; (with_reducible refine (lbin_any 118 (bB 116 (bB 113 x 18446744073709551615#64) (BitVec.ofNat 64 k)) (BitVec.ofNat 64 k) _ _ _ rfl HK.out (by decide)).mono ?_); rintro e w' ⟨rfl, rfl⟩) | (go_at_call 15; (with_reducible refine (lbin_any 116 (bB 118 x (BitVec.ofNat 64 k)) (BitVec.ofNat 64 k) _ _ _ rfl HK.out (by decide)).mono ?_); rintro e w' ⟨rfl, rfl⟩))
            exact ⟨⟨1, by omega, rfl⟩, by simp [intOf]⟩
        ·
          have fa := sa000 x n k hk hp hn hs
          clear hn
          as_aux_lemma =>
            go_wp2_with (first | (go_at_call 15; (with_reducible refine (lbin_any 113 x 18446744073709551615#64 _ _ _ rfl lit_m (by decide)).mono ?_); rintro e w' ⟨rfl, rfl⟩) | (go_at_call 15; (with_reducible refine (lbin_any 116 x n _ _ _ rfl rfl (by decide)).mono ?_); rintro e w' ⟨rfl, rfl⟩) | (go_at_call 15; (with_reducible refine (lbin_any 116 x (BitVec.ofNat 64 k) _ _ _ rfl HK.out (by decide)).mono ?_); rintro e w' ⟨rfl, rfl⟩) | (go_at_call 15; (with_reducible refine (lbin_any 117 x (n + 32#64) _ _ _ rfl HA.out (by decide)).mono ?_); rintro e w' ⟨rfl, rfl⟩) | (go_at_call 15; (with_reducible refine (lbin_any 117 x (BitVec.ofNat 64 k) _ _ _ rfl HK.out (by decide)).mono ?_); rintro e w' ⟨rfl, rfl⟩) | (go_at_call 15; (with_reducible refine (lbin_any 118 x 0#64 _ _ _ rfl lit_0 (by decide)).mono ?_); rintro e w' ⟨rfl, rfl⟩) | (go_at_call 15; (with_reducible refine (lbin_any 119 x 32#64 _ _ _ rfl lit_32 (by decide)).mono ?_); rintro e w' ⟨rfl, rfl⟩) | (go_at_call 15; (with_reducible refine (lbin_any 119 x n _ _ _ rfl rfl (by decide)).mono ?_); rintro e w' ⟨rfl, rfl⟩) | (go_at_call 15; (with_reducible refine (lbin_any 120 (bB 119 x n) n _ _ _ rfl rfl (by decide)).mono ?_); rintro e w' ⟨rfl, rfl⟩) | (go_at_call 15; (with_reducible refine (lbin_any 120 x (BitVec.ofNat 64 (32 - k)) _ _ _ rfl HSK.out (by decide)).mono ?_); rintro e w' ⟨rfl, rfl⟩) | (go_at_call 17; (refine (rest_1 118 x k 32 _ HP.out (by omega) (by decide) (by decide)).mono ?_); rintro e w' ⟨rfl, rfl⟩) | (go_at_call 15; (with_reducible refine (lbin_any 114 (bB 116 x (BitVec.ofNat 64 k)) (bB 118 x (BitVec.ofNat 64 (32 - k))) _ _ _ rfl rfl (by decide)).mono ?_); rintro e w' ⟨rfl, rfl⟩) | (go_at_call 15; (with_reducible refine (lbin_any 118 x 31#64 _ _ _ rfl lit_31 (by decide)).mono ?_); rintro e w' ⟨rfl, rfl⟩) | (go_at_call 15; (with_reducible refine (lbin_any 116 18446744073709551615#64 (BitVec.ofNat 64 (32 - k)) _ _ _ lit_m HSK.out (by decide)).mono ?_); rintro e w' ⟨rfl, rfl⟩) | (go_at_call 15; (with_reducible refine (lbin_any 118 x (BitVec.ofNat 64 k) _ _ _ rfl HK.out (by decide)).mono ?_); rintro e w' ⟨rfl, rfl⟩) | (go_at_call 15; (with_reducible refine (lbin_any 118 (bB 116 x (BitVec.ofNat 64 k)) (BitVec.ofNat 64 k) _ _ _ rfl HK.out (by decide)).mono ?_); rintro e w' ⟨rfl, rfl⟩) | (go_at_call 15; (with_reducible refine (lbin_any 116 (bB 113 x 18446744073709551615#64) (BitVec.ofNat 64 k) _ _ _ rfl HK.out (by decide)).mono ?_); rintro e w' ⟨rfl, rfl⟩) | (go_at_call 15; (with_reducible refine (lbin_any 118 (bB 116 (bB 113 x 18446744073709551615#64) (BitVec.ofNat 64 k)) (BitVec.ofNat 64 k) _ _ _ rfl HK.out (by decide)).mono ?_); rintro e w' ⟨rfl, rfl⟩) | (go_at_call 15; (with_reducible refine (lbin_any 116 (bB 118 x (BitVec.ofNat 64 k)) (BitVec.ofNat 64 k) _ _ _ rfl HK.out (by decide)).mono ?_); rintro e w' ⟨rfl, rfl⟩))
            exact ⟨⟨1, by omega, rfl⟩, by simp [intOf]⟩
    ·
      by_cases hn : n.toNat % 64 = 0
      · have en : (n.toNat : Int) % 64 = 0 := by omega
        have ha : IntKind.u64.wrap ((n.toNat : Int) + 64) = ((n + 64#64).toNat : Int) := add_arg n 64 (by decide)
        have HA := Lib.hid ha
        clear ha
        have f0 := sh11_0 x n hn
        have f1 := sh11_1 x n hn
        have f2 := sh11_2 x n hn
        have f3 := sh11_3 x n hn
        have f4 := sh11_4 x n hn
        have f5 := sh11_5 x n hn
        have f6 := sh11_6 x n hn
        have f7 := sh11_7 x n hn
        have fb := sb11 x n hn
        rcases (show (((((bB 136 x 63#64)).toNat : Int) == 1) = true) ∨ (((((bB 136 x 63#64)).toNat : Int) == 1) = false) from by cases (((((bB 136 x 63#64)).toNat : Int) == 1)) <;> simp) with hs | hs
        ·
          have fa := sa111 x n hn hs
          clear hn
          as_aux_lemma =>
            go_wp2_with (first | (go_at_call 15; (with_reducible refine (lbin_any 131 x 18446744073709551615#64 _ _ _ rfl lit_m (by decide)).mono ?_); rintro e w' ⟨rfl, rfl⟩) | (go_at_call 15; (with_reducible refine (lbin_any 134 x n _ _ _ rfl rfl (by decide)).mono ?_); rintro e w' ⟨rfl, rfl⟩) | (go_at_call 15; (with_reducible refine (lbin_any 134 x 0#64 _ _ _ rfl lit_0 (by decide)).mono ?_); rintro e w' ⟨rfl, rfl⟩) | (go_at_call 15; (with_reducible refine (lbin_any 135 x (n + 64#64) _ _ _ rfl HA.out (by decide)).mono ?_); rintro e w' ⟨rfl, rfl⟩) | (go_at_call 15; (with_reducible refine (lbin_any 135 x 0#64 _ _ _ rfl lit_0 (by decide)).mono ?_); rintro e w' ⟨rfl, rfl⟩) | (go_at_call 15; (with_reducible refine (lbin_any 136 x 0#64 _ _ _ rfl lit_0 (by decide)).mono ?_); rintro e w' ⟨rfl, rfl⟩) | (go_at_call 15; (with_reducible refine (lbin_any 137 x 64#64 _ _ _ rfl lit_64 (by decide)).mono ?_); rintro e w' ⟨rfl, rfl⟩) | (go_at_call 15; (with_reducible refine (lbin_any 137 x n _ _ _ rfl rfl (by decide)).mono ?_); rintro e w' ⟨rfl, rfl⟩) | (go_at_call 15; (with_reducible refine (lbin_any 138 (bB 137 x n) n _ _ _ rfl rfl (by decide)).mono ?_); rintro e w' ⟨rfl, rfl⟩) | (go_at_call 15; (with_reducible refine (lbin_any 138 x 64#64 _ _ _ rfl lit_64 (by decide)).mono ?_); rintro e w' ⟨rfl, rfl⟩) | (go_at_call 17; (with_reducible refine (rest_0 136 x _ _ (by decide)).mono ?_); rintro e w' ⟨rfl, rfl⟩) | (go_at_call 15; (with_reducible refine (lbin_any 132 (bB 134 x 0#64) (bB 136 x 0#64) _ _ _ rfl rfl (by decide)).mono ?_); rintro e w' ⟨rfl, rfl⟩) | (go_at_call 15; (with_reducible refine (lbin_any 136 x 63#64 _ _ _ rfl lit_63 (by decide)).mono ?_); rintro e w' ⟨rfl, rfl⟩) | (go_at_call 15; (with_reducible refine (lbin_any 134 18446744073709551615#64 64#64 _ _ _ lit_m lit_64 (by decide)).mono ?_); rintro e w' ⟨rfl, rfl⟩) | (go_at_call 15; (with_reducible refine (lbin_any 136 x 0#64 _ _ _ rfl lit_0 (by decide)).mono ?_); rintro e w' ⟨rfl, rfl⟩) | (go_at_call 15; (with_reducible refine (lbin_any 136 (bB 134 x 0#64) 0#64 _ _ _ rfl lit_0 (by decide)).mono ?_); rintro e w' ⟨rfl, rfl⟩) | (go_at_call 15; (with_reducible refine (lbin_any 134 (bB 131 x 18446744073709551615#64) 0#64 _ _ _ rfl lit_0 (by decide)).mono ?_); rintro e w' ⟨rfl, rfl⟩) | (go_at_call 15; (with_reducible refine (lbin_any 136 (bB 134 (bB 131 x 18446744073709551615#64) 0#64) 0#64 _ _ _ rfl lit_0 (by decide)).mono ?_); rintro e w' ⟨rfl, rfl⟩) | (go_at_call 15; (with_reducible refine (lbin_any 134 (bB 136 x 0#64) 0#64 _ _ _ rfl lit_0 (by decide)).mono ?_); rintro e w' ⟨rfl, rfl⟩))
            exact ⟨⟨2, by omega, rfl⟩, by simp [intOf]⟩
        ·
          have fa := sa110 x n hn hs
          clear hn
          as_aux_lemma =>
            go_wp2_with (first | (go_at_call 15; (with_reducible refine (lbin_any 131 x 18446744073709551615#64 _ _ _ rfl lit_m (by decide)).mono ?_); rintro e w' ⟨rfl, rfl⟩) | (go_at_call 15; (with_reducible refine (lbin_any 134 x n _ _ _ rfl rfl (by decide)).mono ?_); rintro e w' ⟨rfl, rfl⟩) | (go_at_call 15; (with_reducible refine (lbin_any 134 x 0#64 _ _ _ rfl lit_0 (by decide)).mono ?_); rintro e w' ⟨rfl, rfl⟩) | (go_at_call 15; (with_reducible refine (lbin_any 135 x (n + 64#64) _ _ _ rfl HA.out (by decide)).mono ?_); rintro e w' ⟨rfl, rfl⟩) | (go_at_call 15; (with_reducible refine (lbin_any 135 x 0#64 _ _ _ rfl lit_0 (by decide)).mono ?_); rintro e w' ⟨rfl, rfl⟩) | (go_at_call 15; (with_reducible refine (lbin_any 136 x 0#64 _ _ _ rfl lit_0 (by decide)).mono ?_); rintro e w' ⟨rfl, rfl⟩) | (go_at_call 15; (with_reducible refine (lbin_any 137 x 64#64 _ _ _ rfl lit_64 (by decide)).mono ?_); rintro e w' ⟨rfl, rfl⟩) | (go_at_call 15; (with_reducible refine (lbin_any 137 x n _ _ _ rfl rfl (by decide)).mono ?_); rintro e w' ⟨rfl, rfl⟩) | (go_at_call 15; (with_reducible refine (lbin_any 138 (bB 137 x n) n _ _ _ rfl rfl (by decide)).mono ?_); rintro e w' ⟨rfl, rfl⟩) | (go_at_call 15; (with_reducible refine (lbin_any 138 x 64#64 _ _ _ rfl lit_64 (by decide)).mono ?_); rintro e w' ⟨rfl, rfl⟩) | (go_at_call 17; (with_reducible refine (rest_0 136 x _ _ (by decide)).mono ?_); rintro e w' ⟨rfl, rfl⟩) | (go_at_call 15; (with_reducible refine (lbin_any 132 (bB 134 x 0#64) (bB 136 x 0#64) _ _ _ rfl rfl (by decide)).mono ?_); rintro e w' ⟨rfl, rfl⟩) | (go_at_call 15; (with_reducible refine (lbin_any 136 x 63#64 _ _ _ rfl lit_63 (by decide)).mono ?_); rintro e w' ⟨rfl, rfl⟩) | (go_at_call 15; (with_reducible refine (lbin_any 134 18446744073709551615#64 64#64 _ _ _ lit_m lit_64 (by decide)).mono ?_); rintro e w' ⟨rfl, rfl⟩) | (go_at_call 15; (with_reducible refine (lbin_any 136 x 0#64 _ _ _ rfl lit_0 (by decide)).mono ?_); rintro e w' ⟨rfl, rfl⟩) | (go_at_call 15; (with_reducible refine (lbin_any 136 (bB 134 x 0#64) 0#64 _ _ _ rfl lit_0 (by decide)).mono ?_); rintro e w' ⟨rfl, rfl⟩) | (go_at_call 15; (with_reducible refine (lbin_any 134 (bB 131 x 18446744073709551615#64) 0#64 _ _ _ rfl lit_0 (by decide)).mono ?_); rintro e w' ⟨rfl, rfl⟩) | (go_at_call 15; (with_reducible refine (lbin_any 136 (bB 134 (bB 131 x 18446744073709551615#64) 0#64) 0#64 _ _ _ rfl lit_0 (by decide)).mono ?_); rintro e w' ⟨rfl, rfl⟩) | (go_at_call 15; (with_reducible refine (lbin_any 134 (bB 136 x 0#64) 0#64 _ _ _ rfl lit_0 (by decide)).mono ?_); rintro e w' ⟨rfl, rfl⟩))
            exact ⟨⟨2, by omega, rfl⟩, by simp [intOf]⟩
      · obtain ⟨k, hn⟩ : ∃ k, n.toNat % 64 = k := ⟨_, rfl⟩
        have hk : k < 64 := by omega
        have hp : 0 < k := by omega
        have en : (n.toNat : Int) % 64 = (k : Int) := by omega
        have kt : decide ((k : Int) > 0) = true := by rw [decide_eq_true_eq]; omega
        have HK := Lib.hid (nat_arg k (by omega))
        have hsk : (64 : Int) - (k : Int) = (((BitVec.ofNat 64 (64 - k))).toNat : Int) := sub_arg 64 k (by omega) (by decide)
        have HSK := Lib.hid hsk
        clear hsk
        have ha : IntKind.u64.wrap ((n.toNat : Int) + 64) = ((n + 64#64).toNat : Int) := add_arg n 64 (by decide)
        have HA := Lib.hid ha
        clear ha
        have HP := Lib.hid hp
        have f0 := sh10_0 x n k hk hp hn
        have f1 := sh10_1 x n k hk hp hn
        have f2 := sh10_2 x n k hk hp hn
        have f3 := sh10_3 x n k hk hp hn
        have f4 := sh10_4 x n k hk hp hn
        have f5 := sh10_5 x n k hk hp hn
        have f6 := sh10_6 x n k hk hp hn
        have f7 := sh10_7 x n k hk hp hn
        have fb := sb10 x n k hk hp hn
        rcases (show (((((bB 136 x 63#64)).toNat : Int) == 1) = true) ∨ (((((bB 136 x 63#64)).toNat : Int) == 1) = false) from by cases (((((bB 136 x 63#64)).toNat : Int) == 1)) <;> simp) with hs | hs
        ·
          have fa := sa101 x n k hk hp hn hs
          clear hn
          as_aux_lemma =>
            go_wp2_with (first | (go_at_call 15; (with_reducible refine (lbin_any 131 x 18446744073709551615#64 _ _ _ rfl lit_m (by decide)).mono ?_); rintro e w' ⟨rfl, rfl⟩) | (go_at_call 15; (with_reducible refine (lbin_any 134 x n _ _ _ rfl rfl (by decide)).mono ?_); rintro e w' ⟨rfl, rfl⟩) | (go_at_call 15; (with_reducible refine (lbin_any 134 x (BitVec.ofNat 64 k) _ _ _ rfl HK.out (by decide)).mono ?_); rintro e w' ⟨rfl, rfl⟩) | (go_at_call 15; (with_reducible refine (lbin_any 135 x (n + 64#64) _ _ _ rfl HA.out (by decide)).mono ?_); rintro e w' ⟨rfl, rfl⟩) | (go_at_call 15; (with_reducible refine (lbin_any 135 x (BitVec.ofNat 64 k) _ _ _ rfl HK.out (by decide)).mono ?_); rintro e w' ⟨rfl, rfl⟩) | (go_at_call 15; (with_reducible refine (lbin_any 136 x 0#64 _ _ _ rfl lit_0 (by decide)).mono ?_); rintro e w' ⟨rfl, rfl⟩) | (go_at_call 15; (with_reducible refine (lbin_any 137 x 64#64 _ _ _ rfl lit_64 (by decide)).mono ?_); rintro e w' ⟨rfl, rfl⟩) | (go_at_call 15; (with_reducible refine (lbin_any 137 x n _ _ _ rfl rfl (by decide)).mono ?_); rintro e w' ⟨rfl, rfl⟩) | (go_at_call 15; (with_reducible refine (lbin_any 138 (bB 137 x n) n _ _ _ rfl rfl (by decide)).mono ?_); rintro e w' ⟨rfl, rfl⟩) | (go_at_call 15; (with_reducible refine (lbin_any 138 x (BitVec.ofNat 64 (64 - k)) _ _ _ rfl HSK.out (by decide)).mono ?_); rintro e w' ⟨rfl, rfl⟩) | (go_at_call 17; (refine (rest_1 136 x k 64 _ HP.out (by omega) (by decide) (by decide)).mono ?_); rintro e w' ⟨rfl, rfl⟩) | (go_at_call 15; (with_reducible refine (lbin_any 132 (bB 134 x (BitVec.ofNat 64 k)) (bB 136 x (BitVec.ofNat 64 (64 - k))) _ _ _ rfl rfl (by decide)).mono ?_); rintro e w' ⟨rfl, rfl⟩) | (go_at_call 15; (with_reducible refine (lbin_any 136 x 63#64 _ _ _ rfl lit_63 (by decide)).mono ?_); rintro e w' ⟨rfl, rfl⟩) | (go_at_call 15; (with_reducible refine (lbin_any 134 18446744073709551615#64 (BitVec.ofNat 64 (64 - k)) _ _ _ lit_m HSK.out (by decide)).mono ?_); rintro e w' ⟨rfl, rfl⟩) | (go_at_call 15; (with_reducible refine (lbin_any 136 x (BitVec.ofNat 64 k) _ _ _ rfl HK.out (by decide)).mono ?_); rintro e w' ⟨rfl, rfl⟩) | (go_at_call 15; (with_reducible refine (lbin_any 136 (bB 134 x (BitVec.ofNat 64 k)) (BitVec.ofNat 64 k) _ _ _ rfl HK.out (by decide)).mono ?_); rintro e w' ⟨rfl, rfl⟩) | (go_at_call 15; (with_reducible refine (lbin_any 134 (bB 131 x 18446744073709551615#64) (BitVec.ofNat 64 k) _ _ _ rfl HK.out (by decide)).mono ?_); rintro e w' ⟨rfl, rfl⟩) | (go_at_call 15; (with_reducible refine (lbin_any 136 (bB 134 (bB 131 x 18446744073709551615#64) (BitVec.ofNat 64 k)) (BitVec.ofNat 64 k) _ _ _ rfl HK.out (by decide)).mono ?_); rintro e w' ⟨rfl, rfl⟩) | (go_at_call 15; (with_reducible refine (lbin_any 134 (bB 136 x (BitVec.ofNat 64 k)) (BitVec.ofNat 64 k) _ _ _ rfl HK.out (by decide)).mono ?_); rintro e w' ⟨rfl, rfl⟩))
            exact ⟨⟨2, by omega, rfl⟩, by simp [intOf]⟩
        ·
          have fa := sa100 x n k hk hp hn hs
          clear hn
          as_aux_lemma =>
            go_wp2_with (first | (go_at_call 15; (with_reducible refine (lbin_any 131 x 18446744073709551615#64 _ _ _ rfl lit_m (by decide)).mono ?_); rintro e w' ⟨rfl, rfl⟩) | (go_at_call 15; (with_reducible refine (lbin_any 134 x n _ _ _ rfl rfl (by decide)).mono ?_); rintro e w' ⟨rfl, rfl⟩) | (go_at_call 15; (with_reducible refine (lbin_any 134 x (BitVec.ofNat 64 k) _ _ _ rfl HK.out (by decide)).mono ?_); rintro e w' ⟨rfl, rfl⟩) | (go_at_call 15; (with_reducible refine (lbin_any 135 x (n + 64#64) _ _ _ rfl HA.out (by decide)).mono ?_); rintro e w' ⟨rfl, rfl⟩) | (go_at_call 15; (with_reducible refine (lbin_any 135 x (BitVec.ofNat 64 k) _ _ _ rfl HK.out (by decide)).mono ?_); rintro e w' ⟨rfl, rfl⟩) | (go_at_call 15; (with_reducible refine (lbin_any 136 x 0#64 _ _ _ rfl lit_0 (by decide)).mono ?_); rintro e w' ⟨rfl, rfl⟩) | (go_at_call 15; (with_reducible refine (lbin_any 137 x 64#64 _ _ _ rfl lit_64 (by decide)).mono ?_); rintro e w' ⟨rfl, rfl⟩) | (go_at_call 15; (with_reducible refine (lbin_any 137 x n _ _ _ rfl rfl (by decide)).mono ?_); rintro e w' ⟨rfl, rfl⟩) | (go_at_call 15; (with_reducible refine (lbin_any 138 (bB 137 x n) n _ _ _ rfl rfl (by decide)).mono ?_); rintro e w' ⟨rfl, rfl⟩) | (go_at_call 15; (with_reducible refine (lbin_any 138 x (BitVec.ofNat 64 (64 - k)) _ _ _ rfl HSK.out (by decide)).mono ?_); rintro e w' ⟨rfl, rfl⟩) | (go_at_call 17; (refine (rest_1 136 x k 64 _ HP.out (by omega) (by decide) (by decide)).mono ?_); rintro e w' ⟨rfl, rfl⟩) | (go_at_call 15; (with_reducible refine (lbin_any 132 (bB 134 x (BitVec.ofNat 64 k)) (bB 136 x (BitVec.ofNat 64 (64 - k))) _ _ _ rfl rfl (by decide)).mono ?_); rintro e w' ⟨rfl, rfl⟩) | (go_at_call 15; (with_reducible refine (lbin_any 136 x 63#64 _ _ _ rfl lit_63 (by decide)).mono ?_); rintro e w' ⟨rfl, rfl⟩) | (go_at_call 15; (with_reducible refine (lbin_any 134 18446744073709551615#64 (BitVec.ofNat 64 (64 - k)) _ _ _ lit_m HSK.out (by decide)).mono ?_); rintro e w' ⟨rfl, rfl⟩) | (go_at_call 15; (with_reducible refine (lbin_any 136 x (BitVec.ofNat 64 k) _ _ _ rfl HK.out (by decide)).mono ?_); rintro e w' ⟨rfl, rfl⟩) | (go_at_call 15; (with_reducible refine (lbin_any 136 (bB 134 x (BitVec.ofNat 64 k)) (BitVec.ofNat 64 k) _ _ _ rfl HK.out (by decide)).mono ?_); rintro e w' ⟨rfl, rfl⟩) | (go_at_call 15; (with_reducible refine (lbin_any 134 (bB 131 x 18446744073709551615#64) (BitVec.ofNat 64 k) _ _ _ rfl HK.out (by decide)).mono ?_); rintro e w' ⟨rfl, rfl⟩) | (go_at_call 15; (with_reducible refine (lbin_any 136 (bB 134 (bB 131 x 18446744073709551615#64) (BitVec.ofNat 64 k)) (BitVec.ofNat 64 k) _ _ _ rfl HK.out (by decide)).mono ?_); rintro e w' ⟨rfl, rfl⟩) | (go_at_call 15; (with_reducible refine (lbin_any 134 (bB 136 x (BitVec.ofNat 64 k)) (BitVec.ofNat 64 k) _ _ _ rfl HK.out (by decide)).mono ?_); rintro e w' ⟨rfl, rfl⟩))
            exact ⟨⟨2, by omega, rfl⟩, by simp [intOf]⟩
    · go_wp2_with fail
      go_ret
      exact ⟨rfl, rfl⟩

end Go.Proofs.YtllffbdcpilioaaDoor
