/-
  The walk of plaitlaw03.NumCounts.
-/
import Derived.Outline
import Derived.Test.YtllffbdcpilioaaDoorNumCnt64
namespace Go.Proofs.YtllffbdcpilioaaDoor
open Go.RowKit _root_.Nm
set_option linter.unusedVariables false
set_option linter.unusedSimpArgs false

/-- The world is as it was but for draws, and the tables stand. -/
structure DU (w0 u : World) : Prop where
  ex : ∃ n, u = w0.drewN n
  t32 : Tab32 u
  t64 : Tab64 u
theorem Tab64.drewN {w : World} (h : Tab64 w) (n : Nat) : Tab64 (w.drewN n) := fun k hk => by
  have := h k hk
  induction n with
  | zero => exact this
  | succ n ih => exact ih
theorem DU.drew {w0 u : World} (h : DU w0 u) (n : Nat) : DU w0 (u.drewN n) := ⟨by obtain ⟨m, rfl⟩ := h.ex; exact ⟨_, World.drewN_drewN _ _ _⟩, h.t32.drewN n, h.t64.drewN n⟩
theorem lun_n {op : Int} {z : Int} {v : Nat} {k : Int} {w : World} (h : ∀ u, DU w u → Calls Tryd.prog 18 #[.int .i64 op, .int .u64 z] u fun e w' => e = .returned (.tuple #[.int .u64 (v : Int), .int .i64 k]) ∧ ∃ n, w' = u.drewN n) (hd : DU w w) :
    Calls Tryd.prog 16 #[.int .i64 op, .int .u64 z] w fun e w' => e = .returned (.int .u64 (v : Int)) ∧ ∃ n, w' = w.drewN n := by
  have H := h w hd
  clear h
  go_enter Tryd.func16, Tryd.ntmps16
  go_wp2_with (go_at_call 18; refine H.mono ?_; rintro e w' ⟨rfl, n, rfl⟩)
  go_ret
  exact ⟨rfl, _, rfl⟩
theorem DU.self {w0 u : World} (h : DU w0 u) : DU u u := ⟨⟨0, rfl⟩, h.t32, h.t64⟩
theorem b64_of (n : Nat) (hn : n < 18446744073709551616) : (BitVec.ofNat 64 n).toNat = n ∧ (lo (BitVec.ofNat 64 n)).toNat = n % 4294967296 := by
  have h1 : (BitVec.ofNat 64 n).toNat = n := by rw [BitVec.toNat_ofNat]; exact Nat.mod_eq_of_lt hn
  refine ⟨h1, ?_⟩
  show ((BitVec.ofNat 64 n).setWidth 32).toNat = _
  rw [BitVec.toNat_setWidth, h1]
theorem lc_103 (n v : Nat) (z : Int) (w : World) (hz : z = (n : Int)) (hn : n < 18446744073709551616) (hv : 32 - Lib.bitLen (n % 4294967296) = v) (hd : DU w w) : Calls Tryd.prog 16 #[.int .i64 103, .int .u64 z] w fun e w' => e = .returned (.int .u64 (v : Int)) ∧ ∃ n, w' = w.drewN n := by
  subst hz hv
  refine lun_n (k := 0) (fun u hu => ?_) hd
  have h := lz32_op (BitVec.ofNat 64 n) u
  rw [(b64_of n hn).1, (b64_of n hn).2, ofNat_small _ (by omega)] at h
  exact same_drew h
theorem lc_104 (n v : Nat) (z : Int) (w : World) (hz : z = (n : Int)) (hn : n < 18446744073709551616) (hv : Lib.ctz 32 (n % 4294967296) = v) (hd : DU w w) : Calls Tryd.prog 16 #[.int .i64 104, .int .u64 z] w fun e w' => e = .returned (.int .u64 (v : Int)) ∧ ∃ n, w' = w.drewN n := by
  subst hz hv
  refine lun_n (k := 0) (fun u hu => ?_) hd
  have h := tz32_op (BitVec.ofNat 64 n) u hu.t32
  have hl := ctz_le 32 (n % 4294967296)
  rw [(b64_of n hn).1, (b64_of n hn).2, ofNat_small _ (by omega)] at h
  exact same_drew h
theorem lc_105 (n v : Nat) (z : Int) (w : World) (hz : z = (n : Int)) (hn : n < 18446744073709551616) (hv : Lib.onesCount (n % 4294967296) = v) (hd : DU w w) : Calls Tryd.prog 16 #[.int .i64 105, .int .u64 z] w fun e w' => e = .returned (.int .u64 (v : Int)) ∧ ∃ n, w' = w.drewN n := by
  subst hz hv
  refine lun_n (k := 0) (fun u hu => ?_) hd
  have h := ones32_op (BitVec.ofNat 64 n) u
  have hl := pop_le (n % 4294967296)
  rw [(b64_of n hn).1, (b64_of n hn).2, ofNat_small _ (by omega)] at h
  exact h
theorem lc_121 (n v : Nat) (z : Int) (w : World) (hz : z = (n : Int)) (hn : n < 18446744073709551616) (hv : 64 - Lib.bitLen n = v) (hd : DU w w) : Calls Tryd.prog 16 #[.int .i64 121, .int .u64 z] w fun e w' => e = .returned (.int .u64 (v : Int)) ∧ ∃ n, w' = w.drewN n := by
  subst hz hv
  exact lun_n (k := 0) (fun u hu => same_drew (cnt_121 n u hn)) hd
theorem lc_122 (n v : Nat) (z : Int) (w : World) (hz : z = (n : Int)) (hn : n < 18446744073709551616) (hv : Lib.ctz 64 n = v) (hd : DU w w) : Calls Tryd.prog 16 #[.int .i64 122, .int .u64 z] w fun e w' => e = .returned (.int .u64 (v : Int)) ∧ ∃ n, w' = w.drewN n := by
  subst hz hv
  exact lun_n (k := 0) (fun u hu => same_drew (cnt_122 n u hn hu.t64)) hd
theorem lc_123 (n v : Nat) (z : Int) (w : World) (hz : z = (n : Int)) (hn : n < 18446744073709551616) (hv : Lib.onesCount n = v) (hd : DU w w) : Calls Tryd.prog 16 #[.int .i64 123, .int .u64 z] w fun e w' => e = .returned (.int .u64 (v : Int)) ∧ ∃ n, w' = w.drewN n := by
  subst hz hv
  exact lun_n (k := 0) (fun u hu => same_drew (cnt_123 n u hn)) hd

structure C103 (n v : Nat) : Prop where
  out : 32 - Lib.bitLen (n % 4294967296) = v
structure C104 (n v : Nat) : Prop where
  out : Lib.ctz 32 (n % 4294967296) = v
structure C105 (n v : Nat) : Prop where
  out : Lib.onesCount (n % 4294967296) = v
structure C121 (n v : Nat) : Prop where
  out : 64 - Lib.bitLen n = v
structure C122 (n v : Nat) : Prop where
  out : Lib.ctz 64 n = v
structure C123 (n v : Nat) : Prop where
  out : Lib.onesCount n = v

theorem not64 (n : Nat) (hn : n < 18446744073709551616) : 18446744073709551615 ^^^ n = 18446744073709551615 - n := by
  have h := BitVec.toNat_not (x := BitVec.ofNat 64 n)
  have h2 := congrArg BitVec.toNat (BitVec.xor_allOnes (x := BitVec.ofNat 64 n))
  rw [BitVec.toNat_xor, h, BitVec.toNat_allOnes, BitVec.toNat_ofNat, Nat.mod_eq_of_lt hn] at h2
  rw [Nat.xor_comm]
  have e : (2 : Nat) ^ 64 - 1 = 18446744073709551615 := rfl
  rw [e] at h2
  rw [h2]
theorem xor_max (n : Nat) (hn : n < 18446744073709551616) : bits .xor .u64 IntKind.u64.max (n : Int) = ((18446744073709551615 - n : Nat) : Int) := by
  rw [show IntKind.u64.max = ((18446744073709551615 : Nat) : Int) from rfl, u64_xor_nat _ _ (by decide) hn, not64 n hn]
theorem xor_pow (x t m : Nat) (hx : x < 18446744073709551616) (ht : t < 64) (hm : m = x ^^^ 2 ^ t) : bits .xor .u64 (x : Int) (IntKind.u64.wrap (2 ^ t)) = (m : Int) := by
  have hp : (2 : Nat) ^ t < 18446744073709551616 := Nat.lt_of_lt_of_le (Nat.pow_lt_pow_right (by decide) ht) (by decide)
  have e : IntKind.u64.wrap ((2 : Int) ^ t) = ((2 ^ t : Nat) : Int) := by
    rw [show (2 : Int) ^ t = ((2 ^ t : Nat) : Int) by simp]
    exact IntWalk.u64_in _ (by generalize (2 : Nat) ^ t = p at *; omega)
  rw [e, u64_xor_nat _ _ hx hp, hm]
theorem and_dec (n : Nat) (h0 : 0 < n) (hn : n < 18446744073709551616) : bits .and .u64 (n : Int) ((n : Int) - 1) = ((n &&& (n - 1) : Nat) : Int) := by
  rw [show (n : Int) - 1 = ((n - 1 : Nat) : Int) by omega]
  exact u64_and_nat _ _ hn (by omega)
set_option maxHeartbeats 2000000 in
set_option maxRecDepth 100000 in
theorem counts_walk (x : Nat) (w : World) (hx : x < 18446744073709551616) (h32 : Tab32 w) (h64 : Tab64 w) : Calls Tryd.prog 7 #[.int .u64 (x : Int)] w fun e w' => e = .returned (.bool true) ∧ ∃ n, w' = w.drewN n := by
  have hs : DU w w := ⟨⟨0, rfl⟩, h32, h64⟩
  have HX := Lib.hid hx
  clear h32 h64
  go_enter Tryd.func7, Tryd.ntmps7
  go_wp2_with (go_at_call 10; refine (awake_any _).mono ?_; rintro e w' ⟨rfl, h0⟩; obtain rfl := h0.symm)
  go_loopw [3] (fun ov wr => ∃ j : Int, (j = 0 ∨ j = 1 ∨ j = 2) ∧ ov = .int .i64 j ∧ DU w wr) (fun ov _ => (2 - intOf ov).toNat)
  case atStart => exact ⟨0, .inl rfl, rfl, hs⟩
  case round =>
    clear hs
    obtain ⟨j, hj, rfl, hs⟩ := hrel
    rcases hj with rfl | rfl | rfl
    · obtain ⟨n, hn⟩ : ∃ n, n = x % 4294967296 := ⟨_, rfl⟩
      have hnl : n < 4294967296 := by omega
      have e0 : IntKind.u64.wrap ((x : Int) * 4294967296) / 4294967296 = (n : Int) := by rw [IntKind.wrap_u64]; omega
      by_cases h0 : n = 0
      · have H1 : C103 x 32 := ⟨by rw [← hn, h0]; rfl⟩
        have H2 : C104 x 32 := ⟨by rw [← hn, h0]; rfl⟩
        have H3 : C105 x 0 := ⟨by rw [← hn, h0]; decide +kernel⟩
        have t0 : ((n : Int) == 0) = true := by rw [beq_iff_eq]; omega
        have HN := Lib.hid h0
        clear h0 hn
        go_wp2_with fail
        refine (lc_103 x 32 _ _ rfl HX.out H1.out hs.self).mono ?_
        rintro e w' ⟨rfl, k, rfl⟩
        replace hs := hs.drew k
        try rw [World.drewN_drewN] at hs
        go_wp2_with fail
        refine (lc_104 x 32 _ _ rfl HX.out H2.out hs.self).mono ?_
        rintro e w' ⟨rfl, k, rfl⟩
        replace hs := hs.drew k
        try rw [World.drewN_drewN] at hs
        go_wp2_with fail
        refine (lc_105 x 0 _ _ rfl HX.out H3.out hs.self).mono ?_
        rintro e w' ⟨rfl, k, rfl⟩
        replace hs := hs.drew k
        try rw [World.drewN_drewN] at hs
        go_wp2_with fail
        go_roundw
        case rel => first | exact ⟨1, by decide, rfl, hs⟩ | ((repeat apply Exists.intro); exact ⟨⟨1, by decide, rfl, hs⟩, rfl⟩)
        case measure => (simp [intOf] <;> omega)
      · obtain ⟨L, t, p, k1, k2, k3, l1, l2, l3, l4, l5, f1, f2, f3, f4, f5, f6⟩ := counts 32 n (by decide) (by omega) hnl
        have H1 : C103 x (32 - L) := ⟨by rw [← hn, k1]⟩
        have H2 : C104 x t := ⟨by rw [← hn, k2]⟩
        have H3 : C105 x p := ⟨by rw [← hn, k3]⟩
        obtain ⟨c, hc⟩ : ∃ c, c = 32 - L := ⟨_, rfl⟩
        rw [← hc] at H1
        have c1 : c + t < 32 := by omega
        obtain ⟨d, hd⟩ : ∃ d, d = L - 1 := ⟨_, rfl⟩
        have dl : d < 32 := by omega
        have tl : t < 32 := by omega
        have d1 : (31 : Int) - (c : Int) = (d : Int) := by omega
        obtain ⟨g, hg⟩ : ∃ g, g = 64 - t := ⟨_, rfl⟩
        have gl : g ≤ 64 := by omega
        have g1 : (64 : Int) - (t : Int) = (g : Int) := by omega
        have s1 : (n : Int) / 2 ^ d = 1 := by rw [← hd] at f1; exact_mod_cast f1
        have s2 : (n : Int) / 2 ^ t % 2 = 1 := by exact_mod_cast f2
        have s3 : IntKind.u64.wrap ((n : Int) * 2 ^ g) = 0 := by
          rw [← hg] at f3
          rw [IntKind.wrap_u64]
          have : ((n * 2 ^ g % 2 ^ 64 : Nat) : Int) = 0 := by rw [f3]; rfl
          simpa using this
        obtain ⟨q, hq⟩ : ∃ q, q = p - 1 := ⟨_, rfl⟩
        obtain ⟨r, hr⟩ : ∃ r, r = 32 - p := ⟨_, rfl⟩
        have tq : ((q : Int) != (p : Int) - 1) = false := eq_test (by omega)
        have tr : ((r : Int) != 32 - (p : Int)) = false := eq_test (by omega)
        rw [← hq] at f4 f6
        rw [← hr] at f5
        have hand : n &&& (n - 1) ≤ n := Nat.and_le_left
        have A1 := Lib.hid (and_dec n (by omega) (by omega))
        have A2 := Lib.hid (xor_max n (by omega))
        have B2 := Lib.hid (show 18446744073709551615 - n < 18446744073709551616 by omega)
        have H4 : C105 (n &&& (n - 1)) q := ⟨by rw [Nat.mod_eq_of_lt (by omega)]; exact f4⟩
        have B1 := Lib.hid (show n &&& (n - 1) < 18446744073709551616 by omega)
        have H5 : C105 (18446744073709551615 - n) r := ⟨by rw [show (18446744073709551615 - n) % 4294967296 = 2 ^ 32 - 1 - n by omega]; exact f5⟩
        obtain ⟨m, hm⟩ : ∃ m, m = x ^^^ 2 ^ t := ⟨_, rfl⟩
        have A3 := Lib.hid (xor_pow x t m hx (by omega) hm)
        have hmn : m % 4294967296 = n ^^^ 2 ^ t := by rw [hm, hn, show (4294967296 : Nat) = 2 ^ 32 from rfl, Nat.xor_mod_two_pow, Nat.mod_eq_of_lt (a := 2 ^ t) (Nat.pow_lt_pow_right (by decide) tl)]
        have H6 : C105 m q := ⟨by rw [hmn]; exact f6⟩
        have B3 := Lib.hid (show m < 18446744073709551616 by rw [hm]; exact Nat.xor_lt_two_pow (n := 64) hx (Nat.pow_lt_pow_right (by decide) (by omega)))
        have HN := Lib.hid hn
        have t0 : ((n : Int) == 0) = false := by rw [beq_eq_false_iff_ne]; omega
        clear k1 k2 k3 f1 f2 f3 f4 f5 f6 hc hd hg hand hq hr hm hmn hn
        go_wp2_with fail
        refine (lc_103 x c _ _ rfl HX.out H1.out hs.self).mono ?_
        rintro e w' ⟨rfl, k, rfl⟩
        replace hs := hs.drew k
        try rw [World.drewN_drewN] at hs
        go_wp2_with fail
        refine (lc_104 x t _ _ rfl HX.out H2.out hs.self).mono ?_
        rintro e w' ⟨rfl, k, rfl⟩
        replace hs := hs.drew k
        try rw [World.drewN_drewN] at hs
        go_wp2_with fail
        refine (lc_105 x p _ _ rfl HX.out H3.out hs.self).mono ?_
        rintro e w' ⟨rfl, k, rfl⟩
        replace hs := hs.drew k
        try rw [World.drewN_drewN] at hs
        clear H1 H2 H3
        go_wp2_with fail
        refine (lc_105 (n &&& (n - 1)) q _ _ A1.out B1.out H4.out hs.self).mono ?_
        rintro e w' ⟨rfl, k, rfl⟩
        replace hs := hs.drew k
        try rw [World.drewN_drewN] at hs
        go_wp2_with fail
        refine (lc_105 (18446744073709551615 - n) r _ _ A2.out B2.out H5.out hs.self).mono ?_
        rintro e w' ⟨rfl, k, rfl⟩
        replace hs := hs.drew k
        try rw [World.drewN_drewN] at hs
        go_wp2_with fail
        refine (lc_105 m q _ _ A3.out B3.out H6.out hs.self).mono ?_
        rintro e w' ⟨rfl, k, rfl⟩
        replace hs := hs.drew k
        try rw [World.drewN_drewN] at hs
        go_wp2_with fail
        go_roundw
        case rel => first | exact ⟨1, by decide, rfl, hs⟩ | ((repeat apply Exists.intro); exact ⟨⟨1, by decide, rfl, hs⟩, rfl⟩)
        case measure => (simp [intOf] <;> omega)
    · skip
      by_cases h0 : x = 0
      · have H1 : C121 x 64 := ⟨by rw [h0]; rfl⟩
        have H2 : C122 x 64 := ⟨by rw [h0]; rfl⟩
        have H3 : C123 x 0 := ⟨by rw [h0]; decide +kernel⟩
        have t0 : ((x : Int) == 0) = true := by rw [beq_iff_eq]; omega
        have HN := Lib.hid h0
        clear h0 
        go_wp2_with fail
        refine (lc_121 x 64 _ _ rfl HX.out H1.out hs.self).mono ?_
        rintro e w' ⟨rfl, k, rfl⟩
        replace hs := hs.drew k
        try rw [World.drewN_drewN] at hs
        go_wp2_with fail
        refine (lc_122 x 64 _ _ rfl HX.out H2.out hs.self).mono ?_
        rintro e w' ⟨rfl, k, rfl⟩
        replace hs := hs.drew k
        try rw [World.drewN_drewN] at hs
        go_wp2_with fail
        refine (lc_123 x 0 _ _ rfl HX.out H3.out hs.self).mono ?_
        rintro e w' ⟨rfl, k, rfl⟩
        replace hs := hs.drew k
        try rw [World.drewN_drewN] at hs
        go_wp2_with fail
        go_roundw
        case rel => first | exact ⟨2, by decide, rfl, hs⟩ | ((repeat apply Exists.intro); exact ⟨⟨2, by decide, rfl, hs⟩, rfl⟩)
        case measure => (simp [intOf] <;> omega)
      · obtain ⟨L, t, p, k1, k2, k3, l1, l2, l3, l4, l5, f1, f2, f3, f4, f5, f6⟩ := counts 64 x (by decide) (by omega) hx
        have H1 : C121 x (64 - L) := ⟨by rw [k1]⟩
        have H2 : C122 x t := ⟨by exact k2⟩
        have H3 : C123 x p := ⟨by exact k3⟩
        obtain ⟨c, hc⟩ : ∃ c, c = 64 - L := ⟨_, rfl⟩
        rw [← hc] at H1
        have c1 : c + t < 64 := by omega
        obtain ⟨d, hd⟩ : ∃ d, d = L - 1 := ⟨_, rfl⟩
        have dl : d < 64 := by omega
        have tl : t < 64 := by omega
        have d1 : (63 : Int) - (c : Int) = (d : Int) := by omega
        obtain ⟨g, hg⟩ : ∃ g, g = 64 - t := ⟨_, rfl⟩
        have gl : g ≤ 64 := by omega
        have g1 : (64 : Int) - (t : Int) = (g : Int) := by omega
        have s1 : (x : Int) / 2 ^ d = 1 := by rw [← hd] at f1; exact_mod_cast f1
        have s2 : (x : Int) / 2 ^ t % 2 = 1 := by exact_mod_cast f2
        have s3 : IntKind.u64.wrap ((x : Int) * 2 ^ g) = 0 := by
          rw [← hg] at f3
          rw [IntKind.wrap_u64]
          have : ((x * 2 ^ g % 2 ^ 64 : Nat) : Int) = 0 := by rw [f3]; rfl
          simpa using this
        obtain ⟨q, hq⟩ : ∃ q, q = p - 1 := ⟨_, rfl⟩
        obtain ⟨r, hr⟩ : ∃ r, r = 64 - p := ⟨_, rfl⟩
        have tq : ((q : Int) != (p : Int) - 1) = false := eq_test (by omega)
        have tr : ((r : Int) != 64 - (p : Int)) = false := eq_test (by omega)
        rw [← hq] at f4 f6
        rw [← hr] at f5
        have hand : x &&& (x - 1) ≤ x := Nat.and_le_left
        have A1 := Lib.hid (and_dec x (by omega) (by omega))
        have A2 := Lib.hid (xor_max x (by omega))
        have B2 := Lib.hid (show 18446744073709551615 - x < 18446744073709551616 by omega)
        have H4 : C123 (x &&& (x - 1)) q := ⟨by exact f4⟩
        have B1 := Lib.hid (show x &&& (x - 1) < 18446744073709551616 by omega)
        have H5 : C123 (18446744073709551615 - x) r := ⟨by exact f5⟩
        obtain ⟨m, hm⟩ : ∃ m, m = x ^^^ 2 ^ t := ⟨_, rfl⟩
        have A3 := Lib.hid (xor_pow x t m hx (by omega) hm)
        skip
        have H6 : C123 m q := ⟨by rw [hm]; exact f6⟩
        have B3 := Lib.hid (show m < 18446744073709551616 by rw [hm]; exact Nat.xor_lt_two_pow (n := 64) hx (Nat.pow_lt_pow_right (by decide) (by omega)))
        skip
        have t0 : ((x : Int) == 0) = false := by rw [beq_eq_false_iff_ne]; omega
        clear k1 k2 k3 f1 f2 f3 f4 f5 f6 hc hd hg hand hq hr hm 
        go_wp2_with fail
        refine (lc_121 x c _ _ rfl HX.out H1.out hs.self).mono ?_
        rintro e w' ⟨rfl, k, rfl⟩
        replace hs := hs.drew k
        try rw [World.drewN_drewN] at hs
        go_wp2_with fail
        refine (lc_122 x t _ _ rfl HX.out H2.out hs.self).mono ?_
        rintro e w' ⟨rfl, k, rfl⟩
        replace hs := hs.drew k
        try rw [World.drewN_drewN] at hs
        go_wp2_with fail
        refine (lc_123 x p _ _ rfl HX.out H3.out hs.self).mono ?_
        rintro e w' ⟨rfl, k, rfl⟩
        replace hs := hs.drew k
        try rw [World.drewN_drewN] at hs
        clear H1 H2 H3
        go_wp2_with fail
        refine (lc_123 (x &&& (x - 1)) q _ _ A1.out B1.out H4.out hs.self).mono ?_
        rintro e w' ⟨rfl, k, rfl⟩
        replace hs := hs.drew k
        try rw [World.drewN_drewN] at hs
        go_wp2_with fail
        refine (lc_123 (18446744073709551615 - x) r _ _ A2.out B2.out H5.out hs.self).mono ?_
        rintro e w' ⟨rfl, k, rfl⟩
        replace hs := hs.drew k
        try rw [World.drewN_drewN] at hs
        go_wp2_with fail
        refine (lc_123 m q _ _ A3.out B3.out H6.out hs.self).mono ?_
        rintro e w' ⟨rfl, k, rfl⟩
        replace hs := hs.drew k
        try rw [World.drewN_drewN] at hs
        go_wp2_with fail
        go_roundw
        case rel => first | exact ⟨2, by decide, rfl, hs⟩ | ((repeat apply Exists.intro); exact ⟨⟨2, by decide, rfl, hs⟩, rfl⟩)
        case measure => (simp [intOf] <;> omega)
    · go_wp2_with fail
      go_ret
      exact ⟨rfl, hs.ex⟩

end Go.Proofs.YtllffbdcpilioaaDoor
