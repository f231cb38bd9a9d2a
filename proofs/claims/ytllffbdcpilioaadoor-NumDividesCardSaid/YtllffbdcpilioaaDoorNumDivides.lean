/-
  The walk of plaitlaw03.NumDivides.
-/
import Derived.Test.YtllffbdcpilioaaDoorNumShifts
namespace Go.Proofs.YtllffbdcpilioaaDoor
open Go.RowKit Nm
set_option linter.unusedVariables false
set_option linter.unusedSimpArgs false

theorem bin_c (op : Int) (x y q : B64) (E : Int) (w : World) (h : binB op x y = (q, E)) (hb : -9223372036854775808 ≤ op ∧ op ≤ 9223372036854775807) :
    Calls Tryd.prog 14 #[.int .i64 op, .int .u64 (x.toNat : Int), .int .u64 (y.toNat : Int)] w fun e w' => e = .returned (.tuple #[.int .u64 (q.toNat : Int), .int .i64 E]) ∧ w' = w := by
  have := bin_any op x y w hb
  rw [h] at this
  exact this
theorem low_arg (x : B64) : bits .and .u64 (x.toNat : Int) 4294967295 = ((up (lo x)).toNat : Int) := by
  have h := u64_and_nat x.toNat 4294967295 x.isLt (by decide)
  rw [show ((4294967295 : Nat) : Int) = 4294967295 from rfl] at h
  rw [h, cut_and, BitVec.toNat_and]; rfl
theorem ltz {a b : Nat} (h : a < b) : decide (b ≤ a) = false := by rw [decide_eq_false_iff_not]; omega
theorem gtz {a b : Nat} (h : a ≤ b) : decide (b < a) = false := by rw [decide_eq_false_iff_not]; omega
theorem sgn_test {R S : Int} (h0 : 0 ≤ S → 0 ≤ R) (h1 : S ≤ 0 → R ≤ 0) (hR : R ≠ 0) : (!decide (R < 0) == decide (S < 0)) = false := by
  by_cases h : S < 0
  · rw [decide_eq_true h, decide_eq_true (show R < 0 by have := h1 (by omega); omega)]; rfl
  · rw [decide_eq_false h, decide_eq_false (show ¬ R < 0 by have := h0 (by omega); omega)]; rfl
theorem minus_one {w : Nat} (hw : 0 < w) (y : BitVec w) (h : y.toInt = -1) : y = BitVec.allOnes w := by
  apply BitVec.eq_of_toInt_eq
  rw [h, BitVec.toInt_allOnes]
  simp [hw]
theorem least_32 (x : B32) (h : x.toInt = -2147483648) : x = BitVec.intMin 32 := by
  apply BitVec.eq_of_toInt_eq; rw [h]; rfl
theorem least_64 (x : B64) (h : x.toInt = -9223372036854775808) : x = BitVec.intMin 64 := by
  apply BitVec.eq_of_toInt_eq; rw [h]; rfl
theorem opB_div {w : Nat} (x y : BitVec w) (hy : y ≠ 0) (hov : ¬ (x = BitVec.intMin w ∧ y = BitVec.allOnes w)) : opB 3 x y = (x.sdiv y, 0) := by
  unfold opB; rw [if_neg (fun hh => hy hh.2.2)]; show (if x = BitVec.intMin w ∧ y = BitVec.allOnes w then _ else _) = _; rw [if_neg hov]
theorem opB_over {w : Nat} (hw : BitVec.allOnes w ≠ 0) : opB 3 (BitVec.intMin w) (BitVec.allOnes w) = (0, 22) := by
  unfold opB; rw [if_neg (fun hh => hw hh.2.2)]; show (if BitVec.intMin w = BitVec.intMin w ∧ BitVec.allOnes w = BitVec.allOnes w then _ else _) = _; rw [if_pos ⟨rfl, rfl⟩]
theorem opB_udiv {w : Nat} (x y : BitVec w) (hy : y ≠ 0) : opB 4 x y = (x / y, 0) := by unfold opB; rw [if_neg (fun hh => hy hh.2.2)]; rfl
theorem opB_srem {w : Nat} (x y : BitVec w) (hy : y ≠ 0) : opB 5 x y = (x.srem y, 0) := by unfold opB; rw [if_neg (fun hh => hy hh.2.2)]; rfl
theorem opB_umod {w : Nat} (x y : BitVec w) (hy : y ≠ 0) : opB 6 x y = (x % y, 0) := by unfold opB; rw [if_neg (fun hh => hy hh.2.2)]; rfl
theorem opB_zero {w : Nat} (k : Int) (x : BitVec w) (hk : 3 ≤ k ∧ k ≤ 6) : opB k x 0 = (0, 21) := by unfold opB; rw [if_pos ⟨hk.1, hk.2, rfl⟩]

theorem dvu0 (x y : B64) (hy : (lo y) ≠ 0) : ∃ p m : B64, binB 110 x y = (p, 0) ∧ binB 112 x y = (m, 0) ∧ m.toNat < (up (lo y)).toNat ∧ bB 106 (bB 108 p (up (lo y))) m = (up (lo x)) ∧ p.toNat ≤ (up (lo x)).toNat := by
  refine ⟨up ((lo x) / (lo y)), up ((lo x) % (lo y)), ?_, ?_, ?_, ?_, ?_⟩
  · show (up (opB 4 (lo x) (lo y)).1, (opB 4 (lo x) (lo y)).2) = _; rw [opB_udiv _ _ hy]
  · show (up (opB 6 (lo x) (lo y)).1, (opB 6 (lo x) (lo y)).2) = _; rw [opB_umod _ _ hy]
  · have h := Nat.mod_lt (lo x).toNat (Nat.pos_of_ne_zero (toNat_ne hy))
    have e1 := up_toNat (lo x % lo y); have e2 := up_toNat (lo y); rw [BitVec.toNat_umod] at e1; omega
  · show up (lo (up (lo (up ((lo x) / (lo y))) * lo (up (lo y)))) + lo (up ((lo x) % (lo y)))) = _; simp only [lo_up]
    rw [un_back]
  · have h := Nat.div_le_self (lo x).toNat (lo y).toNat
    have e1 := up_toNat (lo x / lo y); have e2 := up_toNat (lo x); rw [BitVec.toNat_udiv] at e1; omega
theorem dvs0 (x y : B64) (hy : (lo y) ≠ 0) (hov : ¬ ((lo x) = BitVec.intMin 32 ∧ (lo y) = BitVec.allOnes 32)) : ∃ q r : B64, ∃ R : Int, binB 109 x y = (q, 0) ∧ binB 111 x y = (r, 0) ∧ bB 106 (bB 108 q (up (lo y))) r = (up (lo x)) ∧
    R = wrap32 (r.toNat : Int) ∧ R.natAbs < (lo y).toInt.natAbs ∧ (0 ≤ (lo x).toInt → 0 ≤ R) ∧ ((lo x).toInt ≤ 0 → R ≤ 0) := by
  have hd : (lo y).toInt ≠ 0 := toInt_ne32 hy
  have ht := tmod_facts (lo x).toInt (lo y).toInt hd
  refine ⟨up ((lo x).sdiv (lo y)), up ((lo x).srem (lo y)), (lo x).toInt.tmod (lo y).toInt, ?_, ?_, ?_, ?_, ht.1, ht.2.1, ht.2.2⟩
  · show (up (opB 3 (lo x) (lo y)).1, (opB 3 (lo x) (lo y)).2) = _; rw [opB_div _ _ hy hov]
  · show (up (opB 5 (lo x) (lo y)).1, (opB 5 (lo x) (lo y)).2) = _; rw [opB_srem _ _ hy]
  · show up (lo (up (lo (up ((lo x).sdiv (lo y))) * lo (up (lo y)))) + lo (up ((lo x).srem (lo y)))) = _; simp only [lo_up]
    rw [s_back]
  · rw [← BitVec.toInt_srem, ← up_toNat, wrap32_toInt]
theorem dvo0 (x y : B64) (hx : (lo x) = BitVec.intMin 32) (hy : (lo y) = BitVec.allOnes 32) : binB 109 x y = (0#64, 22) ∧ binB 111 x y = (0#64, 0) := by
  have h0 : BitVec.allOnes 32 ≠ 0 := by decide
  refine ⟨?_, ?_⟩
  · show (up (opB 3 (lo x) (lo y)).1, (opB 3 (lo x) (lo y)).2) = _; rw [hx, hy, opB_over h0]; rfl
  · show (up (opB 5 (lo x) (lo y)).1, (opB 5 (lo x) (lo y)).2) = _; rw [hx, hy, opB_srem _ _ h0, show (BitVec.intMin 32).srem (BitVec.allOnes 32) = 0 from rfl]; rfl

theorem dvz0_3 (x y : B64) (hy : (lo y) = 0) : binB 109 x y = (0#64, 21) := by
  show (up (opB 3 (lo x) (lo y)).1, (opB 3 (lo x) (lo y)).2) = _; rw [hy, opB_zero 3 _ (by decide)]; rfl
theorem dvz0_4 (x y : B64) (hy : (lo y) = 0) : binB 110 x y = (0#64, 21) := by
  show (up (opB 4 (lo x) (lo y)).1, (opB 4 (lo x) (lo y)).2) = _; rw [hy, opB_zero 4 _ (by decide)]; rfl
theorem dvz0_5 (x y : B64) (hy : (lo y) = 0) : binB 111 x y = (0#64, 21) := by
  show (up (opB 5 (lo x) (lo y)).1, (opB 5 (lo x) (lo y)).2) = _; rw [hy, opB_zero 5 _ (by decide)]; rfl
theorem dvz0_6 (x y : B64) (hy : (lo y) = 0) : binB 112 x y = (0#64, 21) := by
  show (up (opB 6 (lo x) (lo y)).1, (opB 6 (lo x) (lo y)).2) = _; rw [hy, opB_zero 6 _ (by decide)]; rfl
theorem dvu1 (x y : B64) (hy : y ≠ 0) : ∃ p m : B64, binB 128 x y = (p, 0) ∧ binB 130 x y = (m, 0) ∧ m.toNat < y.toNat ∧ bB 124 (bB 126 p y) m = x ∧ p.toNat ≤ x.toNat := by
  refine ⟨(x / y), (x % y), ?_, ?_, ?_, ?_, ?_⟩
  · show opB 4 x y = _; rw [opB_udiv _ _ hy]
  · show opB 6 x y = _; rw [opB_umod _ _ hy]
  · have h := Nat.mod_lt x.toNat (Nat.pos_of_ne_zero (toNat_ne hy))
    rw [BitVec.toNat_umod]; exact h
  · show (x / y) * y + (x % y) = _
    rw [un_back]
  · have h := Nat.div_le_self x.toNat y.toNat
    rw [BitVec.toNat_udiv]; exact h
theorem dvs1 (x y : B64) (hy : y ≠ 0) (hov : ¬ (x = BitVec.intMin 64 ∧ y = BitVec.allOnes 64)) : ∃ q r : B64, ∃ R : Int, binB 127 x y = (q, 0) ∧ binB 129 x y = (r, 0) ∧ bB 124 (bB 126 q y) r = x ∧
    R = r.toInt ∧ R.natAbs < y.toInt.natAbs ∧ (0 ≤ x.toInt → 0 ≤ R) ∧ (x.toInt ≤ 0 → R ≤ 0) := by
  have hd : y.toInt ≠ 0 := toInt_ne64 hy
  have ht := tmod_facts x.toInt y.toInt hd
  refine ⟨(x.sdiv y), (x.srem y), x.toInt.tmod y.toInt, ?_, ?_, ?_, ?_, ht.1, ht.2.1, ht.2.2⟩
  · show opB 3 x y = _; rw [opB_div _ _ hy hov]
  · show opB 5 x y = _; rw [opB_srem _ _ hy]
  · show (x.sdiv y) * y + (x.srem y) = _
    rw [s_back]
  · rw [← BitVec.toInt_srem]
theorem dvo1 (x y : B64) (hx : x = BitVec.intMin 64) (hy : y = BitVec.allOnes 64) : binB 127 x y = (0#64, 22) ∧ binB 129 x y = (0#64, 0) := by
  have h0 : BitVec.allOnes 64 ≠ 0 := by decide
  refine ⟨?_, ?_⟩
  · show opB 3 x y = _; rw [hx, hy, opB_over h0]; rfl
  · show opB 5 x y = _; rw [hx, hy, opB_srem _ _ h0, show (BitVec.intMin 64).srem (BitVec.allOnes 64) = 0 from rfl]; rfl

theorem dvz1_3 (x y : B64) (hy : y = 0) : binB 127 x y = (0#64, 21) := by
  show opB 3 x y = _; rw [hy, opB_zero 3 _ (by decide)]; rfl
theorem dvz1_4 (x y : B64) (hy : y = 0) : binB 128 x y = (0#64, 21) := by
  show opB 4 x y = _; rw [hy, opB_zero 4 _ (by decide)]; rfl
theorem dvz1_5 (x y : B64) (hy : y = 0) : binB 129 x y = (0#64, 21) := by
  show opB 5 x y = _; rw [hy, opB_zero 5 _ (by decide)]; rfl
theorem dvz1_6 (x y : B64) (hy : y = 0) : binB 130 x y = (0#64, 21) := by
  show opB 6 x y = _; rw [hy, opB_zero 6 _ (by decide)]; rfl
theorem cases0 (x y : B64) : ((((up (lo y)).toNat : Int) == 0) = true ∧ binB 109 x y = (0#64, 21) ∧ binB 110 x y = (0#64, 21) ∧ binB 111 x y = (0#64, 21) ∧ binB 112 x y = (0#64, 21)) ∨ (((up (lo y)).toNat : Int) == 0) = false ∧ (∃ p m : B64, binB 110 x y = (p, 0) ∧ binB 112 x y = (m, 0) ∧ decide ((up (lo y)).toNat ≤ m.toNat) = false ∧ (((bB 106 (bB 108 p (up (lo y))) m).toNat : Int) != ((up (lo x)).toNat : Int)) = false ∧ decide ((up (lo x)).toNat < p.toNat) = false) ∧ ((((sx x).toInt == -2147483648) = true ∧ ((sx y).toInt == -1) = true ∧ binB 109 x y = (0#64, 22) ∧ binB 111 x y = (0#64, 0)) ∨ (∃ q r : B64, ∃ R : Int, binB 109 x y = (q, 0) ∧ binB 111 x y = (r, 0) ∧ (((bB 106 (bB 108 q (up (lo y))) r).toNat : Int) != ((up (lo x)).toNat : Int)) = false ∧ wrap32 (r.toNat : Int) = R ∧ (-9223372036854775808 ≤ R ∧ R ≤ 9223372036854775807) ∧ (((sx x).toInt == -2147483648) = false ∨ ((sx x).toInt == -2147483648) = true ∧ ((sx y).toInt == -1) = false) ∧ ((R != 0) = false ∨ (R != 0) = true ∧ (!decide (R < 0) == decide ((sx x).toInt < 0)) = false) ∧ ((0 < (sx y).toInt ∧ (sx y).toInt ≤ 9223372036854775807 ∧ R < (sx y).toInt ∧ -(sx y).toInt < R) ∨ ((sx y).toInt < 0 ∧ (sx y).toInt ≤ -2147483648 ∧ ((sx y).toInt != -2147483648) = false) ∨ ((sx y).toInt < 0 ∧ -2147483648 < (sx y).toInt ∧ ((sx y).toInt != -2147483648) = true ∧ (sx y).toInt < R ∧ R < -(sx y).toInt)))) := by
  have si := sx_toInt x
  have di := sx_toInt y
  by_cases hy : (lo y) = 0
  · exact .inl ⟨by rw [hy]; rfl, dvz0_3 x y hy, dvz0_4 x y hy, dvz0_5 x y hy, dvz0_6 x y hy⟩
  · refine .inr ⟨test_ne (m := 0) (fun e => toNat_ne hy (by have := up_toNat (lo y); omega)), ?_, ?_⟩
    · obtain ⟨p, m, hp, hm, hmv, hpu, hpl⟩ := dvu0 x y hy
      exact ⟨p, m, hp, hm, ltz hmv, ne_false hpu, gtz hpl⟩
    by_cases hov : (lo x) = BitVec.intMin 32 ∧ (lo y) = BitVec.allOnes 32
    · exact .inl ⟨by rw [si, hov.1]; rfl, by rw [di, hov.2]; rfl, (dvo0 x y hov.1 hov.2).1, (dvo0 x y hov.1 hov.2).2⟩
    · obtain ⟨q, r, R, hq, hr, hqv, hR, hab, hs0, hs1⟩ := dvs0 x y hy hov
      rw [← di] at hab
      rw [← si] at hs0 hs1
      have bR : -9223372036854775808 ≤ R ∧ R ≤ 9223372036854775807 := by rw [hR]; unfold wrap32; omega
      have bD : -2147483648 ≤ (sx y).toInt ∧ (sx y).toInt ≤ 2147483647 := by rw [di, toInt_cases]; have := (lo y).isLt; split <;> omega
      have hd0 : (sx y).toInt ≠ 0 := by rw [di]; exact toInt_ne32 hy
      refine .inr ⟨q, r, R, hq, hr, ne_false hqv, hR.symm, bR, ?_, ?_, ?_⟩
      · by_cases h : (sx x).toInt = -2147483648
        · refine .inr ⟨by rw [h]; rfl, beq_eq_false_iff_ne.2 fun h2 => hov ⟨least_32 _ (by rw [← si]; exact h), minus_one (by decide) _ (by rw [← di]; exact h2)⟩⟩
        · exact .inl (beq_eq_false_iff_ne.2 h)
      · by_cases h : R = 0
        · exact .inl (by simp [h])
        · exact .inr ⟨by simp [h], sgn_test hs0 hs1 h⟩
      · clear hR hqv hq hr
        generalize (sx y).toInt = D at *
        by_cases h : 0 < D
        · exact .inl ⟨h, by omega, by omega, by omega⟩
        · refine .inr ?_
          by_cases h2 : D = -2147483648
          · exact .inl ⟨by omega, by omega, by rw [h2]; rfl⟩
          · exact .inr ⟨by omega, by omega, by simp [h2], by omega, by omega⟩
theorem cases1 (x y : B64) : (((y.toNat : Int) == 0) = true ∧ binB 127 x y = (0#64, 21) ∧ binB 128 x y = (0#64, 21) ∧ binB 129 x y = (0#64, 21) ∧ binB 130 x y = (0#64, 21)) ∨ ((y.toNat : Int) == 0) = false ∧ (∃ p m : B64, binB 128 x y = (p, 0) ∧ binB 130 x y = (m, 0) ∧ decide (y.toNat ≤ m.toNat) = false ∧ (((bB 124 (bB 126 p y) m).toNat : Int) != (x.toNat : Int)) = false ∧ decide (x.toNat < p.toNat) = false) ∧ (((x.toInt == -9223372036854775808) = true ∧ (y.toInt == -1) = true ∧ binB 127 x y = (0#64, 22) ∧ binB 129 x y = (0#64, 0)) ∨ (∃ q r : B64, ∃ R : Int, binB 127 x y = (q, 0) ∧ binB 129 x y = (r, 0) ∧ (((bB 124 (bB 126 q y) r).toNat : Int) != (x.toNat : Int)) = false ∧ wrap64 (r.toNat : Int) = R ∧ (-9223372036854775808 ≤ R ∧ R ≤ 9223372036854775807) ∧ ((x.toInt == -9223372036854775808) = false ∨ (x.toInt == -9223372036854775808) = true ∧ (y.toInt == -1) = false) ∧ ((R != 0) = false ∨ (R != 0) = true ∧ (!decide (R < 0) == decide (x.toInt < 0)) = false) ∧ ((0 < y.toInt ∧ y.toInt ≤ 9223372036854775807 ∧ R < y.toInt ∧ -y.toInt < R) ∨ (y.toInt < 0 ∧ y.toInt ≤ -9223372036854775808 ∧ (y.toInt != -9223372036854775808) = false) ∨ (y.toInt < 0 ∧ -9223372036854775808 < y.toInt ∧ (y.toInt != -9223372036854775808) = true ∧ y.toInt < R ∧ R < -y.toInt)))) := by
  by_cases hy : y = 0
  · exact .inl ⟨by rw [hy]; rfl, dvz1_3 x y hy, dvz1_4 x y hy, dvz1_5 x y hy, dvz1_6 x y hy⟩
  · refine .inr ⟨test_ne (m := 0) (toNat_ne hy), ?_, ?_⟩
    · obtain ⟨p, m, hp, hm, hmv, hpu, hpl⟩ := dvu1 x y hy
      exact ⟨p, m, hp, hm, ltz hmv, ne_false hpu, gtz hpl⟩
    by_cases hov : x = BitVec.intMin 64 ∧ y = BitVec.allOnes 64
    · exact .inl ⟨by rw [hov.1]; rfl, by rw [hov.2]; rfl, (dvo1 x y hov.1 hov.2).1, (dvo1 x y hov.1 hov.2).2⟩
    · obtain ⟨q, r, R, hq, hr, hqv, hR, hab, hs0, hs1⟩ := dvs1 x y hy hov
      have bR : -9223372036854775808 ≤ R ∧ R ≤ 9223372036854775807 := by rw [hR]; have := r.isLt; rw [toInt_cases64]; split <;> omega
      have bD : -9223372036854775808 ≤ y.toInt ∧ y.toInt ≤ 9223372036854775807 := by rw [toInt_cases64]; have := y.isLt; split <;> omega
      have hd0 : y.toInt ≠ 0 := by exact toInt_ne64 hy
      refine .inr ⟨q, r, R, hq, hr, ne_false hqv, by rw [hR]; exact wrap64_toInt r, bR, ?_, ?_, ?_⟩
      · by_cases h : x.toInt = -9223372036854775808
        · refine .inr ⟨by rw [h]; rfl, beq_eq_false_iff_ne.2 fun h2 => hov ⟨least_64 _ (by exact h), minus_one (by decide) _ (by exact h2)⟩⟩
        · exact .inl (beq_eq_false_iff_ne.2 h)
      · by_cases h : R = 0
        · exact .inl (by simp [h])
        · exact .inr ⟨by simp [h], sgn_test hs0 hs1 h⟩
      · clear hR hqv hq hr
        generalize y.toInt = D at *
        by_cases h : 0 < D
        · exact .inl ⟨h, by omega, by omega, by omega⟩
        · refine .inr ?_
          by_cases h2 : D = -9223372036854775808
          · exact .inl ⟨by omega, by omega, by rw [h2]; rfl⟩
          · exact .inr ⟨by omega, by omega, by simp [h2], by omega, by omega⟩
set_option maxHeartbeats 8000000 in
set_option maxRecDepth 100000 in
theorem divides_walk (x y : B64) (w : World) : Calls Tryd.prog 4 #[.int .u64 (x.toNat : Int), .int .u64 (y.toNat : Int)] w fun e w' => e = .returned (.bool true) ∧ w' = w := by
  go_enter Tryd.func4, Tryd.ntmps4
  go_wp2_with (go_at_call 10; refine (awake_any _).mono ?_; rintro e w' ⟨rfl, rfl⟩)
  go_loop [5] (fun wv => ∃ k : Nat, k ≤ 2 ∧ wv = .int .i64 k) (fun wv => 2 - (intOf wv).toNat)
  case atStart => exact ⟨0, by omega, rfl⟩
  case round =>
    obtain ⟨j, hj, rfl⟩ := hrel
    rcases (show j = 0 ∨ j = 1 ∨ j = 2 by omega) with rfl | rfl | rfl
    ·
      have eu := low_arg x
      have ev := low_arg y
      have es := sx_arg x
      have ed := sx_arg y
      have es2 := i64_toInt (sx x)
      have ed2 := i64_toInt (sx y)
      have es3 := wrap64_toInt64 (sx x)
      have ed3 := wrap64_toInt64 (sx y)
      rcases cases0 x y with ⟨v0, h3, h4, h5, h6⟩ | ⟨v0, ⟨p, m, hp, hm, t1, t2, t3⟩, ⟨s1, d1, hq, hr⟩ | ⟨q, r, R, hq, hr, t4, hR2, ⟨bR1, bR2⟩, so, rt, dt⟩⟩
      · have H3 := Lib.hid h3
        have H4 := Lib.hid h4
        have H5 := Lib.hid h5
        have H6 := Lib.hid h6
        clear h3 h4 h5 h6
        as_aux_lemma =>
          go_wp2_with (first | (go_at_call 14; (with_reducible refine (bin_c 109 x y 0#64 21 _ H3.out (by decide)).mono ?_); rintro e w' ⟨rfl, rfl⟩) | (go_at_call 14; (with_reducible refine (bin_c 110 x y 0#64 21 _ H4.out (by decide)).mono ?_); rintro e w' ⟨rfl, rfl⟩) | (go_at_call 14; (with_reducible refine (bin_c 111 x y 0#64 21 _ H5.out (by decide)).mono ?_); rintro e w' ⟨rfl, rfl⟩) | (go_at_call 14; (with_reducible refine (bin_c 112 x y 0#64 21 _ H6.out (by decide)).mono ?_); rintro e w' ⟨rfl, rfl⟩))
          exact ⟨⟨1, by omega, rfl⟩, by simp [intOf]⟩
      · have HP := Lib.hid hp
        have HM := Lib.hid hm
        have HQ := Lib.hid hq
        have HR := Lib.hid hr
        clear hp hm hq hr
        as_aux_lemma =>
          go_wp2_with (first | (go_at_call 14; (with_reducible refine (bin_c 110 x y p 0 _ HP.out (by decide)).mono ?_); rintro e w' ⟨rfl, rfl⟩) | (go_at_call 14; (with_reducible refine (bin_c 112 x y m 0 _ HM.out (by decide)).mono ?_); rintro e w' ⟨rfl, rfl⟩) | (go_at_call 15; (with_reducible refine (lbin_any 108 p (up (lo y)) _ _ _ rfl rfl (by decide)).mono ?_); rintro e w' ⟨rfl, rfl⟩) | (go_at_call 15; (with_reducible refine (lbin_any 106 (bB 108 p (up (lo y))) m _ _ _ rfl rfl (by decide)).mono ?_); rintro e w' ⟨rfl, rfl⟩) | (go_at_call 14; (with_reducible refine (bin_c 109 x y 0#64 22 _ HQ.out (by decide)).mono ?_); rintro e w' ⟨rfl, rfl⟩) | (go_at_call 14; (with_reducible refine (bin_c 111 x y 0#64 0 _ HR.out (by decide)).mono ?_); rintro e w' ⟨rfl, rfl⟩))
          exact ⟨⟨1, by omega, rfl⟩, by simp [intOf]⟩
      · have HP := Lib.hid hp
        have HM := Lib.hid hm
        have HQ := Lib.hid hq
        have HR := Lib.hid hr
        clear hp hm hq hr
        rcases so with so | ⟨so, so2⟩ <;> rcases rt with rt | ⟨rt, rt2⟩ <;> rcases dt with ⟨d1, d2, d3, d4⟩ | ⟨d1, d2, d3⟩ | ⟨d1, d2, d3, d4, d5⟩
        all_goals
          as_aux_lemma =>
            go_wp2_with (first | (go_at_call 14; (with_reducible refine (bin_c 110 x y p 0 _ HP.out (by decide)).mono ?_); rintro e w' ⟨rfl, rfl⟩) | (go_at_call 14; (with_reducible refine (bin_c 112 x y m 0 _ HM.out (by decide)).mono ?_); rintro e w' ⟨rfl, rfl⟩) | (go_at_call 15; (with_reducible refine (lbin_any 108 p (up (lo y)) _ _ _ rfl rfl (by decide)).mono ?_); rintro e w' ⟨rfl, rfl⟩) | (go_at_call 15; (with_reducible refine (lbin_any 106 (bB 108 p (up (lo y))) m _ _ _ rfl rfl (by decide)).mono ?_); rintro e w' ⟨rfl, rfl⟩) | (go_at_call 14; (with_reducible refine (bin_c 109 x y q 0 _ HQ.out (by decide)).mono ?_); rintro e w' ⟨rfl, rfl⟩) | (go_at_call 14; (with_reducible refine (bin_c 111 x y r 0 _ HR.out (by decide)).mono ?_); rintro e w' ⟨rfl, rfl⟩) | (go_at_call 15; (with_reducible refine (lbin_any 108 q (up (lo y)) _ _ _ rfl rfl (by decide)).mono ?_); rintro e w' ⟨rfl, rfl⟩) | (go_at_call 15; (with_reducible refine (lbin_any 106 (bB 108 q (up (lo y))) r _ _ _ rfl rfl (by decide)).mono ?_); rintro e w' ⟨rfl, rfl⟩))
            exact ⟨⟨1, by omega, rfl⟩, by simp [intOf]⟩
    ·
      have es := wrap64_toInt x
      have ed := wrap64_toInt y
      rcases cases1 x y with ⟨v0, h3, h4, h5, h6⟩ | ⟨v0, ⟨p, m, hp, hm, t1, t2, t3⟩, ⟨s1, d1, hq, hr⟩ | ⟨q, r, R, hq, hr, t4, hR2, ⟨bR1, bR2⟩, so, rt, dt⟩⟩
      · have H3 := Lib.hid h3
        have H4 := Lib.hid h4
        have H5 := Lib.hid h5
        have H6 := Lib.hid h6
        clear h3 h4 h5 h6
        as_aux_lemma =>
          go_wp2_with (first | (go_at_call 14; (with_reducible refine (bin_c 127 x y 0#64 21 _ H3.out (by decide)).mono ?_); rintro e w' ⟨rfl, rfl⟩) | (go_at_call 14; (with_reducible refine (bin_c 128 x y 0#64 21 _ H4.out (by decide)).mono ?_); rintro e w' ⟨rfl, rfl⟩) | (go_at_call 14; (with_reducible refine (bin_c 129 x y 0#64 21 _ H5.out (by decide)).mono ?_); rintro e w' ⟨rfl, rfl⟩) | (go_at_call 14; (with_reducible refine (bin_c 130 x y 0#64 21 _ H6.out (by decide)).mono ?_); rintro e w' ⟨rfl, rfl⟩))
          exact ⟨⟨2, by omega, rfl⟩, by simp [intOf]⟩
      · have HP := Lib.hid hp
        have HM := Lib.hid hm
        have HQ := Lib.hid hq
        have HR := Lib.hid hr
        clear hp hm hq hr
        as_aux_lemma =>
          go_wp2_with (first | (go_at_call 14; (with_reducible refine (bin_c 128 x y p 0 _ HP.out (by decide)).mono ?_); rintro e w' ⟨rfl, rfl⟩) | (go_at_call 14; (with_reducible refine (bin_c 130 x y m 0 _ HM.out (by decide)).mono ?_); rintro e w' ⟨rfl, rfl⟩) | (go_at_call 15; (with_reducible refine (lbin_any 126 p y _ _ _ rfl rfl (by decide)).mono ?_); rintro e w' ⟨rfl, rfl⟩) | (go_at_call 15; (with_reducible refine (lbin_any 124 (bB 126 p y) m _ _ _ rfl rfl (by decide)).mono ?_); rintro e w' ⟨rfl, rfl⟩) | (go_at_call 14; (with_reducible refine (bin_c 127 x y 0#64 22 _ HQ.out (by decide)).mono ?_); rintro e w' ⟨rfl, rfl⟩) | (go_at_call 14; (with_reducible refine (bin_c 129 x y 0#64 0 _ HR.out (by decide)).mono ?_); rintro e w' ⟨rfl, rfl⟩))
          exact ⟨⟨2, by omega, rfl⟩, by simp [intOf]⟩
      · have HP := Lib.hid hp
        have HM := Lib.hid hm
        have HQ := Lib.hid hq
        have HR := Lib.hid hr
        clear hp hm hq hr
        rcases so with so | ⟨so, so2⟩ <;> rcases rt with rt | ⟨rt, rt2⟩ <;> rcases dt with ⟨d1, d2, d3, d4⟩ | ⟨d1, d2, d3⟩ | ⟨d1, d2, d3, d4, d5⟩
        all_goals
          as_aux_lemma =>
            go_wp2_with (first | (go_at_call 14; (with_reducible refine (bin_c 128 x y p 0 _ HP.out (by decide)).mono ?_); rintro e w' ⟨rfl, rfl⟩) | (go_at_call 14; (with_reducible refine (bin_c 130 x y m 0 _ HM.out (by decide)).mono ?_); rintro e w' ⟨rfl, rfl⟩) | (go_at_call 15; (with_reducible refine (lbin_any 126 p y _ _ _ rfl rfl (by decide)).mono ?_); rintro e w' ⟨rfl, rfl⟩) | (go_at_call 15; (with_reducible refine (lbin_any 124 (bB 126 p y) m _ _ _ rfl rfl (by decide)).mono ?_); rintro e w' ⟨rfl, rfl⟩) | (go_at_call 14; (with_reducible refine (bin_c 127 x y q 0 _ HQ.out (by decide)).mono ?_); rintro e w' ⟨rfl, rfl⟩) | (go_at_call 14; (with_reducible refine (bin_c 129 x y r 0 _ HR.out (by decide)).mono ?_); rintro e w' ⟨rfl, rfl⟩) | (go_at_call 15; (with_reducible refine (lbin_any 126 q y _ _ _ rfl rfl (by decide)).mono ?_); rintro e w' ⟨rfl, rfl⟩) | (go_at_call 15; (with_reducible refine (lbin_any 124 (bB 126 q y) r _ _ _ rfl rfl (by decide)).mono ?_); rintro e w' ⟨rfl, rfl⟩))
            exact ⟨⟨2, by omega, rfl⟩, by simp [intOf]⟩
    · go_wp2_with fail
      go_ret
      exact ⟨rfl, rfl⟩

end Go.Proofs.YtllffbdcpilioaaDoor
