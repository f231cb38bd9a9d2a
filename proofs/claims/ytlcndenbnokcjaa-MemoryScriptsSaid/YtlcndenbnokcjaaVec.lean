/-
  Plain laws on vectors of 128 bits: the bits from a place on, read and written; lanes; no program in sight.
-/
namespace Pl

abbrev Vec := BitVec 128

/-- The l bits from bit s on. -/
def bitsAt (v : Vec) (s l : Nat) : Nat := v.toNat / 2 ^ s % 2 ^ l
/-- The same vector with the l bits from bit s on replaced by the lowest l bits of x. -/
def putAt (v : Vec) (s l x : Nat) : Vec := BitVec.ofNat 128 (v.toNat ^^^ ((bitsAt v s l ^^^ x % 2 ^ l) <<< s))

theorem testBit_bitsAt (v : Vec) (s l j : Nat) : (bitsAt v s l).testBit j = (decide (j < l) && v.toNat.testBit (s + j)) := by
  unfold bitsAt
  rw [Nat.testBit_mod_two_pow, Nat.testBit_div_two_pow, Nat.add_comm]

theorem testBit_high (v : Vec) (j : Nat) (h : 128 ≤ j) : v.toNat.testBit j = false :=
  Nat.testBit_lt_two_pow (Nat.lt_of_lt_of_le v.isLt (Nat.pow_le_pow_right (by decide) h))

theorem testBit_putAt (v : Vec) (s l x j : Nat) (h : s + l ≤ 128) :
    (putAt v s l x).toNat.testBit j = if s ≤ j ∧ j < s + l then x.testBit (j - s) else v.toNat.testBit j := by
  unfold putAt
  rw [BitVec.toNat_ofNat, Nat.testBit_mod_two_pow, Nat.testBit_xor, Nat.testBit_shiftLeft, Nat.testBit_xor, testBit_bitsAt, Nat.testBit_mod_two_pow]
  by_cases h1 : s ≤ j
  · have e : s + (j - s) = j := by omega
    rw [e]
    by_cases h2 : j < s + l
    · have h3 : j - s < l := by omega
      have h4 : j < 128 := by omega
      simp [h1, h2, h3, h4]
    · have h3 : ¬ (j - s < l) := by omega
      by_cases h4 : j < 128
      · simp [h1, h2, h3, h4]
      · simp [h1, h2, h3, h4, testBit_high v j (by omega)]
  · by_cases h4 : j < 128
    · simp [h1, h4]
    · omega

theorem vec_ext {u v : Vec} (h : ∀ j, j < 128 → u.toNat.testBit j = v.toNat.testBit j) : u = v := by
  apply BitVec.eq_of_toNat_eq
  apply Nat.eq_of_testBit_eq
  intro j
  by_cases hj : j < 128
  · exact h j hj
  · rw [testBit_high u j (by omega), testBit_high v j (by omega)]

theorem bitsAt_lt (v : Vec) (s l : Nat) : bitsAt v s l < 2 ^ l := Nat.mod_lt _ (Nat.two_pow_pos _)

theorem bitsAt_putAt_same (v : Vec) (s l x : Nat) (h : s + l ≤ 128) : bitsAt (putAt v s l x) s l = x % 2 ^ l := by
  apply Nat.eq_of_testBit_eq
  intro j
  rw [testBit_bitsAt, testBit_putAt _ _ _ _ _ h, Nat.testBit_mod_two_pow]
  by_cases hj : j < l
  · rw [if_pos ⟨by omega, by omega⟩]
    simp [hj, show s + j - s = j by omega]
  · simp [hj]

theorem bitsAt_putAt_other (v : Vec) (s l x s' l' : Nat) (h : s + l ≤ 128) (hd : s' + l' ≤ s ∨ s + l ≤ s') : bitsAt (putAt v s l x) s' l' = bitsAt v s' l' := by
  apply Nat.eq_of_testBit_eq
  intro j
  rw [testBit_bitsAt, testBit_bitsAt, testBit_putAt _ _ _ _ _ h]
  by_cases hj : j < l'
  · rw [if_neg (by omega)]
  · simp [hj]

/-- bits within the bits that were put -/
theorem bitsAt_putAt_in (v : Vec) (s l x a m : Nat) (h : s + l ≤ 128) (ha : a + m ≤ l) : bitsAt (putAt v s l x) (s + a) m = x / 2 ^ a % 2 ^ m := by
  apply Nat.eq_of_testBit_eq
  intro j
  rw [testBit_bitsAt, testBit_putAt _ _ _ _ _ h, Nat.testBit_mod_two_pow, Nat.testBit_div_two_pow]
  by_cases hj : j < m
  · rw [if_pos ⟨by omega, by omega⟩]
    simp [hj, show s + a + j - s = j + a by omega]
  · simp [hj]

theorem putAt_zero (v : Vec) (s x : Nat) (h : s ≤ 128) : putAt v s 0 x = v := by
  apply vec_ext
  intro j _
  rw [testBit_putAt _ _ _ _ _ (by omega), if_neg (by omega)]

theorem putAt_more (v : Vec) (s l m x : Nat) (h : s + l + m ≤ 128) : putAt (putAt v s l x) (s + l) m (x / 2 ^ l) = putAt v s (l + m) x := by
  apply vec_ext
  intro j _
  rw [testBit_putAt _ _ _ _ _ h, testBit_putAt _ _ _ _ _ (by omega), testBit_putAt _ _ _ _ _ (by omega), Nat.testBit_div_two_pow]
  by_cases h1 : s + l ≤ j ∧ j < s + l + m
  · rw [if_pos h1, if_pos ⟨by omega, by omega⟩, show j - (s + l) + l = j - s by omega]
  · rw [if_neg h1]
    by_cases h2 : s ≤ j ∧ j < s + l
    · rw [if_pos h2, if_pos ⟨by omega, by omega⟩]
    · rw [if_neg h2, if_neg (by omega)]

theorem putAt_mod (v : Vec) (s l x : Nat) : putAt v s l (x % 2 ^ l) = putAt v s l x := by
  unfold putAt; rw [Nat.mod_mod]

theorem bitsAt_more (v : Vec) (s l m : Nat) : bitsAt v s (l + m) = bitsAt v s l + 2 ^ l * bitsAt v (s + l) m := by
  unfold bitsAt
  rw [Nat.pow_add 2 l m, Nat.mod_mul, Nat.pow_add 2 s l, Nat.div_div_eq_div_mul]

/-! ### lanes -/
def getN (v : Vec) (w i : Nat) : Nat := bitsAt v (w * i) w
def setN (v : Vec) (w i x : Nat) : Vec := putAt v (w * i) w x

theorem getN_lt (v : Vec) (w i : Nat) : getN v w i < 2 ^ w := bitsAt_lt _ _ _

theorem lane_in {w i : Nat} (h : i < 128 / w) : w * i + w ≤ 128 := by
  have h1 : i + 1 ≤ 128 / w := h
  have h2 := Nat.mul_le_mul_left w h1
  have h3 := Nat.mul_div_le 128 w
  rw [Nat.mul_add, Nat.mul_one] at h2
  omega

theorem getN_setN_same (v : Vec) (w i x : Nat) (h : i < 128 / w) : getN (setN v w i x) w i = x % 2 ^ w :=
  bitsAt_putAt_same _ _ _ _ (lane_in h)

theorem getN_setN_other (v : Vec) (w i j x : Nat) (h : i < 128 / w) (hij : j ≠ i) : getN (setN v w i x) w j = getN v w j := by
  unfold getN setN
  refine bitsAt_putAt_other _ _ _ _ _ _ (lane_in h) ?_
  rcases Nat.lt_or_gt_of_ne hij with h1 | h1
  · left
    have := Nat.mul_le_mul_left w (show j + 1 ≤ i from h1)
    rw [Nat.mul_add, Nat.mul_one] at this
    exact this
  · right
    have := Nat.mul_le_mul_left w (show i + 1 ≤ j from h1)
    rw [Nat.mul_add, Nat.mul_one] at this
    exact this

theorem getN_setN (v : Vec) (w i j x : Nat) (h : i < 128 / w) : getN (setN v w i x) w j = if j = i then x % 2 ^ w else getN v w j := by
  split
  · subst j; exact getN_setN_same v w i x h
  · exact getN_setN_other v w i j x h ‹_›

theorem lanes_ext {u v : Vec} (w n : Nat) (hw : 0 < w) (hn : w * n = 128) (h : ∀ i, i < n → getN u w i = getN v w i) : u = v := by
  apply vec_ext
  intro j hj
  have hi : j / w < n := by
    rw [Nat.div_lt_iff_lt_mul hw, Nat.mul_comm]; omega
  have e := congrArg (fun n => n.testBit (j % w)) (h (j / w) hi)
  simp only [getN, testBit_bitsAt, Nat.div_add_mod] at e
  simpa [Nat.mod_lt j hw] using e

theorem setN_mod (v : Vec) (w i x : Nat) : setN v w i (x % 2 ^ w) = setN v w i x := putAt_mod _ _ _ _

theorem setN_congr (v : Vec) (w i x y : Nat) (h : x % 2 ^ w = y % 2 ^ w) : setN v w i x = setN v w i y := by
  rw [← setN_mod v w i x, h, setN_mod]

/-- Lanes from 0 on, written one behind the other over v. -/
def buildOn (v : Vec) (w : Nat) (f : Nat → Nat) : Nat → Vec
  | 0 => v
  | n + 1 => setN (buildOn v w f n) w n (f n)

theorem getN_buildOn (v : Vec) (w : Nat) (f : Nat → Nat) (n j : Nat) (h : n ≤ 128 / w) : getN (buildOn v w f n) w j = if j < n then f j % 2 ^ w else getN v w j := by
  induction n with
  | zero => simp [buildOn]
  | succ n ih =>
    rw [buildOn, getN_setN _ _ _ _ _ (by omega), ih (by omega)]
    by_cases h1 : j = n
    · subst h1; simp
    · rw [if_neg h1]
      by_cases h2 : j < n
      · rw [if_pos h2, if_pos (by omega)]
      · rw [if_neg h2, if_neg (by omega)]

theorem buildOn_congr (v : Vec) (w : Nat) (f g : Nat → Nat) (n : Nat) (h : ∀ i, i < n → f i % 2 ^ w = g i % 2 ^ w) : buildOn v w f n = buildOn v w g n := by
  induction n with
  | zero => rfl
  | succ n ih => rw [buildOn, buildOn, ih (fun i hi => h i (by omega)), setN_congr _ _ _ _ _ (h n (by omega))]

/-- All lanes written: what they were written over is nothing to it. -/
theorem buildOn_all (u v : Vec) (w : Nat) (f g : Nat → Nat) (n : Nat) (hw : 0 < w) (hn : w * n = 128) (h : ∀ i, i < n → f i % 2 ^ w = g i % 2 ^ w) : buildOn u w f n = buildOn v w g n := by
  have hd : n ≤ 128 / w := by rw [Nat.le_div_iff_mul_le hw, Nat.mul_comm]; omega
  refine lanes_ext w n hw hn fun i hi => ?_
  rw [getN_buildOn _ _ _ _ _ hd, getN_buildOn _ _ _ _ _ hd, if_pos hi, if_pos hi, h i hi]

/-- A lane of w bits with its sign. -/
def sgn (w n : Nat) : Int := if n < 2 ^ (w - 1) then n else (n : Int) - 2 ^ w

end Pl
