/- A part of the proof that plaittop.CoreLanes returns true. -/
import Derived.KernelRfl
set_option linter.all false
set_option linter.unusedSectionVars false
set_option linter.unusedSimpArgs false
set_option linter.unusedVariables false
section
namespace Ln
abbrev B := BitVec 64
def ln (w i : Nat) (x : B) : Nat := x.toNat / 2 ^ (w * i) % 2 ^ w
def sm (f : Nat → Nat) (w : Nat) : Nat → Nat
 | 0 => 0
 | t + 1 => sm f w t + 2 ^ (w * t) * f t
theorem ln_lt (w i : Nat) (x : B) : ln w i x < 2 ^ w := Nat.mod_lt _ (Nat.two_pow_pos _)
theorem sm_congr {f g : Nat → Nat} {w : Nat} : ∀ {t : Nat}, (∀ i, i < t → f i = g i) → sm f w t = sm g w t
 | 0, _ => rfl
 | t + 1, h => by rw [sm, sm, sm_congr (fun i hi => h i (by omega)), h t (by omega)]
theorem sm_lt {f : Nat → Nat} {w : Nat} : ∀ {t : Nat}, (∀ i, i < t → f i < 2 ^ w) → sm f w t < 2 ^ (w * t)
 | 0, _ => by simp [sm]
 | t + 1, h => by
  have h1 := sm_lt (f := f) (w := w) (t := t) (fun i hi => h i (by omega))
  have h2 : 2 ^ (w * t) * (f t + 1) ≤ 2 ^ (w * t) * 2 ^ w := Nat.mul_le_mul_left _ (h t (by omega))
  rw [Nat.mul_add, Nat.mul_one] at h2
  rw [sm, Nat.mul_add, Nat.mul_one, Nat.pow_add]
  omega
theorem sm_digit {f : Nat → Nat} {w : Nat} : ∀ {t : Nat}, (∀ i, i < t → f i < 2 ^ w) → ∀ i, i < t → sm f w t / 2 ^ (w * i) % 2 ^ w = f i
 | 0, _, i, hi => by omega
 | t + 1, h, i, hi => by
  rw [sm]
  by_cases he : i = t
  ·subst he
   rw [Nat.add_mul_div_left _ _ (Nat.two_pow_pos _), Nat.div_eq_of_lt (sm_lt fun j hj => h j (by omega)), Nat.zero_add, Nat.mod_eq_of_lt (h i hi)]
  ·have e : w * t = w * i + (w + w * (t - i - 1)) := by
    obtain ⟨d, rfl⟩ : ∃ d, t = i + 1 + d := ⟨t - i - 1, by omega⟩
    rw [show i + 1 + d - i - 1 = d by omega, Nat.mul_add, Nat.mul_add, Nat.mul_one, Nat.add_assoc]
   rw [e, Nat.pow_add, Nat.mul_assoc, Nat.add_mul_div_left _ _ (Nat.two_pow_pos _), Nat.pow_add, Nat.mul_assoc, Nat.add_mul_mod_self_left]
   exact sm_digit (fun j hj => h j (by omega)) i (by omega)
theorem mod_sm (X w : Nat) : ∀ t, X % 2 ^ (w * t) = sm (fun i => X / 2 ^ (w * i) % 2 ^ w) w t
 | 0 => by simp [sm, Nat.mod_one]
 | t + 1 => by rw [sm, ← mod_sm X w t, Nat.mul_add, Nat.mul_one, Nat.pow_add, Nat.mod_mul]
theorem of_sm {w n : Nat} (hn : w * n = 64) (x : B) : x.toNat = sm (fun i => ln w i x) w n := by
 have := mod_sm x.toNat w n
 rw [hn, Nat.mod_eq_of_lt x.isLt] at this
 exact this
theorem ln_of {w n : Nat} (hn : w * n = 64) {x : B} {f : Nat → Nat} (hf : ∀ i, i < n → f i < 2 ^ w) (h : x.toNat = sm f w n) {i : Nat} (hi : i < n) : ln w i x = f i := by
 unfold ln; rw [h]; exact sm_digit hf i hi
theorem sm_add (f g : Nat → Nat) (w : Nat) : ∀ t, sm f w t + sm g w t = sm (fun i => f i + g i) w t
 | 0 => rfl
 | t + 1 => by rw [sm, sm, sm, ← sm_add f g w t, Nat.mul_add]; omega
theorem sm_mul (f : Nat → Nat) (c w : Nat) : ∀ t, sm f w t * c = sm (fun i => f i * c) w t
 | 0 => by simp [sm]
 | t + 1 => by rw [sm, sm, ← sm_mul f c w t, Nat.add_mul, Nat.mul_assoc]
theorem ln_add {w n : Nat} (hn : w * n = 64) (x y : B) (h : ∀ i, i < n → ln w i x + ln w i y < 2 ^ w) {i : Nat} (hi : i < n) : ln w i (x + y) = ln w i x + ln w i y := by
 refine ln_of (f := fun i => ln w i x + ln w i y) hn h ?_ hi
 have hl := sm_lt (f := fun i => ln w i x + ln w i y) (t := n) h
 rw [hn] at hl
 rw [BitVec.toNat_add, of_sm hn x, of_sm hn y, sm_add, Nat.mod_eq_of_lt hl]
theorem ln_sub {w n : Nat} (hn : w * n = 64) (x y : B) (h : ∀ i, i < n → ln w i y ≤ ln w i x) {i : Nat} (hi : i < n) : ln w i (x - y) = ln w i x - ln w i y := by
 have e : sm (fun i => ln w i x - ln w i y) w n + y.toNat = x.toNat := by
  rw [of_sm hn x, of_sm hn y, sm_add]
  refine sm_congr fun i hi => ?_
  have := h i hi
  show ln w i x - ln w i y + ln w i y = ln w i x
  omega
 refine ln_of (f := fun i => ln w i x - ln w i y) hn (fun i hi => Nat.lt_of_le_of_lt (Nat.sub_le _ _) (ln_lt w i x)) ?_ hi
 rw [BitVec.toNat_sub_of_le (BitVec.le_def.2 (by omega))]
 omega
theorem ln_mulc {w n : Nat} (hn : w * n = 64) (x : B) (c : Nat) (hc : c < 2 ^ 64) (h : ∀ i, i < n → ln w i x * c < 2 ^ w) {i : Nat} (hi : i < n) : ln w i (x * BitVec.ofNat 64 c) = ln w i x * c := by
 refine ln_of (f := fun i => ln w i x * c) hn h ?_ hi
 have hl := sm_lt (f := fun i => ln w i x * c) (t := n) h
 rw [hn] at hl
 rw [BitVec.toNat_mul, BitVec.toNat_ofNat, Nat.mod_eq_of_lt hc, of_sm hn x, sm_mul, Nat.mod_eq_of_lt hl]
theorem ln_bit (w i j : Nat) (x : B) : (ln w i x).testBit j = (decide (j < w) && x.toNat.testBit (w * i + j)) := by
 unfold ln
 rw [Nat.testBit_mod_two_pow, Nat.testBit_div_two_pow, Nat.add_comm]
theorem ln_and (w i : Nat) (x y : B) : ln w i (x &&& y) = ln w i x &&& ln w i y := by
 apply Nat.eq_of_testBit_eq; intro j
 rw [Nat.testBit_and, ln_bit, ln_bit, ln_bit, BitVec.toNat_and, Nat.testBit_and]
 cases decide (j < w) <;> simp
theorem ln_or (w i : Nat) (x y : B) : ln w i (x ||| y) = ln w i x ||| ln w i y := by
 apply Nat.eq_of_testBit_eq; intro j
 rw [Nat.testBit_or, ln_bit, ln_bit, ln_bit, BitVec.toNat_or, Nat.testBit_or]
 cases decide (j < w) <;> simp
theorem ln_xor (w i : Nat) (x y : B) : ln w i (x ^^^ y) = ln w i x ^^^ ln w i y := by
 apply Nat.eq_of_testBit_eq; intro j
 rw [Nat.testBit_xor, ln_bit, ln_bit, ln_bit, BitVec.toNat_xor, Nat.testBit_xor]
 cases decide (j < w) <;> simp
def WN (w n : Nat) : Prop := w = 8 ∧ n = 8 ∨ w = 16 ∧ n = 4 ∨ w = 32 ∧ n = 2 ∨ w = 64 ∧ n = 1
theorem WN.mul {w n : Nat} (h : WN w n) : w * n = 64 := by rcases h with ⟨rfl, rfl⟩ | ⟨rfl, rfl⟩ | ⟨rfl, rfl⟩ | ⟨rfl, rfl⟩ <;> rfl
theorem WN.pos {w n : Nat} (h : WN w n) : 8 ≤ w ∧ w ≤ 64 := by rcases h with ⟨rfl, rfl⟩ | ⟨rfl, rfl⟩ | ⟨rfl, rfl⟩ | ⟨rfl, rfl⟩ <;> decide
def rep (w c : Nat) : B := BitVec.ofNat 64 (sm (fun _ => c) w (64 / w))
theorem ln_rep {w n : Nat} (h : WN w n) {c : Nat} (hc : c < 2 ^ w) {i : Nat} (hi : i < n) : ln w i (rep w c) = c := by
 have hd : 64 / w = n := by rcases h with ⟨rfl, rfl⟩ | ⟨rfl, rfl⟩ | ⟨rfl, rfl⟩ | ⟨rfl, rfl⟩ <;> rfl
 refine ln_of (f := fun _ => c) h.mul (fun _ _ => hc) ?_ hi
 have hl := sm_lt (f := fun _ => c) (w := w) (t := n) (fun _ _ => hc)
 rw [h.mul] at hl
 rw [rep, hd, BitVec.toNat_ofNat, Nat.mod_eq_of_lt hl]
theorem ln_ext {w n : Nat} (hn : w * n = 64) {x y : B} (h : ∀ i, i < n → ln w i x = ln w i y) : x = y := by
 apply BitVec.eq_of_toNat_eq
 rw [of_sm hn x, of_sm hn y]
 exact sm_congr h
theorem ln_half {w n : Nat} (h : WN w n) (x : B) {i : Nat} (hi : i < n) : ln w i ((x >>> 1) &&& rep w (2 ^ (w - 1) - 1)) = ln w i x / 2 := by
 have hp := h.pos
 have hlt : 2 ^ (w - 1) - 1 < 2 ^ w := by
  have := Nat.pow_le_pow_right (show 0 < 2 by decide) (show w - 1 ≤ w by omega)
  have := Nat.two_pow_pos (w - 1)
  omega
 rw [ln_and, ln_rep h hlt hi]
 apply Nat.eq_of_testBit_eq; intro j
 rw [Nat.testBit_and, Nat.testBit_two_pow_sub_one, ln_bit, Nat.testBit_div_two, ln_bit, BitVec.toNat_ushiftRight, Nat.testBit_shiftRight]
 rw [show 1 + (w * i + j) = w * i + (j + 1) by omega]
 by_cases h1 : j < w - 1
 ·simp [h1, show j < w by omega, show j + 1 < w by omega]
 ·simp [h1, show ¬ j + 1 < w by omega]
theorem xor_and (a : Nat) : ∀ b, a + b = (a ^^^ b) + 2 * (a &&& b) := by
 induction a using Nat.strongRecOn with
 | ind a ih =>
  intro b
  by_cases ha : a = 0
  ·subst ha; simp
  ·have := ih (a / 2) (by omega) (b / 2)
   have e1 : (a ^^^ b) / 2 = a / 2 ^^^ b / 2 := by have := @Nat.xor_div_two_pow a b 1; simpa using this
   have e2 : (a &&& b) / 2 = a / 2 &&& b / 2 := by have := @Nat.and_div_two_pow a b 1; simpa using this
   have e3 : (a ^^^ b) % 2 = (a + b) % 2 := by
    have := @Nat.xor_mod_two_pow a b 1
    simp only [Nat.pow_one] at this
    rw [this]
    rcases Nat.mod_two_eq_zero_or_one a with h | h <;> rcases Nat.mod_two_eq_zero_or_one b with k | k <;> rw [h, k] <;> simp <;> omega
   have e4 : (a &&& b) % 2 = (a % 2) * (b % 2) := by
    have := @Nat.and_mod_two_pow a b 1
    simp only [Nat.pow_one] at this
    rw [this]
    rcases Nat.mod_two_eq_zero_or_one a with h | h <;> rcases Nat.mod_two_eq_zero_or_one b with k | k <;> rw [h, k] <;> rfl
   have h1 := Nat.div_add_mod (a ^^^ b) 2
   have h2 := Nat.div_add_mod (a &&& b) 2
   rw [e1, e3] at h1
   rw [e2, e4] at h2
   rcases Nat.mod_two_eq_zero_or_one a with h | h <;> rcases Nat.mod_two_eq_zero_or_one b with k | k <;> rw [h, k] at h2 <;> omega
theorem or_and (a b : Nat) : a ||| b = (a ^^^ b) + (a &&& b) := by
 have h1 : (a ^^^ b) &&& (a &&& b) = 0 := by
  apply Nat.eq_of_testBit_eq; intro j
  simp only [Nat.testBit_and, Nat.testBit_xor, Nat.zero_testBit]
  cases a.testBit j <;> cases b.testBit j <;> rfl
 have h2 : (a ^^^ b) ^^^ (a &&& b) = a ||| b := by
  apply Nat.eq_of_testBit_eq; intro j
  simp only [Nat.testBit_and, Nat.testBit_xor, Nat.testBit_or]
  cases a.testBit j <;> cases b.testBit j <;> rfl
 have := xor_and (a ^^^ b) (a &&& b)
 rw [h1, h2] at this
 omega
end Ln
end
section
namespace Ln
def TB (c : Nat) (p : Bool) : Nat := if p = true then c else 0
theorem TB_and (c : Nat) (p q : Bool) : TB c p &&& TB c q = TB c (p && q) := by cases p <;> cases q <;> simp [TB]
theorem TB_or (c : Nat) (p q : Bool) : TB c p ||| TB c q = TB c (p || q) := by cases p <;> cases q <;> simp [TB]
theorem TB_xor (c : Nat) (p q : Bool) : TB c p ^^^ TB c q = TB c (p ^^ q) := by cases p <;> cases q <;> simp [TB]
theorem TB_le (c : Nat) (p : Bool) : TB c p ≤ c := by cases p <;> simp [TB]
theorem TB_t (c : Nat) : TB c true = c := rfl
theorem TB_f (c : Nat) : TB c false = 0 := rfl
def tp (w a : Nat) : Bool := decide (2 ^ (w - 1) ≤ a)
theorem pw {w : Nat} (hw : 1 ≤ w) : 2 ^ w = 2 * 2 ^ (w - 1) := by
 obtain ⟨d, rfl⟩ : ∃ d, w = d + 1 := ⟨w - 1, by omega⟩
 rw [Nat.pow_succ]; simp; omega
theorem n_rest (w a : Nat) : a &&& (2 ^ (w - 1) - 1) = a % 2 ^ (w - 1) := Nat.and_two_pow_sub_one_eq_mod _ _
theorem modH {w a : Nat} (hw : 1 ≤ w) (ha : a < 2 ^ w) : a % 2 ^ (w - 1) = if tp w a then a - 2 ^ (w - 1) else a := by
 have e := pw hw
 unfold tp
 by_cases h : 2 ^ (w - 1) ≤ a
 ·rw [if_pos (by simpa using h), Nat.mod_eq_sub_mod h, Nat.mod_eq_of_lt (by omega)]
 ·rw [if_neg (by simpa using h), Nat.mod_eq_of_lt (by omega)]
theorem tp_bit {w a : Nat} (hw : 1 ≤ w) (ha : a < 2 ^ w) : a.testBit (w - 1) = tp w a := by
 have e := pw hw
 have hp := Nat.two_pow_pos (w - 1)
 rw [Nat.testBit_eq_decide_div_mod_eq]
 unfold tp
 congr 1
 by_cases h : 2 ^ (w - 1) ≤ a
 ·have : a / 2 ^ (w - 1) = 1 := by
   have h1 : 1 ≤ a / 2 ^ (w - 1) := (Nat.one_le_div_iff hp).2 h
   have h2 : a / 2 ^ (w - 1) < 2 := (Nat.div_lt_iff_lt_mul hp).2 (by omega)
   omega
  rw [this]; simp [h]
 ·rw [Nat.div_eq_of_lt (by omega)]; simp [h]
theorem n_tops {w a : Nat} (hw : 1 ≤ w) (ha : a < 2 ^ w) : a &&& 2 ^ (w - 1) = TB (2 ^ (w - 1)) (tp w a) := by
 apply Nat.eq_of_testBit_eq; intro j
 rw [Nat.testBit_and, Nat.testBit_two_pow]
 by_cases h : w - 1 = j
 ·subst h
  rw [tp_bit hw ha]
  cases tp w a <;> simp [TB, Nat.testBit_two_pow_self]
 ·cases tp w a <;> simp [TB, h, Nat.testBit_two_pow]
theorem n_ortops {w a : Nat} (hw : 1 ≤ w) (ha : a < 2 ^ w) : a ||| 2 ^ (w - 1) = 2 ^ (w - 1) + a % 2 ^ (w - 1) := by
 have h1 := or_and a (2 ^ (w - 1))
 have h2 := xor_and a (2 ^ (w - 1))
 rw [n_tops hw ha] at h1 h2
 rw [modH hw ha]
 have e : (tp w a = true ↔ 2 ^ (w - 1) ≤ a) := by simp [tp]
 unfold TB at h1 h2
 split at h1 <;> split <;> simp_all <;> omega
theorem n_xortops {w a : Nat} (hw : 1 ≤ w) (ha : a < 2 ^ w) : a ^^^ 2 ^ (w - 1) = if tp w a then a - 2 ^ (w - 1) else a + 2 ^ (w - 1) := by
 have h2 := xor_and a (2 ^ (w - 1))
 rw [n_tops hw ha] at h2
 have e : (tp w a = true ↔ 2 ^ (w - 1) ≤ a) := by simp [tp]
 unfold TB at h2
 split <;> simp_all <;> omega
theorem n_all {w a : Nat} (ha : a < 2 ^ w) : a &&& (2 ^ w - 1) = a := by rw [Nat.and_two_pow_sub_one_eq_mod, Nat.mod_eq_of_lt ha]
theorem n_mask {w a : Nat} (ha : a < 2 ^ w) (p : Bool) : a &&& TB (2 ^ w - 1) p = TB a p := by cases p <;> simp [TB, n_all ha]
theorem n_xorall {w a : Nat} (ha : a < 2 ^ w) : a ^^^ (2 ^ w - 1) = 2 ^ w - 1 - a := by
 have h2 := xor_and a (2 ^ w - 1)
 rw [n_all ha] at h2
 have := Nat.two_pow_pos w
 omega
theorem mask_not (w : Nat) (p : Bool) : TB (2 ^ w - 1) p ^^^ (2 ^ w - 1) = TB (2 ^ w - 1) (!p) := by cases p <;> simp [TB]
theorem mod2 {w s : Nat} (hs : s < 2 * 2 ^ w) : s % 2 ^ w = if s < 2 ^ w then s else s - 2 ^ w := by
 split
 ·exact Nat.mod_eq_of_lt (by assumption)
 ·rw [Nat.mod_eq_sub_mod (by omega), Nat.mod_eq_of_lt (by omega)]
theorem n_tog {w c : Nat} (hw : 1 ≤ w) (hc : c < 2 ^ w) (p : Bool) : c ^^^ TB (2 ^ (w - 1)) p = if p then (if 2 ^ (w - 1) ≤ c then c - 2 ^ (w - 1) else c + 2 ^ (w - 1)) else c := by
 cases p
 ·simp [TB]
 ·rw [TB_t, n_xortops hw hc]; simp [tp]
theorem modH2 {w a : Nat} (hw : 1 ≤ w) (ha : a < 2 ^ w) : a % 2 ^ (w - 1) = if 2 ^ (w - 1) ≤ a then a - 2 ^ (w - 1) else a := by rw [modH hw ha]; simp [tp]
theorem n_add {w a b : Nat} (hw : 1 ≤ w) (ha : a < 2 ^ w) (hb : b < 2 ^ w) : (a % 2 ^ (w - 1) + b % 2 ^ (w - 1)) ^^^ TB (2 ^ (w - 1)) (tp w a ^^ tp w b) = (a + b) % 2 ^ w := by
 have e := pw hw
 have hp := Nat.two_pow_pos (w - 1)
 have h1 := Nat.mod_lt a hp
 have h2 := Nat.mod_lt b hp
 rw [mod2 (w := w) (s := a + b) (by omega), n_tog hw (by omega)]
 have h3 := modH2 hw ha
 have h4 := modH2 hw hb
 unfold tp
 generalize a % 2 ^ (w - 1) = ra at *
 generalize b % 2 ^ (w - 1) = rb at *
 rw [e] at ha hb ⊢
 generalize 2 ^ (w - 1) = H at *
 by_cases hA : H ≤ a <;> by_cases hB : H ≤ b <;> simp only [hA, hB, if_true, if_false, decide_true, decide_false, Bool.xor_self, Bool.xor_false, Bool.xor_true, Bool.not_false, Bool.not_true, Bool.false_eq_true] at h3 h4 ⊢ <;> (repeat' split) <;> omega
theorem n_sub {w a b : Nat} (hw : 1 ≤ w) (ha : a < 2 ^ w) (hb : b < 2 ^ w) : (2 ^ (w - 1) + a % 2 ^ (w - 1) - b % 2 ^ (w - 1)) ^^^ TB (2 ^ (w - 1)) (!(tp w a ^^ tp w b)) = (a + (2 ^ w - b)) % 2 ^ w := by
 have e := pw hw
 have hp := Nat.two_pow_pos (w - 1)
 have h1 := Nat.mod_lt a hp
 have h2 := Nat.mod_lt b hp
 rw [mod2 (w := w) (s := a + (2 ^ w - b)) (by omega), n_tog hw (by omega)]
 have h3 := modH2 hw ha
 have h4 := modH2 hw hb
 unfold tp
 generalize a % 2 ^ (w - 1) = ra at *
 generalize b % 2 ^ (w - 1) = rb at *
 rw [e] at ha hb ⊢
 generalize 2 ^ (w - 1) = H at *
 by_cases hA : H ≤ a <;> by_cases hB : H ≤ b <;> simp only [hA, hB, if_true, if_false, decide_true, decide_false, Bool.xor_self, Bool.xor_false, Bool.xor_true, Bool.not_false, Bool.not_true, Bool.false_eq_true] at h3 h4 ⊢ <;> (repeat' split) <;> omega
def top (w : Nat) : B := rep w (2 ^ (w - 1))
def rst (w : Nat) : B := rep w (2 ^ (w - 1) - 1)
def all : B := BitVec.ofNat 64 18446744073709551615
section
variable {w n : Nat} (h : WN w n) {i : Nat} (hi : i < n)
include h hi
theorem ln_top : ln w i (top w) = 2 ^ (w - 1) := ln_rep h (by have := pw (w := w) (by have := h.pos; omega); have := Nat.two_pow_pos (w - 1); omega) hi
theorem ln_rst : ln w i (rst w) = 2 ^ (w - 1) - 1 := ln_rep h (by have := pw (w := w) (by have := h.pos; omega); have := Nat.two_pow_pos (w - 1); omega) hi
theorem ln_all : ln w i all = 2 ^ w - 1 := by
 have e : all = rep w (2 ^ w - 1) := by rcases h with ⟨rfl, rfl⟩ | ⟨rfl, rfl⟩ | ⟨rfl, rfl⟩ | ⟨rfl, rfl⟩ <;> rfl
 rw [e]; exact ln_rep h (by have := Nat.two_pow_pos w; omega) hi
end
theorem WN.one {w n : Nat} (h : WN w n) : 1 ≤ w := by have := h.pos; omega
def spreadF (w : Nat) (v : B) : B := (v >>> (w - 1)) * BitVec.ofNat 64 (2 ^ w - 1)
theorem ln_spread {w n : Nat} (h : WN w n) {v : B} {p : Nat → Bool} (hv : ∀ i, i < n → ln w i v = TB (2 ^ (w - 1)) (p i)) {i : Nat} (hi : i < n) : ln w i (spreadF w v) = TB (2 ^ w - 1) (p i) := by
 have hp := Nat.two_pow_pos (w - 1)
 have e := pw h.one
 have h1 : ∀ i, i < n → ln w i (v >>> (w - 1)) = TB 1 (p i) := fun i hi => by
  refine ln_of (f := fun i => TB 1 (p i)) h.mul (fun i _ => Nat.lt_of_le_of_lt (TB_le _ _) (by omega)) ?_ hi
  have e2 : sm (fun i => TB (2 ^ (w - 1)) (p i)) w n = sm (fun i => TB 1 (p i)) w n * 2 ^ (w - 1) := by
   rw [sm_mul]
   exact sm_congr fun i _ => by show TB _ _ = TB 1 _ * _; cases p i <;> simp [TB]
  rw [BitVec.toNat_ushiftRight, Nat.shiftRight_eq_div_pow, of_sm h.mul v, sm_congr hv, e2, Nat.mul_div_cancel _ hp]
 have hc : 2 ^ w - 1 < 2 ^ 64 := by
  have := Nat.pow_le_pow_right (show 0 < 2 by decide) h.pos.2
  have := Nat.two_pow_pos w
  omega
 have hm : ∀ i, i < n → ln w i (v >>> (w - 1)) * (2 ^ w - 1) = TB (2 ^ w - 1) (p i) := fun i hi => by rw [h1 i hi]; cases p i <;> simp [TB]
 unfold spreadF
 rw [ln_mulc h.mul _ _ hc (fun i hi => by rw [hm i hi]; exact Nat.lt_of_le_of_lt (TB_le _ _) (by have := Nat.two_pow_pos w; omega)) hi, hm i hi]
def addF (w : Nat) (x y : B) : B := if w = 64 then x + y else ((x &&& rst w) + (y &&& rst w)) ^^^ ((x ^^^ y) &&& top w)
theorem ln_64 (x : B) : ln 64 0 x = x.toNat := by unfold ln; rw [Nat.mul_zero, Nat.pow_zero, Nat.div_one, Nat.mod_eq_of_lt x.isLt]
theorem WN.w64 {n : Nat} (h : WN 64 n) : n = 1 := by rcases h with ⟨h, _⟩ | ⟨h, _⟩ | ⟨h, _⟩ | ⟨_, h⟩ <;> first | exact h | omega
section
variable {w n : Nat} (h : WN w n) (x y : B)
include h
theorem ln_xrest {i : Nat} (hi : i < n) : ln w i (x &&& rst w) = ln w i x % 2 ^ (w - 1) := by rw [ln_and, ln_rst h hi, n_rest]
theorem ln_xtop {i : Nat} (hi : i < n) : ln w i (x &&& top w) = TB (2 ^ (w - 1)) (tp w (ln w i x)) := by rw [ln_and, ln_top h hi, n_tops h.one (ln_lt ..)]
theorem ln_xx {i : Nat} (hi : i < n) : ln w i ((x ^^^ y) &&& top w) = TB (2 ^ (w - 1)) (tp w (ln w i x) ^^ tp w (ln w i y)) := by
 rw [ln_and, ln_top h hi, ln_xor, Nat.and_xor_distrib_right, n_tops h.one (ln_lt ..), n_tops h.one (ln_lt ..), TB_xor]
theorem ln_addF {i : Nat} (hi : i < n) : ln w i (addF w x y) = (ln w i x + ln w i y) % 2 ^ w := by
 unfold addF
 by_cases h64 : w = 64
 ·subst h64
  obtain rfl := h.w64
  obtain rfl : i = 0 := by omega
  rw [if_pos rfl, ln_64, ln_64, ln_64, BitVec.toNat_add]
 ·rw [if_neg h64, ln_xor, ln_xx h x y hi, ln_add h.mul _ _ (fun i hi => ?_) hi, ln_xrest h x hi, ln_xrest h y hi, n_add h.one (ln_lt ..) (ln_lt ..)]
  rw [ln_xrest h x hi, ln_xrest h y hi]
  have e := pw h.one
  have hp := Nat.two_pow_pos (w - 1)
  have := Nat.mod_lt (ln w i x) hp
  have := Nat.mod_lt (ln w i y) hp
  omega
end
theorem TB_not (c : Nat) (p : Bool) : TB c p ^^^ c = TB c (!p) := by cases p <;> simp [TB]
def guardF (w : Nat) (x y : B) : B := (x ||| top w) - (y &&& rst w)
def subF (w : Nat) (x y : B) : B := if w = 64 then x - y else guardF w x y ^^^ (((x ^^^ y) &&& top w) ^^^ top w)
def belowF (w : Nat) (x y : B) : B := ((y &&& (x ^^^ all)) ||| ((guardF w x y ||| (x ^^^ y)) ^^^ all)) &&& top w
section
variable {w n : Nat} (h : WN w n) (x y : B)
include h
theorem ln_guard {i : Nat} (hi : i < n) : ln w i (guardF w x y) = 2 ^ (w - 1) + ln w i x % 2 ^ (w - 1) - ln w i y % 2 ^ (w - 1) := by
 have hg : ∀ i, i < n → ln w i (x ||| top w) = 2 ^ (w - 1) + ln w i x % 2 ^ (w - 1) := fun i hi => by rw [ln_or, ln_top h hi, n_ortops h.one (ln_lt ..)]
 unfold guardF
 rw [ln_sub h.mul _ _ (fun i hi => ?_) hi, hg i hi, ln_xrest h y hi]
 rw [hg i hi, ln_xrest h y hi]
 have := Nat.mod_lt (ln w i y) (Nat.two_pow_pos (w - 1))
 omega
theorem ln_subF {i : Nat} (hi : i < n) : ln w i (subF w x y) = (ln w i x + (2 ^ w - ln w i y)) % 2 ^ w := by
 unfold subF
 by_cases h64 : w = 64
 ·subst h64
  obtain rfl := h.w64
  obtain rfl : i = 0 := by omega
  rw [if_pos rfl, ln_64, ln_64, ln_64, BitVec.toNat_sub, Nat.add_comm]
 ·rw [if_neg h64, ln_xor, ln_xor, ln_xx h x y hi, ln_top h hi, TB_not, ln_guard h x y hi, n_sub h.one (ln_lt ..) (ln_lt ..)]
theorem tp_guard {i : Nat} (hi : i < n) : tp w (ln w i (guardF w x y)) = decide (ln w i y % 2 ^ (w - 1) ≤ ln w i x % 2 ^ (w - 1)) := by
 rw [ln_guard h x y hi]
 unfold tp
 have := Nat.mod_lt (ln w i y) (Nat.two_pow_pos (w - 1))
 have := Nat.mod_lt (ln w i x) (Nat.two_pow_pos (w - 1))
 by_cases hc : ln w i y % 2 ^ (w - 1) ≤ ln w i x % 2 ^ (w - 1) <;> simp [hc] <;> omega
theorem all_top {i : Nat} (hi : i < n) : (2 ^ w - 1) &&& 2 ^ (w - 1) = 2 ^ (w - 1) := by
 have e := pw h.one
 have hp := Nat.two_pow_pos (w - 1)
 rw [Nat.and_comm]
 exact n_all (by omega)
theorem ln_nottop (z : B) {i : Nat} (hi : i < n) : ln w i ((z ^^^ all)) &&& 2 ^ (w - 1) = TB (2 ^ (w - 1)) (!tp w (ln w i z)) := by
 rw [ln_xor, ln_all h hi, Nat.and_xor_distrib_right, n_tops h.one (ln_lt ..), all_top h hi, TB_not]
theorem ln_below {i : Nat} (hi : i < n) : ln w i (belowF w x y) = TB (2 ^ (w - 1)) (decide (ln w i x < ln w i y)) := by
 have ha := ln_lt w i x
 have hb := ln_lt w i y
 unfold belowF
 rw [ln_and, ln_top h hi, ln_or, Nat.and_or_distrib_right, ln_nottop h _ hi, ln_or, ln_and]
 have e1 : ln w i y &&& ln w i (x ^^^ all) &&& 2 ^ (w - 1) = TB (2 ^ (w - 1)) (tp w (ln w i y) && !tp w (ln w i x)) := by
  have : 2 ^ (w - 1) = 2 ^ (w - 1) &&& 2 ^ (w - 1) := (Nat.and_self _).symm
  have e2 : ln w i y &&& ln w i (x ^^^ all) &&& 2 ^ (w - 1) = (ln w i y &&& 2 ^ (w - 1)) &&& (ln w i (x ^^^ all) &&& 2 ^ (w - 1)) := by
   apply Nat.eq_of_testBit_eq; intro j
   simp only [Nat.testBit_and]
   cases (ln w i y).testBit j <;> cases (ln w i (x ^^^ all)).testBit j <;> cases (2 ^ (w - 1)).testBit j <;> rfl
  rw [e2, n_tops h.one hb, ln_nottop h _ hi, TB_and]
 have e3 : tp w (ln w i (guardF w x y) ||| ln w i (x ^^^ y)) = (decide (ln w i y % 2 ^ (w - 1) ≤ ln w i x % 2 ^ (w - 1)) || (tp w (ln w i x) ^^ tp w (ln w i y))) := by
  rw [← tp_bit h.one (Nat.or_lt_two_pow (ln_lt ..) (ln_lt ..)), Nat.testBit_or, tp_bit h.one (ln_lt ..), tp_guard h x y hi, ln_xor, Nat.testBit_xor, tp_bit h.one ha, tp_bit h.one hb]
 rw [e1, e3, TB_or]
 congr 1
 rw [modH h.one ha, modH h.one hb]
 have e := pw h.one
 have ea : (tp w (ln w i x) = true ↔ 2 ^ (w - 1) ≤ ln w i x) := by simp [tp]
 have eb : (tp w (ln w i y) = true ↔ 2 ^ (w - 1) ≤ ln w i y) := by simp [tp]
 generalize ln w i x = a at *
 generalize ln w i y = b at *
 rw [Bool.eq_iff_iff]
 cases hA : tp w a <;> cases hB : tp w b <;> simp [hA, hB] at ea eb ⊢ <;> omega
end
end Ln
end
section
namespace Ln
def sg (w a : Nat) : Int := if a < 2 ^ (w - 1) then a else (a : Int) - 2 ^ w
def lessF (w : Nat) (s : Bool) (x y : B) : B := spreadF w (if s then belowF w (x ^^^ top w) (y ^^^ top w) else belowF w x y)
def filledF (w : Nat) (x : B) : B := (((x &&& rst w) + rst w) ||| x) &&& top w
def cmpF (w kk : Nat) (x y : B) : B :=
 match kk with
 | 0 => spreadF w (filledF w (x ^^^ y)) ^^^ all
 | 1 => spreadF w (filledF w (x ^^^ y))
 | 2 => lessF w true x y
 | 3 => lessF w false x y
 | 4 => lessF w true y x
 | 5 => lessF w false y x
 | 6 => lessF w true y x ^^^ all
 | 7 => lessF w false y x ^^^ all
 | 8 => lessF w true x y ^^^ all
 | _ => lessF w false x y ^^^ all
def cmpP (w kk a b : Nat) : Bool :=
 match kk with
 | 0 => decide (a = b)
 | 1 => !decide (a = b)
 | 2 => decide (sg w a < sg w b)
 | 3 => decide (a < b)
 | 4 => decide (sg w b < sg w a)
 | 5 => decide (b < a)
 | 6 => !decide (sg w b < sg w a)
 | 7 => !decide (b < a)
 | 8 => !decide (sg w a < sg w b)
 | _ => !decide (a < b)
theorem flip_lt {w a b : Nat} (hw : 1 ≤ w) (ha : a < 2 ^ w) (hb : b < 2 ^ w) : (a ^^^ 2 ^ (w - 1) < b ^^^ 2 ^ (w - 1)) ↔ sg w a < sg w b := by
 have e := pw hw
 have e' : (2 : Int) ^ w = 2 * ((2 ^ (w - 1) : Nat) : Int) := by have := congrArg (Nat.cast (R := Int)) e; push_cast at this ⊢; exact this
 rw [n_xortops hw ha, n_xortops hw hb]
 unfold tp sg
 rw [e']
 rw [e] at ha hb
 generalize 2 ^ (w - 1) = H at *
 by_cases hA : H ≤ a <;> by_cases hB : H ≤ b <;> simp [hA, hB] <;> (repeat' split) <;> omega
section
variable {w n : Nat} (h : WN w n) (x y : B)
include h
theorem ln_less (s : Bool) {i : Nat} (hi : i < n) : ln w i (lessF w s x y) = TB (2 ^ w - 1) (if s then decide (sg w (ln w i x) < sg w (ln w i y)) else decide (ln w i x < ln w i y)) := by
 unfold lessF
 refine ln_spread h (p := fun i => if s then decide (sg w (ln w i x) < sg w (ln w i y)) else decide (ln w i x < ln w i y)) (fun i hi => ?_) hi
 cases s
 ·exact ln_below h x y hi
 ·show ln w i (belowF w (x ^^^ top w) (y ^^^ top w)) = TB _ (decide (sg w (ln w i x) < sg w (ln w i y)))
  rw [ln_below h _ _ hi, ln_xor, ln_xor, ln_top h hi]
  congr 1
  rw [Bool.eq_iff_iff, decide_eq_true_iff, decide_eq_true_iff]
  exact flip_lt h.one (ln_lt ..) (ln_lt ..)
theorem ln_filled {i : Nat} (hi : i < n) : ln w i (filledF w x) = TB (2 ^ (w - 1)) (!decide (ln w i x = 0)) := by
 have hp := Nat.two_pow_pos (w - 1)
 have e := pw h.one
 have ha := ln_lt w i x
 have hs : ∀ i, i < n → ln w i (x &&& rst w) + ln w i (rst w) < 2 ^ w := fun i hi => by
  rw [ln_xrest h x hi, ln_rst h hi]
  have := Nat.mod_lt (ln w i x) hp
  omega
 unfold filledF
 rw [ln_and, ln_top h hi, ln_or, Nat.and_or_distrib_right, n_tops h.one (ln_lt ..), n_tops h.one ha, TB_or]
 congr 1
 rw [ln_add h.mul _ _ hs hi, ln_xrest h x hi, ln_rst h hi, modH2 h.one ha]
 unfold tp
 rw [Bool.eq_iff_iff]
 by_cases hA : 2 ^ (w - 1) ≤ ln w i x <;> simp [hA] <;> omega
theorem ln_not {i : Nat} (hi : i < n) {z : B} {p : Bool} (hz : ln w i z = TB (2 ^ w - 1) p) : ln w i (z ^^^ all) = TB (2 ^ w - 1) (!p) := by
 rw [ln_xor, hz, ln_all h hi, mask_not]
theorem ln_same {i : Nat} (hi : i < n) : decide (ln w i (x ^^^ y) = 0) = decide (ln w i x = ln w i y) := by
 rw [Bool.eq_iff_iff, decide_eq_true_iff, decide_eq_true_iff, ln_xor]
 constructor
 ·intro h0; have := xor_and (ln w i x) (ln w i y); have h2 := or_and (ln w i x) (ln w i y); rw [h0] at this h2
  have a1 := @Nat.and_le_left (ln w i x) (ln w i y); have a2 := @Nat.and_le_right (ln w i x) (ln w i y); omega
 ·intro h0; rw [h0, Nat.xor_self]
theorem ln_cmpF (kk : Nat) (hk : kk < 10) {i : Nat} (hi : i < n) : ln w i (cmpF w kk x y) = TB (2 ^ w - 1) (cmpP w kk (ln w i x) (ln w i y)) := by
 have hf : ∀ {i}, i < n → ln w i (spreadF w (filledF w (x ^^^ y))) = TB (2 ^ w - 1) (!decide (ln w i x = ln w i y)) := fun {i} hi =>
  ln_spread h (p := fun i => !decide (ln w i x = ln w i y)) (fun i hi => by rw [ln_filled h _ hi, ln_same h x y hi]) hi
 match kk, hk with
 | 0, _ => have := ln_not h hi (hf hi); rw [Bool.not_not] at this; exact this
 | 1, _ => exact hf hi
 | 2, _ => exact ln_less h x y true hi
 | 3, _ => exact ln_less h x y false hi
 | 4, _ => exact ln_less h y x true hi
 | 5, _ => exact ln_less h y x false hi
 | 6, _ => exact ln_not h hi (ln_less h y x true hi)
 | 7, _ => exact ln_not h hi (ln_less h y x false hi)
 | 8, _ => exact ln_not h hi (ln_less h x y true hi)
 | 9, _ => exact ln_not h hi (ln_less h x y false hi)
end
def heldF (w : Nat) (a : Bool) (x y : B) : B :=
 let s := if a then addF w x y else subF w x y
 let o := spreadF w (((if a then (x ^^^ y) ^^^ all else x ^^^ y) &&& (x ^^^ s)) &&& top w)
 s ^^^ ((((((x >>> (w - 1)) &&& rep w 1) + rst w) ^^^ s)) &&& o)
def addsF (w : Nat) (x y : B) : B :=
 let s := addF w x y
 s ||| spreadF w (((x &&& y) ||| ((x ||| y) &&& (s ^^^ all))) &&& top w)
def subsF (w : Nat) (x y : B) : B := subF w x y &&& (lessF w false x y ^^^ all)
def pickF (a b m : B) : B := a ^^^ ((a ^^^ b) &&& m)
def avgF (w : Nat) (x y : B) : B := (x ||| y) - (((x ^^^ y) >>> 1) &&& rst w)
theorem pick_n {w a b : Nat} (ha : a < 2 ^ w) (hb : b < 2 ^ w) (p : Bool) : a ^^^ ((a ^^^ b) &&& TB (2 ^ w - 1) p) = if p then b else a := by
 rw [n_mask (Nat.xor_lt_two_pow ha hb)]
 cases p
 ·simp [TB]
 ·rw [TB_t, ← Nat.xor_assoc, Nat.xor_self, Nat.zero_xor]; rfl
section
variable {w n : Nat} (h : WN w n) (x y : B)
include h
theorem ln_pick (m : B) (p : Bool) {i : Nat} (hi : i < n) (hm : ln w i m = TB (2 ^ w - 1) p) : ln w i (pickF x y m) = if p then ln w i y else ln w i x := by
 unfold pickF
 rw [ln_xor, ln_and, ln_xor, hm, pick_n (ln_lt ..) (ln_lt ..)]
theorem ln_avgF {i : Nat} (hi : i < n) : ln w i (avgF w x y) = (ln w i x + ln w i y + 1) / 2 := by
 have key : ∀ i, i < n → ln w i (((x ^^^ y) >>> 1) &&& rst w) = (ln w i x ^^^ ln w i y) / 2 := fun i hi => by
  have := ln_half h (x ^^^ y) hi
  rw [ln_xor] at this
  exact this
 have e1 := or_and (ln w i x) (ln w i y)
 have e2 := xor_and (ln w i x) (ln w i y)
 unfold avgF
 rw [ln_sub h.mul _ _ (fun i hi => ?_) hi, ln_or, key i hi, e1]
 ·omega
 ·rw [ln_or, key i hi, or_and]; omega
theorem ln_subsF {i : Nat} (hi : i < n) : ln w i (subsF w x y) = ln w i x - ln w i y := by
 have hA := ln_lt w i x
 have hB := ln_lt w i y
 have hl : ln w i (lessF w false x y) = TB (2 ^ w - 1) (decide (ln w i x < ln w i y)) := ln_less h x y false hi
 unfold subsF
 rw [ln_and, ln_not h hi hl, ln_subF h x y hi, n_mask (Nat.mod_lt _ (Nat.two_pow_pos _))]
 rw [mod2 (by omega)]
 by_cases hc : ln w i x < ln w i y
 ·simp [hc, TB]; omega
 ·simp [hc, TB]; split <;> omega
theorem tp_and (a b : B) {i : Nat} (hi : i < n) : ln w i ((a &&& b) &&& top w) = TB (2 ^ (w - 1)) (tp w (ln w i a) && tp w (ln w i b)) := by
 rw [ln_xtop h _ hi, ← tp_bit h.one (ln_lt ..), ln_and, Nat.testBit_and, tp_bit h.one (ln_lt ..), tp_bit h.one (ln_lt ..)]
theorem tpx (a b : B) {i : Nat} (hi : i < n) : tp w (ln w i (a ^^^ b)) = (tp w (ln w i a) ^^ tp w (ln w i b)) := by
 rw [← tp_bit h.one (ln_lt ..), ln_xor, Nat.testBit_xor, tp_bit h.one (ln_lt ..), tp_bit h.one (ln_lt ..)]
theorem tpo (a b : B) {i : Nat} (hi : i < n) : tp w (ln w i (a ||| b)) = (tp w (ln w i a) || tp w (ln w i b)) := by
 rw [← tp_bit h.one (ln_lt ..), ln_or, Nat.testBit_or, tp_bit h.one (ln_lt ..), tp_bit h.one (ln_lt ..)]
theorem tpa (a b : B) {i : Nat} (hi : i < n) : tp w (ln w i (a &&& b)) = (tp w (ln w i a) && tp w (ln w i b)) := by
 rw [← tp_bit h.one (ln_lt ..), ln_and, Nat.testBit_and, tp_bit h.one (ln_lt ..), tp_bit h.one (ln_lt ..)]
theorem tp_all {i : Nat} (hi : i < n) : tp w (ln w i all) = true := by
 rw [ln_all h hi]
 have := pw h.one
 have := Nat.two_pow_pos (w - 1)
 simp [tp]; omega
theorem ln_addsF {i : Nat} (hi : i < n) : ln w i (addsF w x y) = min (ln w i x + ln w i y) (2 ^ w - 1) := by
 have hA := ln_lt w i x
 have hB := ln_lt w i y
 have e := pw h.one
 have hp := Nat.two_pow_pos (w - 1)
 unfold addsF
 simp only []
 rw [ln_or, ln_spread h (p := fun i => (tp w (ln w i x) && tp w (ln w i y)) || ((tp w (ln w i x) || tp w (ln w i y)) && !tp w (ln w i (addF w x y)))) (fun i hi => ?_) hi]
 ·rw [ln_addF h x y hi, mod2 (by omega)]
  unfold tp
  have hm : ∀ c, c < 2 ^ w → c ||| (2 ^ w - 1) = 2 ^ w - 1 := fun c hc => by rw [or_and, n_all hc, n_xorall hc]; omega
  have hz : ∀ c : Nat, c ||| 0 = c := fun c => Nat.or_zero c
  have h1 := hm (ln w i x + ln w i y)
  have h2 := hm (ln w i x + ln w i y - 2 ^ w)
  rw [e] at hA hB h1 h2 ⊢
  generalize ln w i x = a at *
  generalize ln w i y = b at *
  generalize 2 ^ (w - 1) = H at *
  by_cases q1 : H ≤ a <;> by_cases q2 : H ≤ b <;> by_cases q3 : a + b < 2 * H <;> simp only [q1, q2, q3, if_true, if_false, decide_true, decide_false, Bool.and_true, Bool.true_and, Bool.false_and, Bool.and_false, Bool.or_true, Bool.or_false, Bool.false_or, Bool.true_or, TB_t, TB_f, hz]
  all_goals first | omega | (rw [h1 (by omega)]; omega) | (rw [h2 (by omega)]; omega) | skip
  ·by_cases q4 : H ≤ a + b <;> simp only [q4, decide_true, decide_false, Bool.not_true, Bool.not_false, TB_t, TB_f, hz] <;> first | omega | (rw [h1 (by omega)]; omega)
  ·by_cases q4 : H ≤ a + b - 2 * H <;> simp only [q4, decide_true, decide_false, Bool.not_true, Bool.not_false, TB_t, TB_f, hz] <;> first | omega | (rw [h2 (by omega)]; omega)
  ·by_cases q4 : H ≤ a + b <;> simp only [q4, decide_true, decide_false, Bool.not_true, Bool.not_false, TB_t, TB_f, hz] <;> first | omega | (rw [h1 (by omega)]; omega)
  ·by_cases q4 : H ≤ a + b - 2 * H <;> simp only [q4, decide_true, decide_false, Bool.not_true, Bool.not_false, TB_t, TB_f, hz] <;> first | omega | (rw [h2 (by omega)]; omega)
 ·rw [ln_xtop h _ hi, tpo h _ _ hi, tpa h _ _ hi, tpa h _ _ hi, tpo h _ _ hi, tpx h _ _ hi, tp_all h hi, Bool.xor_true]
end
end Ln
end
section
namespace Ln
def cutI (w : Nat) (m : Int) : Nat := if 0 ≤ m then m.toNat else (m + 2 ^ w).toNat
theorem lt_not (a b : Nat) : (a < b) = ¬ (b ≤ a) := propext (by omega)
section
variable {w n : Nat} (h : WN w n) (x y : B)
include h
theorem ln_sign {i : Nat} (hi : i < n) : ln w i ((x >>> (w - 1)) &&& rep w 1) = if tp w (ln w i x) then 1 else 0 := by
 have h1 : 1 < 2 ^ w := by have := pw h.one; have := Nat.two_pow_pos (w - 1); omega
 rw [ln_and, ln_rep h h1 hi, ← tp_bit h.one (ln_lt ..)]
 apply Nat.eq_of_testBit_eq; intro j
 rw [Nat.testBit_and, ln_bit, BitVec.toNat_ushiftRight, Nat.testBit_shiftRight, ln_bit]
 have hp := h.one
 by_cases hj : j = 0
 ·subst hj
  simp only [Nat.add_zero, show 0 < w by omega, show w - 1 < w by omega, decide_true, Bool.true_and]
  rw [show w - 1 + w * i = w * i + (w - 1) by omega]
  cases x.toNat.testBit (w * i + (w - 1)) <;> rfl
 ·have e1 : (1 : Nat).testBit j = false := by rw [show (1 : Nat) = 2 ^ 0 from rfl, Nat.testBit_two_pow]; simp; omega
  rw [e1, Bool.and_false]
  split
  ·exact e1.symm
  ·simp
theorem ln_heldF (a : Bool) {i : Nat} (hi : i < n) :
  ln w i (heldF w a x y) = cutI w (min (max (if a then sg w (ln w i x) + sg w (ln w i y) else sg w (ln w i x) - sg w (ln w i y)) (-2 ^ (w - 1))) (2 ^ (w - 1) - 1)) := by
 have hA := ln_lt w i x
 have hB := ln_lt w i y
 have e := pw h.one
 have hp := Nat.two_pow_pos (w - 1)
 have hs : ∀ i, i < n → ln w i (if a then addF w x y else subF w x y) = if a then (ln w i x + ln w i y) % 2 ^ w else (ln w i x + (2 ^ w - ln w i y)) % 2 ^ w := fun i hi => by
  cases a
  ·exact ln_subF h x y hi
  ·exact ln_addF h x y hi
 have hv : ∀ i, i < n → ln w i (((x >>> (w - 1)) &&& rep w 1) + rst w) = 2 ^ (w - 1) - 1 + (if tp w (ln w i x) then 1 else 0) := fun i hi => by
  rw [ln_add h.mul _ _ (fun i hi => ?_) hi, ln_sign h x hi, ln_rst h hi, Nat.add_comm]
  rw [ln_sign h x hi, ln_rst h hi]
  split <;> omega
 unfold heldF
 simp only []
 generalize hS : (if a then addF w x y else subF w x y) = s at *
 have ho : ∀ i, i < n → ln w i (((if a then (x ^^^ y) ^^^ all else x ^^^ y) &&& (x ^^^ s)) &&& top w) = TB (2 ^ (w - 1)) ((if a then !(tp w (ln w i x) ^^ tp w (ln w i y)) else (tp w (ln w i x) ^^ tp w (ln w i y))) && (tp w (ln w i x) ^^ tp w (ln w i s))) := fun i hi => by
  rw [tp_and h _ _ hi, tpx h x s hi]
  cases a
  ·simp only [Bool.false_eq_true, if_false, tpx h x y hi]
  ·simp only [if_true]
   rw [tpx h _ _ hi, tpx h x y hi, tp_all h hi, Bool.xor_true]
 rw [ln_xor, ln_and, ln_xor, ln_spread h ho hi, hv i hi, Nat.xor_comm (2 ^ (w - 1) - 1 + _), pick_n (ln_lt ..) (by split <;> omega), hs i hi]
 have e' : (2 : Int) ^ w = 2 * ((2 ^ (w - 1) : Nat) : Int) := by have := congrArg (Nat.cast (R := Int)) e; push_cast at this ⊢; exact this
 have e'' : (2 : Int) ^ (w - 1) = ((2 ^ (w - 1) : Nat) : Int) := by push_cast; rfl
 unfold tp sg cutI
 rw [e', e'']
 cases a
 ·simp only [Bool.false_eq_true, if_false]
  rw [mod2 (w := w) (s := ln w i x + (2 ^ w - ln w i y)) (by omega)]
  rw [e] at hA hB ⊢
  generalize ln w i x = a at *
  generalize ln w i y = b at *
  generalize 2 ^ (w - 1) = H at *
  clear ho hs hv hS e e' e'' h
  by_cases q3 : a + (2 * H - b) < 2 * H
  ·rw [if_pos q3]
   by_cases q1 : H ≤ a <;> by_cases q2 : H ≤ b <;> by_cases q4 : H ≤ a + (2 * H - b) <;> simp only [q1, q2, q4, lt_not, if_true, if_false, decide_true, decide_false, Bool.xor_self, Bool.xor_false, Bool.false_xor, Bool.true_xor, Bool.and_true, Bool.true_and, Bool.false_and, Bool.and_false, Bool.false_eq_true, Bool.not_true, Bool.not_false] <;> (repeat' split) <;> first | omega | contradiction
  ·rw [if_neg q3]
   by_cases q1 : H ≤ a <;> by_cases q2 : H ≤ b <;> by_cases q4 : H ≤ a + (2 * H - b) - 2 * H <;> simp only [q1, q2, q4, lt_not, if_true, if_false, decide_true, decide_false, Bool.xor_self, Bool.xor_false, Bool.false_xor, Bool.true_xor, Bool.and_true, Bool.true_and, Bool.false_and, Bool.and_false, Bool.false_eq_true, Bool.not_true, Bool.not_false] <;> (repeat' split) <;> first | omega | contradiction
 ·simp only [if_true]
  rw [mod2 (w := w) (s := ln w i x + ln w i y) (by omega)]
  rw [e] at hA hB ⊢
  generalize ln w i x = a at *
  generalize ln w i y = b at *
  generalize 2 ^ (w - 1) = H at *
  clear ho hs hv hS e e' e'' h
  by_cases q3 : a + b < 2 * H
  ·rw [if_pos q3]
   by_cases q1 : H ≤ a <;> by_cases q2 : H ≤ b <;> by_cases q4 : H ≤ a + b <;> simp only [q1, q2, q4, lt_not, if_true, if_false, decide_true, decide_false, Bool.xor_self, Bool.xor_false, Bool.false_xor, Bool.true_xor, Bool.and_true, Bool.true_and, Bool.false_and, Bool.and_false, Bool.false_eq_true, Bool.not_true, Bool.not_false] <;> (repeat' split) <;> first | omega | contradiction
  ·rw [if_neg q3]
   by_cases q1 : H ≤ a <;> by_cases q2 : H ≤ b <;> by_cases q4 : H ≤ a + b - 2 * H <;> simp only [q1, q2, q4, lt_not, if_true, if_false, decide_true, decide_false, Bool.xor_self, Bool.xor_false, Bool.false_xor, Bool.true_xor, Bool.and_true, Bool.true_and, Bool.false_and, Bool.and_false, Bool.false_eq_true, Bool.not_true, Bool.not_false] <;> (repeat' split) <;> first | omega | contradiction
end
def laneU (w i : Nat) (x : B) : B := (if i = 0 then x else x >>> (w * i)) &&& BitVec.ofNat 64 (2 ^ w - 1)
def laneS (w i : Nat) (x : B) : B := (x <<< (64 - w - w * i)).sshiftRight (64 - w)
theorem ones_and {w : Nat} (hw : w ≤ 64) (x : B) : (x &&& BitVec.ofNat 64 (2 ^ w - 1)).toNat = x.toNat % 2 ^ w := by
 have hc : 2 ^ w - 1 < 2 ^ 64 := by
  have := Nat.pow_le_pow_right (show 0 < 2 by decide) hw
  have := Nat.two_pow_pos w
  omega
 rw [BitVec.toNat_and, BitVec.toNat_ofNat, Nat.mod_eq_of_lt hc, Nat.and_two_pow_sub_one_eq_mod]
theorem laneU_n {w : Nat} (hw : w ≤ 64) (i : Nat) (x : B) : (laneU w i x).toNat = ln w i x := by
 unfold laneU ln
 rw [ones_and hw]
 split
 ·rename_i h; rw [h, Nat.mul_zero, Nat.pow_zero, Nat.div_one]
 ·rw [BitVec.toNat_ushiftRight, Nat.shiftRight_eq_div_pow]
def u64 (z : Int) : Nat := (z % 18446744073709551616).toNat
theorem toNat_u64 (x : B) : x.toNat = u64 x.toInt := by
 unfold u64
 rw [BitVec.toInt_eq_toNat_cond]
 have := x.isLt
 split <;> omega
theorem laneS_div {w i : Nat} (hi : w * i + w ≤ 64) (x : B) : (x <<< (64 - w - w * i)).toNat / 2 ^ (64 - w) = ln w i x := by
 apply Nat.eq_of_testBit_eq; intro j
 rw [Nat.testBit_div_two_pow, ln_bit, BitVec.toNat_shiftLeft, Nat.testBit_mod_two_pow, Nat.testBit_shiftLeft]
 by_cases hj : j < w
 ·simp only [hj, show 64 - w + j < 64 by omega, show j + (64 - w) < 64 by omega, show 64 - w + j ≥ 64 - w - w * i by omega, show j + (64 - w) ≥ 64 - w - w * i by omega, decide_true, Bool.true_and]
  congr 1; omega
 ·simp [hj]; intro; omega
theorem laneS_i {w n i : Nat} (h : WN w n) (hi : i < n) (x : B) : (laneS w i x).toInt = sg w (ln w i x) := by
 have hin : w * i + w ≤ 64 := by
  have h1 := h.mul
  have h2 : w * (i + 1) ≤ w * n := Nat.mul_le_mul_left _ hi
  rw [Nat.mul_add, Nat.mul_one, h1] at h2
  exact h2
 have hd := laneS_div hin x
 have hl := ln_lt w i x
 unfold laneS sg
 rw [BitVec.toInt_sshiftRight, Int.shiftRight_eq_div_pow, BitVec.toInt_eq_toNat_cond]
 have hlt := (x <<< (64 - w - w * i)).isLt
 generalize (x <<< (64 - w - w * i)).toNat = y at *
 generalize ln w i x = l at *
 rcases h with ⟨rfl, _⟩ | ⟨rfl, _⟩ | ⟨rfl, _⟩ | ⟨rfl, _⟩ <;> simp only [Nat.reduceSub, Nat.reducePow] at hd hl hlt ⊢ <;> (repeat' split) <;> omega
def accF (w : Nat) (f : Nat → B) : Nat → B
 | 0 => f 0 &&& BitVec.ofNat 64 (2 ^ w - 1)
 | t + 1 => accF w f t ||| ((f (t + 1) &&& BitVec.ofNat 64 (2 ^ w - 1)) <<< (w * (t + 1)))
theorem accF_n {w : Nat} (f : Nat → B) : ∀ t, w * (t + 1) ≤ 64 → (accF w f t).toNat = sm (fun i => (f i).toNat % 2 ^ w) w (t + 1)
 | 0, ht => by rw [accF, ones_and (by omega)]; simp [sm]
 | t + 1, ht => by
  have e : w * (t + 1 + 1) = w * (t + 1) + w := by rw [Nat.mul_add, Nat.mul_one]
  have ih := accF_n (w := w) f t (by omega)
  have hl := sm_lt (f := fun i => (f i).toNat % 2 ^ w) (w := w) (t := t + 1) (fun i hi => Nat.mod_lt _ (Nat.two_pow_pos _))
  have hm := Nat.mod_lt (f (t + 1)).toNat (Nat.two_pow_pos w)
  have hp : (f (t + 1)).toNat % 2 ^ w * 2 ^ (w * (t + 1)) < 2 ^ 64 := by
   have h1 : (f (t + 1)).toNat % 2 ^ w * 2 ^ (w * (t + 1)) < 2 ^ w * 2 ^ (w * (t + 1)) := Nat.mul_lt_mul_of_pos_right hm (Nat.two_pow_pos _)
   rw [← Nat.pow_add] at h1
   exact Nat.lt_of_lt_of_le h1 (Nat.pow_le_pow_right (by decide) (by omega))
  have es : sm (fun i => (f i).toNat % 2 ^ w) w (t + 1 + 1) = sm (fun i => (f i).toNat % 2 ^ w) w (t + 1) + 2 ^ (w * (t + 1)) * ((f (t + 1)).toNat % 2 ^ w) := rfl
  rw [es, accF, BitVec.toNat_or, ih, BitVec.toNat_shiftLeft, ones_and (by omega), Nat.shiftLeft_eq, Nat.mod_eq_of_lt hp, Nat.or_comm, ← Nat.shiftLeft_eq, ← Nat.shiftLeft_add_eq_or_of_lt hl, Nat.shiftLeft_eq, Nat.mul_comm, Nat.add_comm]
theorem ln_accF {w n : Nat} (hn : w * (n + 1) = 64) (f : Nat → B) {i : Nat} (hi : i < n + 1) : ln w i (accF w f n) = (f i).toNat % 2 ^ w :=
 ln_of (f := fun i => (f i).toNat % 2 ^ w) hn (fun _ _ => Nat.mod_lt _ (Nat.two_pow_pos _)) (accF_n f n (by omega)) hi
def selB (c a b : B) : B := if c.setWidth 32 = 0#32 then b else a
def truB (p : Bool) : B := if p then 1 else 0
theorem selB_tru (p : Bool) (a b : B) : selB (truB p) a b = if p then a else b := by cases p <;> simp [selB, truB]
def mostF (n : Nat) (t : B) : B := selB (truB (t.slt (BitVec.ofNat 64 n))) t (BitVec.ofNat 64 n)
def leastF (n : Nat) (t : B) : B := selB (truB ((BitVec.ofNat 64 n).slt t)) t (BitVec.ofNat 64 n)
theorem mostF_i (n : Nat) (t : B) : (mostF n t).toInt = min t.toInt (BitVec.ofNat 64 n).toInt := by
 unfold mostF
 rw [selB_tru, BitVec.slt]
 by_cases h : t.toInt < (BitVec.ofNat 64 n).toInt <;> simp [h] <;> omega
theorem leastF_i (n : Nat) (t : B) : (leastF n t).toInt = max t.toInt (BitVec.ofNat 64 n).toInt := by
 unfold leastF
 rw [selB_tru, BitVec.slt]
 by_cases h : (BitVec.ofNat 64 n).toInt < t.toInt <;> simp [h] <;> omega
theorem mul_u64 (x y : B) (s t : Int) (hx : x.toNat = u64 s) (hy : y.toNat = u64 t) : (x * y).toNat = u64 (s * t) := by
 rw [BitVec.toNat_mul, hx, hy]
 unfold u64
 have h1 : (s * t) % 18446744073709551616 = ((s % 18446744073709551616) * (t % 18446744073709551616)) % 18446744073709551616 := Int.mul_emod ..
 rw [h1]
 obtain ⟨a, ha⟩ : ∃ a : Nat, s % 18446744073709551616 = a := ⟨(s % 18446744073709551616).toNat, by omega⟩
 obtain ⟨b, hb⟩ : ∃ b : Nat, t % 18446744073709551616 = b := ⟨(t % 18446744073709551616).toNat, by omega⟩
 rw [ha, hb]
 simp only [Int.toNat_natCast, ← Int.natCast_mul]
 omega
theorem add_u64 (x y : B) (s t : Int) (hx : x.toNat = u64 s) (hy : y.toNat = u64 t) : (x + y).toNat = u64 (s + t) := by
 rw [BitVec.toNat_add, hx, hy]
 unfold u64
 omega
theorem u64_small {z : Int} (h1 : -9223372036854775808 ≤ z) (h2 : z < 9223372036854775808) {x : B} (h : x.toNat = u64 z) : x.toInt = z := by
 rw [BitVec.toInt_eq_toNat_cond, h]
 unfold u64
 split <;> omega
end Ln
end
section
set_option maxRecDepth 100000
namespace Ln
abbrev C := Nat × Nat × Nat
def gt (a : Nat) : C := (32, a, 0)
def st (a : Nat) : C := (33, a, 0)
def nm (n : Nat) : C := (66, 0, n)
def oc (o : Nat) : C := (o, 0, 0)
def nt : List C := [nm 18446744073709551615, oc 133]
def tN (w : Nat) : Nat := sm (fun _ => 2 ^ (w - 1)) w (64 / w)
def rN (w : Nat) : Nat := sm (fun _ => 2 ^ (w - 1) - 1) w (64 / w)
def oneN (w : Nat) : Nat := sm (fun _ => 1) w (64 / w)
def spC (w : Nat) : List C := [nm (w - 1), oc 136, nm (2 ^ w - 1), oc 126]
def guC (w x y : Nat) : List C := [gt x, nm (tN w), oc 132, gt y, nm (rN w), oc 131, oc 125]
def adC (w x y : Nat) : List C := if w = 64 then [gt x, gt y, oc 124] else [gt x, nm (rN w), oc 131, gt y, nm (rN w), oc 131, oc 124, gt x, gt y, oc 133, nm (tN w), oc 131, oc 133]
def suC (w x y : Nat) : List C := if w = 64 then [gt x, gt y, oc 125] else guC w x y ++ [gt x, gt y, oc 133, nm (tN w), oc 131, nm (tN w), oc 133, oc 133]
def beC (w x y : Nat) : List C := [gt y, gt x] ++ nt ++ [oc 131] ++ guC w x y ++ [gt x, gt y, oc 133, oc 132] ++ nt ++ [oc 132, nm (tN w), oc 131]
def fiC (w x : Nat) : List C := [gt x, nm (rN w), oc 131, nm (rN w), oc 124, gt x, oc 132, nm (tN w), oc 131]
def leC (w r x y : Nat) (s : Bool) : List C := if s then [gt x, nm (tN w), oc 133, gt y, nm (tN w), oc 133, st (r + 1), st r] ++ beC w r (r + 1) ++ spC w else beC w x y ++ spC w
def cmC (w r kk x y : Nat) : List C :=
 match kk with
 | 0 => [gt x, gt y, oc 133, st r] ++ fiC w r ++ spC w ++ nt
 | 1 => [gt x, gt y, oc 133, st r] ++ fiC w r ++ spC w
 | 2 => leC w r x y true
 | 3 => leC w r x y false
 | 4 => leC w r y x true
 | 5 => leC w r y x false
 | 6 => leC w r y x true ++ nt
 | 7 => leC w r y x false ++ nt
 | 8 => leC w r x y true ++ nt
 | _ => leC w r x y false ++ nt
def cmG (kk : Nat) : Nat := if kk ≤ 1 then 1 else if kk % 2 = 0 then 2 else 0
def heC (w r x y : Nat) (a : Bool) : List C := (if a then adC w x y else suC w x y) ++ [st r, gt x, gt y, oc 133] ++ (if a then nt else []) ++ [gt x, gt r, oc 133, oc 131, nm (tN w), oc 131] ++ spC w ++ [st (r + 1), gt r, gt x, nm (w - 1), oc 136, nm (oneN w), oc 131, nm (rN w), oc 124, gt r, oc 133, gt (r + 1), oc 131, oc 133]
def laC (h w i : Nat) (s : Bool) : List C := gt h :: (if w = 64 then [] else if s then [nm (64 - w - w * i), oc 134, nm (64 - w), oc 135] else (if 0 < i then [nm (w * i), oc 136] else []) ++ [nm (2 ^ w - 1), oc 131])
def inC (w i : Nat) : List C := (if w < 64 then [nm (2 ^ w - 1), oc 131] else []) ++ (if 0 < i then [nm (w * i), oc 134, oc 132] else [])
def rows (f : Nat → List C) : Nat → List C
 | 0 => []
 | n + 1 => rows f n ++ f n
def arC (w r kk x y : Nat) : List C :=
 match kk with
 | 14 => adC w x y
 | 15 => heC w r x y true
 | 16 => adC w x y ++ [st r, gt r, gt x, gt y, oc 131, gt x, gt y, oc 132, gt r] ++ nt ++ [oc 131, oc 132, nm (tN w), oc 131] ++ spC w ++ [oc 132]
 | 17 => suC w x y
 | 18 => heC w r x y false
 | 19 => suC w x y ++ leC w r x y false ++ nt ++ [oc 131]
 | 21 => rows (fun i => laC x w i false ++ laC y w i false ++ [oc 126] ++ inC w i) (64 / w)
 | 22 => [gt y, gt y, gt x, oc 133] ++ leC w r x y true ++ [oc 131, oc 133]
 | 23 => [gt y, gt y, gt x, oc 133] ++ leC w r x y false ++ [oc 131, oc 133]
 | 24 => [gt x, gt x, gt y, oc 133] ++ leC w r x y true ++ [oc 131, oc 133]
 | 25 => [gt x, gt x, gt y, oc 133] ++ leC w r x y false ++ [oc 131, oc 133]
 | _ => [gt x, gt y, oc 132, gt x, gt y, oc 133, nm 1, oc 136, nm (rN w), oc 131, oc 125]
def arG (kk : Nat) : Nat := match kk with | 15 => 2 | 16 => 1 | 18 => 2 | 22 => 2 | 24 => 2 | _ => 0
def biC (k x y : Nat) : List C := [gt x, gt y] ++ (if k = 2 then nt else []) ++ [oc (match k with | 1 => 131 | 2 => 131 | 3 => 132 | _ => 133)]
def sav : List C := [st 3, st 2, st 1, st 0]
def ofC (v w i : Nat) (s : Bool) : List C := laC (v + i / (64 / w)) w (i % (64 / w)) s
def eaC (w : Nat) (f : Nat → List C) : List C := rows (fun i => f i ++ inC w (i % (64 / w))) (128 / w)
def moC (t n : Nat) : List C := [st t, gt t, nm n, gt t, nm n, oc 83, oc 27]
def lsC (t n : Nat) : List C := [st t, gt t, nm n, gt t, nm n, oc 85, oc 27]
def naC (w lo hi : Nat) : List C := eaC w fun i => ofC (2 * (i / (64 / w))) (2 * w) (i % (64 / w)) true ++ lsC 4 lo ++ moC 5 hi
def exC (w c : Nat) : List C := eaC (2 * w) fun i => ofC 0 w (i + c % 2 * (64 / w)) (decide (c < 2)) ++ ofC 2 w (i + c % 2 * (64 / w)) (decide (c < 2)) ++ [oc 126]
def qC : List C := eaC 16 fun i => ofC 0 16 i true ++ ofC 2 16 i true ++ [oc 126, nm 16384, oc 124, nm 15, oc 135] ++ moC (4 + i) 32767
def doC : List C := eaC 32 fun i => ofC 0 16 (2 * i) true ++ ofC 2 16 (2 * i) true ++ [oc 126] ++ ofC 0 16 (2 * i + 1) true ++ ofC 2 16 (2 * i + 1) true ++ [oc 126, oc 124]
def shC : List C := eaC 8 fun _ => laC 0 8 0 false
def swC : List C := eaC 8 fun j => laC (2 + j / 8) 8 (j % 8) false ++ [st 4, gt 0, gt 1, gt 4, nm 8, oc 84, oc 27, gt 4, nm 7, oc 131, nm 3, oc 134, oc 136, nm 255, oc 131, gt 4, nm 16, oc 84, oc 173, oc 126]
inductive Kd where
 | shuf | swiz | q15 | dot | nar (w lo hi : Nat) | ext (w c : Nat) | bit (i : Nat) | cmp (w kk : Nat) | ar (w kk : Nat)
def kdOf (k : Nat) : Kd :=
 if k = 13 then .shuf else if k = 14 then .swiz else if k = 130 then .q15 else if k = 186 then .dot
 else if k = 101 then .nar 8 18446744073709551488 127 else if k = 102 then .nar 8 0 255 else if k = 133 then .nar 16 18446744073709518848 32767 else if k = 134 then .nar 16 0 65535
 else if 156 ≤ k ∧ k < 160 then .ext 8 (k - 156) else if 188 ≤ k ∧ k < 192 then .ext 16 (k - 188) else if 220 ≤ k then .ext 32 (k - 220)
 else if k < 65 then .cmp (8 * 2 ^ ((k - 35) / 10)) ((k - 35) % 10)
 else if k < 84 then .bit (k - 77)
 else if 213 < k then .cmp 64 ([0, 1, 2, 4, 6, 8].getD (k - 214) 0)
 else .ar (8 * 2 ^ ((k - 96) / 32)) ((k - 96) % 32)
def tw (f : Nat → Nat → Nat → List C) (g : Nat) : List C := sav ++ f 4 0 2 ++ f (4 + g) 1 3
def cellsK : Kd → List C × Nat
 | .shuf => (sav ++ shC, 4)
 | .swiz => (sav ++ swC, 5)
 | .q15 => (sav ++ qC, 12)
 | .dot => (sav ++ doC, 4)
 | .nar w lo hi => (sav ++ naC w lo hi, 6)
 | .ext w c => (sav ++ exC w c, 4)
 | .bit i => (tw (fun _ => biC i) 0, 4)
 | .cmp w kk => (tw (fun r => cmC w r kk) (cmG kk), 4 + 2 * cmG kk)
 | .ar w kk => (tw (fun r => arC w r kk) (arG kk), 4 + 2 * arG kk)
def cellsOf (k : Nat) : List C × Nat := cellsK (kdOf k)
def opF (op : Nat) (x y : B) : Option B :=
 match op with
 | 83 => some (truB (x.slt y)) | 84 => some (truB (x.ult y)) | 85 => some (truB (y.slt x))
 | 124 => some (x + y) | 125 => some (x - y) | 126 => some (x * y) | 131 => some (x &&& y) | 132 => some (x ||| y) | 133 => some (x ^^^ y)
 | 134 => some (x <<< (y.toNat % 64)) | 135 => some (x.sshiftRight (y.toNat % 64)) | 136 => some (x >>> (y.toNat % 64))
 | _ => none
def stepF (c : C) (V L : List B) : Option (List B × List B) :=
 match c, V with
 | (32, a, _), V => (match L[a]? with | some x => some (x :: V, L) | none => none)
 | (33, a, _), x :: V => (match Nat.blt a L.length with | true => some (V, L.set a x) | false => none)
 | (66, _, n), V => some (BitVec.ofNat 64 n :: V, L)
 | (27, _, _), c :: b :: a :: V => some (selB c a b :: V, L)
 | (173, _, _), x :: V => some ((x.setWidth 32).setWidth 64 :: V, L)
 | (op, _, _), y :: x :: V => (match opF op x y with | some z => some (z :: V, L) | none => none)
 | _, _ => none
def runF : List C → List B → List B → Option (List B × List B)
 | [], V, L => some (V, L)
 | c :: r, V, L => (match stepF c V L with | some (V, L) => runF r V L | none => none)
def bitF (k : Nat) (x y : B) : B := match k with | 1 => x &&& y | 2 => x &&& (y ^^^ all) | 3 => x ||| y | _ => x ^^^ y
def prodF (w : Nat) (x y : B) : B := if w = 64 then x * y else accF w (fun i => laneU w i x * laneU w i y) (64 / w - 1)
def arF (w kk : Nat) (x y : B) : B :=
 match kk with
 | 14 => addF w x y
 | 15 => heldF w true x y
 | 16 => addsF w x y
 | 17 => subF w x y
 | 18 => heldF w false x y
 | 19 => subsF w x y
 | 21 => prodF w x y
 | 22 => pickF y x (lessF w true x y)
 | 23 => pickF y x (lessF w false x y)
 | 24 => pickF x y (lessF w true x y)
 | 25 => pickF x y (lessF w false x y)
 | _ => avgF w x y
def isSw (k : Nat) : Bool := decide (35 ≤ k ∧ k ≤ 64 ∨ 78 ≤ k ∧ k ≤ 81 ∨ 214 ≤ k ∧ k ≤ 219) || ([110, 111, 112, 113, 114, 115, 118, 119, 120, 121, 123, 142, 143, 144, 145, 146, 147, 149, 150, 151, 152, 153, 155, 174, 177, 181, 182, 183, 184, 185, 206, 209, 213] : List Nat).contains k
def hf (v w : Nat) (h : Nat → B) (i : Nat) (s : Bool) : B := if s then laneS w (i % (64 / w)) (h (v + i / (64 / w))) else laneU w (i % (64 / w)) (h (v + i / (64 / w)))
def eaF (w h : Nat) (f : Nat → B) : B := if w = 64 then f h else accF w (fun i => f (h * (64 / w) + i)) (64 / w - 1)
def exF (w c : Nat) (h : Nat → B) (i : Nat) : B := hf 0 w h (i + c % 2 * (64 / w)) (decide (c < 2)) * hf 2 w h (i + c % 2 * (64 / w)) (decide (c < 2))
def naF (w lo hi : Nat) (h : Nat → B) (i : Nat) : B := mostF hi (leastF lo (hf (2 * (i / (64 / w))) (2 * w) h (i % (64 / w)) true))
def qF (h : Nat → B) (i : Nat) : B := mostF 32767 ((hf 0 16 h i true * hf 2 16 h i true + BitVec.ofNat 64 16384).sshiftRight 15)
def doF (h : Nat → B) (i : Nat) : B := hf 0 16 h (2 * i) true * hf 2 16 h (2 * i) true + hf 0 16 h (2 * i + 1) true * hf 2 16 h (2 * i + 1) true
def swzF (h : Nat → B) (j : Nat) : B :=
 let t := laneU 8 (j % 8) (h (2 + j / 8))
 ((selB (truB (t.ult (BitVec.ofNat 64 8))) (h 0) (h 1) >>> (((t &&& BitVec.ofNat 64 7) <<< 3).toNat % 64)) &&& BitVec.ofNat 64 255) * ((truB (t.ult (BitVec.ofNat 64 16))).setWidth 32).setWidth 64
def hv (x0 x1 y0 y1 : B) : Nat → B | 0 => x0 | 1 => x1 | 2 => y0 | _ => y1
def resK (d : Kd) (x0 x1 y0 y1 : B) (j : Nat) : B :=
 match d with
 | .shuf => eaF 8 j (fun _ => laneU 8 0 x0)
 | .swiz => eaF 8 j (swzF (hv x0 x1 y0 y1))
 | .q15 => eaF 16 j (qF (hv x0 x1 y0 y1))
 | .dot => eaF 32 j (doF (hv x0 x1 y0 y1))
 | .nar w lo hi => eaF w j (naF w lo hi (hv x0 x1 y0 y1))
 | .ext w c => eaF (2 * w) j (exF w c (hv x0 x1 y0 y1))
 | .bit i => bitF i (if j = 0 then x0 else x1) (if j = 0 then y0 else y1)
 | .cmp w kk => cmpF w kk (if j = 0 then x0 else x1) (if j = 0 then y0 else y1)
 | .ar w kk => arF w kk (if j = 0 then x0 else x1) (if j = 0 then y0 else y1)
def resF (k : Nat) (x0 x1 y0 y1 : B) (j : Nat) : B := resK (kdOf k) x0 x1 y0 y1 j
def outV (o : Option (List B × List B)) : List B := match o with | some (V, _) => V | none => []
end Ln
end
section
namespace Ln
theorem WN.div {w n : Nat} (h : WN w n) : 64 / w = n := by rcases h with ⟨rfl, rfl⟩ | ⟨rfl, rfl⟩ | ⟨rfl, rfl⟩ | ⟨rfl, rfl⟩ <;> rfl
theorem WN.div2 {w n : Nat} (h : WN w n) : 128 / w = 2 * n := by rcases h with ⟨rfl, rfl⟩ | ⟨rfl, rfl⟩ | ⟨rfl, rfl⟩ | ⟨rfl, rfl⟩ <;> rfl
theorem WN.npos {w n : Nat} (h : WN w n) : 0 < n := by rcases h with ⟨_, rfl⟩ | ⟨_, rfl⟩ | ⟨_, rfl⟩ | ⟨_, rfl⟩ <;> decide
def lv (w : Nat) (h : Nat → B) (v i : Nat) : Nat := ln w (i % (64 / w)) (h (v + i / (64 / w)))
theorem hf_u {w n : Nat} (hw : WN w n) (h : Nat → B) (v i : Nat) : (hf v w h i false).toNat = lv w h v i := laneU_n hw.pos.2 _ _
theorem hf_s {w n : Nat} (hw : WN w n) (h : Nat → B) (v i : Nat) : (hf v w h i true).toInt = sg w (lv w h v i) := by
 have hn := hw.npos
 have := laneS_i hw (Nat.mod_lt i hn) (h (v + i / n))
 unfold hf lv
 rw [hw.div]
 exact this
theorem hf_n {w n : Nat} (hw : WN w n) (h : Nat → B) (v i : Nat) (s : Bool) : (hf v w h i s).toNat = if s then u64 (sg w (lv w h v i)) else lv w h v i := by
 cases s
 ·exact hf_u hw h v i
 ·rw [toNat_u64, hf_s hw]; rfl
theorem ln_eaF {w n : Nat} (hw : WN w n) (j : Nat) (f : Nat → B) {i : Nat} (hi : i < n) : ln w i (eaF w j f) = (f (j * n + i)).toNat % 2 ^ w := by
 unfold eaF
 by_cases h64 : w = 64
 ·subst h64
  obtain rfl := hw.w64
  obtain rfl : i = 0 := by omega
  rw [if_pos rfl, ln_64, Nat.mul_one, Nat.add_zero, Nat.mod_eq_of_lt (f j).isLt]
 ·have hn := hw.npos
  rw [if_neg h64, hw.div, ln_accF (w := w) (n := n - 1) (by rw [Nat.sub_add_cancel hn]; exact hw.mul) _ (by omega)]
theorem exF_n {w n : Nat} (hw : WN w n) (c : Nat) (h : Nat → B) (i : Nat) :
  (exF w c h i).toNat = (if c < 2 then u64 (sg w (lv w h 0 (i + c % 2 * (64 / w)))) else lv w h 0 (i + c % 2 * (64 / w))) * (if c < 2 then u64 (sg w (lv w h 2 (i + c % 2 * (64 / w)))) else lv w h 2 (i + c % 2 * (64 / w))) % 2 ^ 64 := by
 unfold exF
 rw [BitVec.toNat_mul, hf_n hw, hf_n hw]
 by_cases hc : c < 2 <;> simp [hc]
theorem naF_n {w n : Nat} (hw : WN (2 * w) n) (lo hi : Nat) (h : Nat → B) (i : Nat) :
  (naF w lo hi h i).toNat = u64 (min (max (sg (2 * w) (lv (2 * w) h (2 * (i / (64 / w))) (i % (64 / w)))) (BitVec.ofNat 64 lo).toInt) (BitVec.ofNat 64 hi).toInt) := by
 unfold naF
 rw [toNat_u64, mostF_i, leastF_i, hf_s hw]
theorem w16 : WN 16 4 := .inr (.inl ⟨rfl, rfl⟩)
theorem doF_n (h : Nat → B) (i : Nat) :
  (doF h i).toNat = u64 (sg 16 (lv 16 h 0 (2 * i)) * sg 16 (lv 16 h 2 (2 * i)) + sg 16 (lv 16 h 0 (2 * i + 1)) * sg 16 (lv 16 h 2 (2 * i + 1))) := by
 have k := fun v j => hf_n w16 h v j true
 simp only [if_true] at k
 exact add_u64 _ _ _ _ (mul_u64 _ _ _ _ (k _ _) (k _ _)) (mul_u64 _ _ _ _ (k _ _) (k _ _))
theorem sg16 {a : Nat} (ha : a < 65536) : -32768 ≤ sg 16 a ∧ sg 16 a ≤ 32767 := by
 unfold sg
 simp only [Nat.reduceSub, Nat.reducePow, Int.reducePow]
 split <;> omega
theorem mul16 {s t : Int} (hs : -32768 ≤ s ∧ s ≤ 32767) (ht : -32768 ≤ t ∧ t ≤ 32767) : -1073741824 ≤ s * t ∧ s * t ≤ 1073741824 := by
 have h1 : 0 ≤ (s + 32768) * (t + 32768) := Int.mul_nonneg (by omega) (by omega)
 have h2 : 0 ≤ (32768 - s) * (32768 - t) := Int.mul_nonneg (by omega) (by omega)
 have h3 : 0 ≤ (s + 32768) * (32768 - t) := Int.mul_nonneg (by omega) (by omega)
 have h4 : 0 ≤ (32768 - s) * (t + 32768) := Int.mul_nonneg (by omega) (by omega)
 have e1 : (s + 32768) * (t + 32768) = s * t + 32768 * s + 32768 * t + 1073741824 := by rw [Int.add_mul, Int.mul_add, Int.mul_add, Int.mul_comm s 32768]; omega
 have e2 : (32768 - s) * (32768 - t) = s * t - 32768 * s - 32768 * t + 1073741824 := by rw [Int.sub_mul, Int.mul_sub, Int.mul_sub, Int.mul_comm s 32768]; omega
 have e3 : (s + 32768) * (32768 - t) = - (s * t) + 32768 * s - 32768 * t + 1073741824 := by rw [Int.add_mul, Int.mul_sub, Int.mul_sub, Int.mul_comm s 32768]; omega
 have e4 : (32768 - s) * (t + 32768) = - (s * t) - 32768 * s + 32768 * t + 1073741824 := by rw [Int.sub_mul, Int.mul_add, Int.mul_add, Int.mul_comm s 32768]; omega
 rw [e1] at h1; rw [e2] at h2; rw [e3] at h3; rw [e4] at h4
 omega
theorem qF_n (h : Nat → B) (i : Nat) :
  (qF h i).toNat = u64 (min ((sg 16 (lv 16 h 0 i) * sg 16 (lv 16 h 2 i) + 16384) / 32768) 32767) := by
 have k := fun v j => hf_n w16 h v j true
 simp only [if_true] at k
 have e1 := add_u64 (hf 0 16 h i true * hf 2 16 h i true) (BitVec.ofNat 64 16384) _ 16384 (mul_u64 _ _ _ _ (k 0 i) (k 2 i)) rfl
 have hb := mul16 (s := sg 16 (lv 16 h 0 i)) (t := sg 16 (lv 16 h 2 i)) (sg16 (ln_lt 16 _ _)) (sg16 (ln_lt 16 _ _))
 have e2 := u64_small (Int.le_trans (by decide) (Int.add_le_add_right hb.1 _)) (Int.lt_of_le_of_lt (Int.add_le_add_right hb.2 _) (by decide)) e1
 unfold qF
 rw [toNat_u64, mostF_i, BitVec.toInt_sshiftRight, e2, Int.shiftRight_eq_div_pow]
 rfl
theorem swzF_n (h : Nat → B) (j : Nat) :
  (swzF h j).toNat = if lv 8 h 2 j < 16 then lv 8 h 0 (lv 8 h 2 j) else 0 := by
 have ht := laneU_n (w := 8) (by decide) (j % 8) (h (2 + j / 8))
 have hl : (laneU 8 (j % 8) (h (2 + j / 8))).toNat < 256 := by rw [ht]; exact ln_lt 8 _ _
 have e0 : lv 8 h 2 j = (laneU 8 (j % 8) (h (2 + j / 8))).toNat := ht.symm
 rw [e0]
 unfold swzF
 simp only []
 generalize laneU 8 (j % 8) (h (2 + j / 8)) = t at *
 have hor : ∀ z : B, (z &&& BitVec.ofNat 64 255).toNat = z.toNat % 256 := fun z => ones_and (w := 8) (by decide) z
 have h7 : (t &&& BitVec.ofNat 64 7).toNat = t.toNat % 8 := ones_and (w := 3) (by decide) t
 have hsh : ((t &&& BitVec.ofNat 64 7) <<< 3).toNat % 64 = 8 * (t.toNat % 8) := by
  rw [BitVec.toNat_shiftLeft, h7, Nat.shiftLeft_eq]; omega
 have u8 : t.ult (BitVec.ofNat 64 8) = decide (t.toNat < 8) := by simp [BitVec.ult]
 have u16 : t.ult (BitVec.ofNat 64 16) = decide (t.toNat < 16) := by simp [BitVec.ult]
 have hx : ∀ p : Bool, ((truB p).setWidth 32).setWidth 64 = truB p := by decide
 rw [hsh, selB_tru, u8, u16, hx, BitVec.toNat_mul, hor, BitVec.toNat_ushiftRight, Nat.shiftRight_eq_div_pow]
 by_cases c16 : t.toNat < 16
 ·rw [if_pos c16]
  simp only [c16, decide_true]
  have e1 : (truB true).toNat = 1 := rfl
  rw [e1, Nat.mul_one, Nat.mod_eq_of_lt (by omega)]
  unfold lv ln
  by_cases c8 : t.toNat < 8
  ·have d : t.toNat / 8 = 0 := by omega
   simp only [c8, decide_true, if_true, Nat.reduceDiv, d]
  ·have d : t.toNat / 8 = 1 := by omega
   simp only [c8, decide_false, Bool.false_eq_true, if_false, Nat.reduceDiv, d]
 ·rw [if_neg c16]
  simp only [c16, decide_false]
  have e1 : (truB false).toNat = 0 := rfl
  rw [e1, Nat.mul_zero]
theorem ln_prodF {w n : Nat} (h : WN w n) (x y : B) {i : Nat} (hi : i < n) : ln w i (prodF w x y) = ln w i x * ln w i y % 2 ^ w := by
 unfold prodF
 by_cases h64 : w = 64
 ·subst h64
  obtain rfl := h.w64
  obtain rfl : i = 0 := by omega
  rw [if_pos rfl, ln_64, ln_64, ln_64, BitVec.toNat_mul]
 ·have hn := h.npos
  have hp := h.pos
  rw [if_neg h64, h.div, ln_accF (w := w) (n := n - 1) (by rw [Nat.sub_add_cancel hn]; exact h.mul) _ (by omega), BitVec.toNat_mul, laneU_n hp.2, laneU_n hp.2]
  exact Nat.mod_mod_of_dvd _ (Nat.pow_dvd_pow 2 hp.2)
def arN (w kk a b : Nat) : Nat :=
 match kk with
 | 14 => (a + b) % 2 ^ w
 | 15 => cutI w (min (max (sg w a + sg w b) (-2 ^ (w - 1))) (2 ^ (w - 1) - 1))
 | 16 => min (a + b) (2 ^ w - 1)
 | 17 => (a + (2 ^ w - b)) % 2 ^ w
 | 18 => cutI w (min (max (sg w a - sg w b) (-2 ^ (w - 1))) (2 ^ (w - 1) - 1))
 | 19 => a - b
 | 21 => a * b % 2 ^ w
 | 22 => if sg w a < sg w b then a else b
 | 23 => if a < b then a else b
 | 24 => if sg w a < sg w b then b else a
 | 25 => if a < b then b else a
 | _ => (a + b + 1) / 2
theorem pick_ite (p : Prop) [Decidable p] (a b : Nat) : (if decide p = true then a else b) = if p then a else b := by by_cases h : p <;> simp [h]
theorem ln_arF {w n : Nat} (h : WN w n) (kk : Nat) (hk : kk = 14 ∨ kk = 15 ∨ kk = 16 ∨ kk = 17 ∨ kk = 18 ∨ kk = 19 ∨ kk = 21 ∨ kk = 22 ∨ kk = 23 ∨ kk = 24 ∨ kk = 25 ∨ kk = 27) (x y : B) {i : Nat} (hi : i < n) : ln w i (arF w kk x y) = arN w kk (ln w i x) (ln w i y) := by
 rcases hk with rfl | rfl | rfl | rfl | rfl | rfl | rfl | rfl | rfl | rfl | rfl | rfl
 ·exact ln_addF h x y hi
 ·have := ln_heldF h x y true hi; simp only [if_true] at this; exact this
 ·exact ln_addsF h x y hi
 ·exact ln_subF h x y hi
 ·have := ln_heldF h x y false hi; simp only [Bool.false_eq_true, if_false] at this; exact this
 ·exact ln_subsF h x y hi
 ·exact ln_prodF h x y hi
 ·have := ln_pick h y x _ _ hi (ln_less h x y true hi); simp only [if_true, pick_ite] at this; exact this
 ·have := ln_pick h y x _ _ hi (ln_less h x y false hi); simp only [Bool.false_eq_true, if_false, pick_ite] at this; exact this
 ·have := ln_pick h x y _ _ hi (ln_less h x y true hi); simp only [if_true, pick_ite] at this; exact this
 ·have := ln_pick h x y _ _ hi (ln_less h x y false hi); simp only [Bool.false_eq_true, if_false, pick_ite] at this; exact this
 ·exact ln_avgF h x y hi
end Ln
end
