/-
  Plain laws of comparisons' masks; no program in sight.
-/
import Derived.Test.YtifafdfjmhadaaaCmpM
import Derived.Test.YtifafdfjmhadaaaCmpB
set_option linter.unusedSimpArgs false
set_option linter.unusedVariables false
set_option linter.unusedVariables false
set_option linter.unusedSimpArgs false
namespace Pl
/-- All bits of a lane, or none. -/
def LM (w : Nat) (p : Bool) : Nat := if p = true then 2 ^ w - 1 else 0
theorem LM_and (w : Nat) (p q : Bool) : LM w p &&& LM w q = LM w (p && q) := by cases p <;> cases q <;> simp [LM]
theorem LM_or (w : Nat) (p q : Bool) : LM w p ||| LM w q = LM w (p || q) := by cases p <;> cases q <;> simp [LM]
theorem LM_xor (w : Nat) (p q : Bool) : LM w p ^^^ LM w q = LM w (p != q) := by cases p <;> cases q <;> simp [LM]
theorem getN_and (u v : Vec) (w i : Nat) : getN (u &&& v) w i = getN u w i &&& getN v w i := bitsAt_and _ _ _ _
theorem getN_or (u v : Vec) (w i : Nat) : getN (u ||| v) w i = getN u w i ||| getN v w i := bitsAt_or _ _ _ _
theorem getN_xor (u v : Vec) (w i : Nat) : getN (u ^^^ v) w i = getN u w i ^^^ getN v w i := bitsAt_xor _ _ _ _
theorem not_xor (v : Vec) : ~~~v = v ^^^ (~~~(0#128)) := by
  apply BitVec.eq_of_getLsbD_eq
  intro i hi
  rw [BitVec.getLsbD_xor, BitVec.getLsbD_not, BitVec.getLsbD_not, BitVec.getLsbD_zero]
  cases v.getLsbD i <;> simp [hi]
theorem getN_zero (w i : Nat) : getN (0#128) w i = LM w false := by simp [getN, bitsAt, LM]
theorem getN_ones8 (i : Nat) (h : i < 16) : getN (~~~(0#128)) 8 i = LM 8 true := by
  have : ∀ j : Fin 16, getN (~~~(0#128)) 8 j.val = LM 8 true := by decide +kernel
  exact this ⟨i, h⟩
theorem getN_ones16 (i : Nat) (h : i < 8) : getN (~~~(0#128)) 16 i = LM 16 true := by
  have : ∀ j : Fin 8, getN (~~~(0#128)) 16 j.val = LM 16 true := by decide +kernel
  exact this ⟨i, h⟩
theorem getN_ones32 (i : Nat) (h : i < 4) : getN (~~~(0#128)) 32 i = LM 32 true := by
  have : ∀ j : Fin 4, getN (~~~(0#128)) 32 j.val = LM 32 true := by decide +kernel
  exact this ⟨i, h⟩
theorem getN_ones64 (i : Nat) (h : i < 2) : getN (~~~(0#128)) 64 i = LM 64 true := by
  have : ∀ j : Fin 2, getN (~~~(0#128)) 64 j.val = LM 64 true := by decide +kernel
  exact this ⟨i, h⟩
theorem getN_ones (w : Nat) (hw : w = 8 ∨ w = 16 ∨ w = 32 ∨ w = 64) (i : Nat) (h : i < 128 / w) : getN (~~~(0#128)) w i = LM w true := by
  rcases hw with rfl | rfl | rfl | rfl
  · exact getN_ones8 i h
  · exact getN_ones16 i h
  · exact getN_ones32 i h
  · exact getN_ones64 i h
theorem getN_nots (w : Nat) (hw : w = 8 ∨ w = 16 ∨ w = 32 ∨ w = 64) (v : Vec) (p : Bool) (i : Nat) (h : i < 128 / w) (hv : getN v w i = LM w p) : getN (~~~v) w i = LM w (!p) := by
  rw [not_xor, getN_xor, hv, getN_ones w hw i h, LM_xor]
  cases p <;> rfl
/-- The mask of comparison number k. -/
def CV (w : Nat) (k : Int) (a b : Vec) : Vec := buildOn 0 w (mskN w k a b) (128 / w)
theorem C_lane (w : Nat) (hw : w = 8 ∨ w = 16 ∨ w = 32 ∨ w = 64) (k : Int) (a b : Vec) (i : Nat) (hi : i < 128 / w) : getN (CV w k a b) w i = LM w (holdC k (sgn w (getN a w i)) (sgn w (getN b w i))) := by
  rw [CV, getN_buildOn _ _ _ _ _ (Nat.le_refl _), if_pos hi]
  unfold mskN LM
  by_cases h : holdC k (sgn w (getN a w i)) (sgn w (getN b w i)) = true
  · rw [if_pos h, if_pos h]
    rcases hw with rfl | rfl | rfl | rfl <;> rfl
  · rw [if_neg h, if_neg h]
    exact Nat.zero_mod _
/-- A lane's number lies within 64 bits. -/
def Rg (s : Int) : Prop := -9223372036854775808 ≤ s ∧ s < 9223372036854775808
theorem rg_lane (w : Nat) (hw : w = 8 ∨ w = 16 ∨ w = 32 ∨ w = 64) (v : Vec) (i : Nat) : Rg (sgn w (getN v w i)) := by
  have := getN_lt v w i
  unfold Rg
  rcases hw with rfl | rfl | rfl | rfl <;> (unfold sgn; generalize getN v _ i = n at *; split <;> omega)
theorem vec_lanes (w : Nat) (hw : w = 8 ∨ w = 16 ∨ w = 32 ∨ w = 64) {u v : Vec} (h : ∀ i, i < 128 / w → getN u w i = getN v w i) : u = v :=
  lanes_ext w (128 / w) (by rcases hw with rfl | rfl | rfl | rfl <;> decide) (by rcases hw with rfl | rfl | rfl | rfl <;> decide) h
theorem C_not (w : Nat) (hw : w = 8 ∨ w = 16 ∨ w = 32 ∨ w = 64) (k k' : Int) (h : ∀ s t, Rg s → Rg t → holdC k' s t = !holdC k s t) (a b : Vec) : CV w k' a b = ~~~CV w k a b :=
  vec_lanes w hw fun i hi => by rw [getN_nots w hw _ _ i hi (C_lane w hw k a b i hi), C_lane w hw k' a b i hi, h _ _ (rg_lane w hw a i) (rg_lane w hw b i)]
theorem C_none (w : Nat) (hw : w = 8 ∨ w = 16 ∨ w = 32 ∨ w = 64) (k k' : Int) (h : ∀ s t, Rg s → Rg t → (holdC k s t && holdC k' s t) = false) (a b : Vec) : CV w k a b &&& CV w k' a b = 0#128 :=
  vec_lanes w hw fun i hi => by rw [getN_and, C_lane w hw k a b i hi, C_lane w hw k' a b i hi, LM_and, h _ _ (rg_lane w hw a i) (rg_lane w hw b i), getN_zero]
theorem C_all (w : Nat) (hw : w = 8 ∨ w = 16 ∨ w = 32 ∨ w = 64) (k k' k2 : Int) (h : ∀ s t, Rg s → Rg t → ((holdC k s t || holdC k' s t) || holdC k2 s t) = true) (a b : Vec) : (CV w k a b ||| CV w k' a b) ||| CV w k2 a b = ~~~(0#128) :=
  vec_lanes w hw fun i hi => by rw [getN_or, getN_or, C_lane w hw k a b i hi, C_lane w hw k' a b i hi, C_lane w hw k2 a b i hi, LM_or, LM_or, h _ _ (rg_lane w hw a i) (rg_lane w hw b i), getN_ones w hw i hi]
theorem C_one (w : Nat) (hw : w = 8 ∨ w = 16 ∨ w = 32 ∨ w = 64) (k k' k2 : Int) (h : ∀ s t, Rg s → Rg t → ((holdC k s t != holdC k' s t) != holdC k2 s t) = true) (a b : Vec) : (CV w k a b ^^^ CV w k' a b) ^^^ CV w k2 a b = ~~~(0#128) :=
  vec_lanes w hw fun i hi => by rw [getN_xor, getN_xor, C_lane w hw k a b i hi, C_lane w hw k' a b i hi, C_lane w hw k2 a b i hi, LM_xor, LM_xor, h _ _ (rg_lane w hw a i) (rg_lane w hw b i), getN_ones w hw i hi]
theorem C_turn (w : Nat) (hw : w = 8 ∨ w = 16 ∨ w = 32 ∨ w = 64) (k k' : Int) (h : ∀ s t, holdC k t s = holdC k' s t) (a b : Vec) : CV w k b a = CV w k' a b :=
  vec_lanes w hw fun i hi => by rw [C_lane w hw k b a i hi, C_lane w hw k' a b i hi, h]
theorem C_same (w : Nat) (hw : w = 8 ∨ w = 16 ∨ w = 32 ∨ w = 64) (a : Vec) : CV w 0 a a = ~~~(0#128) :=
  vec_lanes w hw fun i hi => by rw [C_lane w hw 0 a a i hi, getN_ones w hw i hi]; simp [holdC]
theorem C_sgn (w : Nat) (hw : w = 8 ∨ w = 16 ∨ w = 32 ∨ w = 64) (k : Int) (a b : Vec) (i : Nat) (hi : i < 128 / w) : sgn w (getN (CV w k a b) w i) = if holdC k (sgn w (getN a w i)) (sgn w (getN b w i)) = true then -1 else 0 := by
  rw [C_lane w hw k a b i hi]
  unfold LM
  split <;> (rcases hw with rfl | rfl | rfl | rfl <;> rfl)
theorem h_10 (s t : Int) (_ : Rg s) (_ : Rg t) : holdC 1 s t = !holdC 0 s t := rfl
theorem h_64 (s t : Int) (_ : Rg s) (_ : Rg t) : holdC 6 s t = !holdC 4 s t := by
  show decide (s ≤ t) = !decide (t < s)
  rw [Bool.eq_iff_iff]; simp
theorem h_75 (s t : Int) (_ : Rg s) (_ : Rg t) : holdC 7 s t = !holdC 5 s t := by
  show decide (uns s ≤ uns t) = !decide (uns t < uns s)
  rw [Bool.eq_iff_iff]; simp
theorem h_82 (s t : Int) (_ : Rg s) (_ : Rg t) : holdC 8 s t = !holdC 2 s t := by
  show decide (t ≤ s) = !decide (s < t)
  rw [Bool.eq_iff_iff]; simp
theorem h_93 (s t : Int) (_ : Rg s) (_ : Rg t) : holdC 9 s t = !holdC 3 s t := by
  show decide (uns t ≤ uns s) = !decide (uns s < uns t)
  rw [Bool.eq_iff_iff]; simp
theorem h_t2 (s t : Int) : holdC 2 t s = holdC 4 s t := rfl
theorem h_t3 (s t : Int) : holdC 3 t s = holdC 5 s t := rfl
theorem h_n24 (s t : Int) (_ : Rg s) (_ : Rg t) : (holdC 2 s t && holdC 4 s t) = false := by
  show (decide (s < t) && decide (t < s)) = false
  rw [Bool.eq_false_iff]; simp; omega
theorem h_n20 (s t : Int) (_ : Rg s) (_ : Rg t) : (holdC 2 s t && holdC 0 s t) = false := by
  show (decide (s < t) && decide (s = t)) = false
  rw [Bool.eq_false_iff]; simp; omega
theorem h_n40 (s t : Int) (_ : Rg s) (_ : Rg t) : (holdC 4 s t && holdC 0 s t) = false := by
  show (decide (t < s) && decide (s = t)) = false
  rw [Bool.eq_false_iff]; simp; omega
theorem h_n35 (s t : Int) (_ : Rg s) (_ : Rg t) : (holdC 3 s t && holdC 5 s t) = false := by
  show (decide (uns s < uns t) && decide (uns t < uns s)) = false
  rw [Bool.eq_false_iff]; simp; omega
theorem h_n30 (s t : Int) (_ : Rg s) (_ : Rg t) : (holdC 3 s t && holdC 0 s t) = false := by
  show (decide (uns s < uns t) && decide (s = t)) = false
  rw [Bool.eq_false_iff]; simp; intro h e; subst e; omega
theorem h_n50 (s t : Int) (_ : Rg s) (_ : Rg t) : (holdC 5 s t && holdC 0 s t) = false := by
  show (decide (uns t < uns s) && decide (s = t)) = false
  rw [Bool.eq_false_iff]; simp; intro h e; subst e; omega
theorem h_a24 (s t : Int) (_ : Rg s) (_ : Rg t) : ((holdC 2 s t || holdC 4 s t) || holdC 0 s t) = true := by
  show ((decide (s < t) || decide (t < s)) || decide (s = t)) = true
  simp; omega
theorem h_a35 (s t : Int) (hs : Rg s) (ht : Rg t) : ((holdC 3 s t || holdC 5 s t) || holdC 0 s t) = true := by
  show ((decide (uns s < uns t) || decide (uns t < uns s)) || decide (s = t)) = true
  unfold Rg at hs ht
  by_cases h1 : uns s < uns t
  · rw [decide_eq_true h1]; rfl
  · by_cases h2 : uns t < uns s
    · rw [decide_eq_false h1, decide_eq_true h2]; rfl
    · have : s = t := by unfold uns at h1 h2; omega
      rw [decide_eq_false h1, decide_eq_false h2, decide_eq_true this]; rfl
theorem h_x24 (s t : Int) (_ : Rg s) (_ : Rg t) : ((holdC 2 s t != holdC 4 s t) != holdC 0 s t) = true := by
  show ((decide (s < t) != decide (t < s)) != decide (s = t)) = true
  by_cases h1 : s < t
  · rw [decide_eq_true h1, decide_eq_false (show ¬ t < s by omega), decide_eq_false (show ¬ s = t by omega)]; rfl
  · by_cases h2 : t < s
    · rw [decide_eq_false h1, decide_eq_true h2, decide_eq_false (show ¬ s = t by omega)]; rfl
    · rw [decide_eq_false h1, decide_eq_false h2, decide_eq_true (show s = t by omega)]; rfl
end Pl
