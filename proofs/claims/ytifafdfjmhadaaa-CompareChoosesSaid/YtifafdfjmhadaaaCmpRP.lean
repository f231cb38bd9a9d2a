/-
  Plain laws for the reference's comparisons.
-/
import Derived.Test.YtifafdfjmhadaaaCmpO
import Derived.Test.YtifafdfjmhadaaaRefG
set_option linter.unusedSimpArgs false
set_option linter.unusedVariables false
namespace Pl
theorem uns_sgn (w : Nat) (hw : w = 8 ∨ w = 16 ∨ w = 32 ∨ w = 64) (n : Nat) (h : n < 2 ^ w) : uns (sgn w n) = if n < 2 ^ (w - 1) then (n : Int) else (n : Int) + (18446744073709551616 - 2 ^ w) := by
  rcases hw with rfl | rfl | rfl | rfl <;> (unfold uns sgn; simp at h ⊢; try (split <;> omega))
theorem uns_lane (w : Nat) (hw : w = 8 ∨ w = 16 ∨ w = 32 ∨ w = 64) (a b : Vec) (i j : Nat) : uns (sgn w (getN a w i)) < uns (sgn w (getN b w j)) ↔ getN a w i < getN b w j := by
  have h1 := getN_lt a w i
  have h2 := getN_lt b w j
  rw [uns_sgn w hw _ h1, uns_sgn w hw _ h2]
  generalize getN a w i = x at *
  generalize getN b w j = y at *
  rcases hw with rfl | rfl | rfl | rfl <;> (simp at h1 h2 ⊢; try (split <;> split <;> omega))
theorem ones_byte (j : Nat) (h : j < 8) : 18446744073709551615 / 2 ^ (8 * j) % 256 = 255 := by
  have : ∀ k : Fin 8, 18446744073709551615 / 2 ^ (8 * k.val) % 256 = 255 := by decide
  exact this ⟨j, h⟩
theorem msk_zero (w : Nat) (f : Nat → Nat) (i : Nat) (hi : i < 128 / w) (h0 : f i = 0) : buildOn 0 w f (i + 1) = buildOn 0 w f i := by
  rw [buildOn, h0]
  have : getN (buildOn 0 w f i) w i = 0 := by
    rw [getN_buildOn _ _ _ _ _ (by omega), if_neg (by omega)]
    simp [getN, bitsAt]
  have e := setN_same (buildOn 0 w f i) w i hi
  rw [this] at e
  exact e
end Pl
namespace Go.Proofs.Ytifafdfjmhadaaa
open Go.RowKit Pl
theorem St.eqX {W wr : World} {O : Nat} {X Y : Vec} (h : Y = X) (hs : St W O X wr) : St W O Y wr := by subst h; exact hs

end Go.Proofs.Ytifafdfjmhadaaa
