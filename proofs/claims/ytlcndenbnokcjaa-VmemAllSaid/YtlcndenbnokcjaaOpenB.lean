/-
  A slice of bytes that came in as an argument: its reading opened.
-/
import Derived.Test.YtlcndenbnokcjaaMemE
import Derived.Test.YtlcndenbnokcjaaOpen
set_option linter.unusedSimpArgs false
set_option linter.unusedVariables false
namespace Go.Proofs.Ytlcndenbnokcjaa
open Go.RowKit Go.ChangeShapes Go.WideShapes Go.ChangeAt Pl

set_option maxRecDepth 100000 in
theorem open_bytes {H : Type} {enc : TypeId × Value → H} {W : World} {base b0 : Nat} {r : Reach} {sp : Nat → Bool} {held : Bool} {v : Value} {d : DataW H} {p : List MemPlace}
    (hval : Value.okWide Try.prog W r b0 48 v) (h : DataW.Trod enc Try.prog W base sp held 48 v d p) : ∃ ad m c ν, v = .slice ad m c ∧ BView W v m ν ∧ m ≤ c ∧ c ≤ maxLen := by
  have hc : Try.prog.cellsOf 5 = 1 := by kernel_rfl
  obtain ⟨a1, len, cap, rfl⟩ := okWide_slice under_bytes hval
  obtain ⟨fuel, hf⟩ := h
  rcases open_ints under_bytes under_byte hc hf with ⟨hcs, hx⟩ | ⟨a, len', cap', zs, hcs, _, hl, hm, hz, hx, hcell, hwz⟩
  · simp [Value.cells] at hcs
    obtain ⟨rfl, rfl, rfl⟩ := hcs
    exact ⟨_, 0, _, fun _ => 0, rfl, ⟨⟨_, _, rfl, .inl rfl⟩, fun j hj => by omega⟩, Nat.zero_le _, by decide⟩
  · simp [Value.cells] at hcs
    obtain ⟨rfl, rfl, rfl⟩ := hcs
    have hlz : len ≤ zs.length := by rw [hz]; split <;> omega
    have hb : ∀ j, j < len → 0 ≤ zs.getD j 0 ∧ zs.getD j 0 < 256 := fun j hj => by
      have : zs.getD j 0 = zs[j]'(by omega) := by simp [List.getD, show j < zs.length by omega]
      rw [this]
      have := bounds_u8 (hwz _ (List.getElem_mem (show j < zs.length by omega)))
      omega
    refine ⟨_, len, _, fun j => (zs.getD j 0).toNat, rfl, ⟨⟨_, _, rfl, ?_⟩, fun j hj => by have := hb j hj; omega⟩, hl, hm⟩
    by_cases h0 : len = 0
    · exact .inl h0
    · obtain ⟨b, off, e, hc2⟩ := ints_at hcell (by omega)
      refine .inr ⟨b, off, by rw [e], fun j hj => ?_⟩
      rw [hc2 j (by omega), Int.toNat_of_nonneg (hb j hj).1]

end Go.Proofs.Ytlcndenbnokcjaa
