/-
  A slice of vectors that came in as an argument: its reading opened.
-/
import Derived.Test.YtifafdfjmhadaaaOpen
import Derived.Deep.Slices
import Derived.Deep.MidRow
set_option linter.unusedSimpArgs false
set_option linter.unusedVariables false
namespace Go.Proofs.Ytifafdfjmhadaaa
open Go.RowKit Go.ChangeShapes Go.WideShapes Go.ChangeAt Pl

/-- v is a slice of m vectors; f tells them. -/
structure VView (w : World) (v : Value) (m : Nat) (f : Nat → Vec) : Prop where
  out : ∃ ad c, v = .slice ad m c ∧ m ≤ c ∧ c ≤ maxLen ∧ (m = 0 ∨ ∃ b off, ad = some ⟨b, off, none⟩ ∧ b < w.heap.size ∧ ∀ i, i < m → w.rangeAt b (off + 16 * i) (cells (f i)).toList)
theorem under_vecs : Try.prog.underlying 33 = some (.slice 23) := by kernel_rfl
theorem vec_of_cells {H : Type} {enc : TypeId × Value → H} {w : World} {spare : Nat → Bool} {held : Bool} {base fuel : Nat} {cs : List Value} {x : DataW H × List MemPlace}
    (hsz : cs.length = 16) (hf : DataW.trod enc Try.prog w base spare held fuel 23 cs = some x) : ∃ u : Vec, cs = (cells u).toList := by
  have hu : Try.prog.underlying 5 = some (.int .u8) := by kernel_rfl
  have hc1 : Try.prog.cellsOf 5 = 1 := by kernel_rfl
  obtain ⟨xs, m, _, _, _, hl, hx⟩ := DataW.trod_array vunder hf
  simp only [hc1, Nat.mul_one] at hx
  have hcell : ∀ i, i < 16 → ∃ a : Nat, a < 256 ∧ cs[i]? = some (.int .u8 (a : Int)) := fun i hi => by
    have h1 := hx i hi
    have hci : (cs.drop i).take 1 = [cs[i]'(by omega)] := by
      rw [List.drop_eq_getElem_cons (by omega : i < cs.length)]; rfl
    rw [hci, List.getElem?_eq_getElem (by omega)] at h1
    obtain ⟨a, e, _, wf⟩ := DataW.trod_int hu h1
    simp at e
    have hb := bounds_u8 wf
    refine ⟨a.toNat, by omega, ?_⟩
    rw [List.getElem?_eq_getElem (by omega), e, Int.toNat_of_nonneg hb.1]
  obtain ⟨u, hu2⟩ := vec_of_ints (fun i => match cs[i]? with | some (.int _ a) => a.toNat | _ => 0)
  refine ⟨u, ?_⟩
  apply List.ext_getElem?
  intro i
  rw [show (cells u).toList[i]? = (cells u)[i]? from Array.getElem?_toList]
  by_cases hi : i < 16
  · obtain ⟨a, ha, hca⟩ := hcell i hi
    have h2 := hu2 i hi
    rw [hca] at h2
    rw [getElem?_cells u i hi, hca]
    unfold byteV
    have h3 : bitsAt u (8 * i) 8 = a := by
      have : getN u 8 i = a := by rw [h2]; simp; omega
      exact this
    rw [h3]
  · rw [List.getElem?_eq_none (by omega), Array.getElem?_eq_none (by simp; omega)]
theorem block_of_cell {w : World} {b o : Nat} {v : Value} (h : w.cell? ⟨b, o, none⟩ = some v) : b < w.heap.size := World.block_lt_of_cell? w _ h

set_option maxRecDepth 100000 in
theorem open_vecs {H : Type} {enc : TypeId × Value → H} {W : World} {base b0 : Nat} {r : Reach} {sp : Nat → Bool} {held : Bool} {v : Value} {d : DataW H} {p : List MemPlace}
    (hval : Value.okWide Try.prog W r b0 33 v) (h : DataW.Trod enc Try.prog W base sp held 33 v d p) : ∃ m f, VView W v m f := by
  have hc : Try.prog.cellsOf 23 = 16 := by kernel_rfl
  obtain ⟨a1, len, cap, rfl⟩ := okWide_slice under_vecs hval
  obtain ⟨fuel, hf⟩ := h
  rcases Go.Deep.open_slice under_vecs hf with ⟨hcs, hx⟩ | ⟨a, len', cap', m, n, D, Pl, hcs, hb, hl, hm, hmm, hx, hel⟩
  · simp [Value.cells] at hcs
    obtain ⟨rfl, rfl, rfl⟩ := hcs
    exact ⟨0, fun _ => 0, ⟨none, 0, rfl, Nat.le_refl _, by decide, .inl rfl⟩⟩
  · simp [Value.cells] at hcs
    obtain ⟨rfl, rfl, rfl⟩ := hcs
    have hlm : len ≤ m := by rw [hmm]; split <;> omega
    have hv : ∀ i, i < len → ∃ u : Vec, ∀ j v, (cells u).toList[j]? = some v → W.cell? ((a.add (i * 16)).add j) = some v := fun i hi => by
      obtain ⟨cs', h1, h2⟩ := hel i (by omega)
      rw [hc] at h1
      obtain ⟨_, hlen, hg⟩ := World.cells?_some h1
      obtain ⟨u, rfl⟩ := vec_of_cells hlen h2
      exact ⟨u, fun j v hj => by
        by_cases h16 : j < 16
        · rw [hg j h16]; exact hj
        · rw [List.getElem?_eq_none (by simp; omega)] at hj; cases hj⟩
    obtain ⟨f, hf2⟩ := Go.Deep.choose_lt hv
    refine ⟨len, f, ⟨some a, cap, rfl, hl, hm, ?_⟩⟩
    by_cases h0 : len = 0
    · exact .inl h0
    · right
      obtain ⟨b, off, spot⟩ := a
      have e0 : (cells (f 0)).toList[0]? = some (byteV (f 0) 0) := by rw [Array.getElem?_toList]; exact getElem?_cells _ _ (by decide)
      have h0c := hf2 0 (by omega) 0 _ e0
      have hspot : spot = none := by simpa [Addr.add] using World.cell?_spot h0c
      subst hspot
      refine ⟨b, off, rfl, ?_, fun i hi j v hj => ?_⟩
      · simp only [Go.Addr.add_mid] at h0c
        exact block_of_cell h0c
      · have := hf2 i hi j v hj
        simp only [Go.Addr.add_mid] at this
        rw [show off + 16 * i + j = off + i * 16 + j by omega]
        exact this

end Go.Proofs.Ytifafdfjmhadaaa
