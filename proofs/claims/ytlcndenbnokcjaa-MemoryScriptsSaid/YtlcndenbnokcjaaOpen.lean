/-
  A vector that came in as an argument: its reading opened.
-/
import Derived.Test.YtlcndenbnokcjaaPair
import Derived.ProofKit
import Derived.Carry
import Derived.OpenShut
set_option linter.unusedSimpArgs false
set_option linter.unusedVariables false
set_option maxRecDepth 100000
namespace Go.Proofs.Ytlcndenbnokcjaa
open Go.RowKit Go.ChangeShapes Go.WideShapes Go.ChangeAt Pl

theorem vec_of_ints (f : Nat → Nat) : ∃ v : Vec, ∀ i, i < 16 → getN v 8 i = f i % 256 :=
  ⟨buildOn 0 8 f 16, fun i hi => by rw [getN_buildOn _ _ _ _ _ (by decide), if_pos hi]⟩

theorem open_vec {H : Type} {enc : TypeId × Value → H} {w : World} {spare : Nat → Bool} {held : Bool} {base b0 : Nat} {r : Reach} {v : Value} {d : DataW H} {p : List MemPlace}
    (hv : Value.okWide Try.prog w r b0 61 v) (h : DataW.Trod enc Try.prog w base spare held 61 v d p) : ∃ u : Vec, v = .agg (cells u) := by
  have hu : Try.prog.underlying 5 = some (.int .u8) := by kernel_rfl
  have hc1 : Try.prog.cellsOf 5 = 1 := by kernel_rfl
  have hc16 : Try.prog.cellsOf 61 = 16 := by kernel_rfl
  unfold Value.okWide at hv
  rw [vunder] at hv
  obtain ⟨cs, rfl, hsz, _⟩ := hv
  rw [hc16] at hsz
  obtain ⟨fuel, hf⟩ := h
  obtain ⟨xs, m, _, _, _, hl, hx⟩ := DataW.trod_array vunder hf
  simp only [Value.cells, hc1, Nat.mul_one] at hx
  have hcell : ∀ i, i < 16 → ∃ a : Nat, a < 256 ∧ cs[i]? = some (.int .u8 (a : Int)) := fun i hi => by
    have h1 := hx i hi
    have hci : (cs.toList.drop i).take 1 = [cs[i]'(by omega)] := by
      rw [List.drop_eq_getElem_cons (by simpa using (by omega : i < cs.size))]
      simp
    rw [hci, List.getElem?_eq_getElem (by omega)] at h1
    obtain ⟨a, e, _, wf⟩ := DataW.trod_int hu h1
    simp at e
    have hb := bounds_u8 wf
    refine ⟨a.toNat, by omega, ?_⟩
    rw [Array.getElem?_eq_getElem (by omega), e, Int.toNat_of_nonneg hb.1]
  obtain ⟨u, hu2⟩ := vec_of_ints (fun i => match cs[i]? with | some (.int _ a) => a.toNat | _ => 0)
  refine ⟨u, ?_⟩
  refine congrArg Value.agg ?_
  apply Array.ext_getElem?
  intro i
  by_cases hi : i < 16
  · obtain ⟨a, ha, hca⟩ := hcell i hi
    have h2 := hu2 i hi
    rw [hca] at h2
    rw [getElem?_cells u i hi, hca]
    unfold byteV
    have h3 : bitsAt u (8 * i) 8 = a := by
      have : getN u 8 i = a := by rw [h2]; simp; omega
      exact this
    rw [h3]
  · rw [Array.getElem?_eq_none (by omega), Array.getElem?_eq_none (by simp; omega)]

theorem Try.own : ownKnob Try.prog.godebug = none := by kernel_rfl
theorem bounds_i64 {x : Int} (h : (Lit.int .i64 x).wf = true) : -9223372036854775808 ≤ x ∧ x ≤ 9223372036854775807 := by
  simp [Lit.wf, IntKind.min, IntKind.max, IntKind.signed, IntKind.bits] at h
  exact ⟨by omega, by omega⟩
theorem bounds_u64 {x : Int} (h : (Lit.int .u64 x).wf = true) : 0 ≤ x ∧ x < 18446744073709551616 := by
  simp [Lit.wf, IntKind.min, IntKind.max, IntKind.signed, IntKind.bits] at h
  exact ⟨by omega, by omega⟩
theorem bounds_u32 {x : Int} (h : (Lit.int .u32 x).wf = true) : 0 ≤ x ∧ x < 4294967296 := by
  simp [Lit.wf, IntKind.min, IntKind.max, IntKind.signed, IntKind.bits] at h
  exact ⟨by omega, by omega⟩
theorem bounds_u16 {x : Int} (h : (Lit.int .u16 x).wf = true) : 0 ≤ x ∧ x < 65536 := by
  simp [Lit.wf, IntKind.min, IntKind.max, IntKind.signed, IntKind.bits] at h
  exact ⟨by omega, by omega⟩
theorem bounds_u8 {x : Int} (h : (Lit.int .u8 x).wf = true) : 0 ≤ x ∧ x < 256 := by
  simp [Lit.wf, IntKind.min, IntKind.max, IntKind.signed, IntKind.bits] at h
  exact ⟨by omega, by omega⟩
end Go.Proofs.Ytlcndenbnokcjaa
