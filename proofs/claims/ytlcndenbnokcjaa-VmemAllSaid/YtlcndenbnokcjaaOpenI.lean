/-
  An instruction that came in as an argument: its reading opened.
-/
import Derived.Test.YtlcndenbnokcjaaOpen
import Derived.Test.YtlcndenbnokcjaaVmW
set_option linter.unusedSimpArgs false
set_option linter.unusedVariables false
namespace Go.Proofs.Ytlcndenbnokcjaa
open Go.RowKit Go.ChangeShapes Go.WideShapes Go.ChangeAt Pl

set_option maxRecDepth 100000 in
theorem ifields : ∃ f0 f1 f2 f3 f4 f5 : Field, Try.prog.underlying 65 = some (.struct #[f0, f1, f2, f3, f4, f5]) ∧ (f0.type = 3 ∧ f0.offset = 0) ∧ (f1.type = 3 ∧ f1.offset = 1) ∧ (f2.type = 3 ∧ f2.offset = 2) ∧ (f3.type = 34 ∧ f3.offset = 3) ∧ (f4.type = 34 ∧ f4.offset = 4) :=
  ⟨_, _, _, _, _, _, rfl, ⟨rfl, rfl⟩, ⟨rfl, rfl⟩, ⟨rfl, rfl⟩, ⟨rfl, rfl⟩, ⟨rfl, rfl⟩⟩
set_option maxRecDepth 100000 in
theorem trod_instr {H : Type} {enc : TypeId × Value → H} {w : World} {spare : Nat → Bool} {held : Bool} {base fuel : Nat} {c0 c1 c2 c3 c4 c5 : Value} {x : DataW H × List MemPlace}
    (h : DataW.trod enc Try.prog w base spare held fuel 65 [c0, c1, c2, c3, c4, c5] = some x) :
    ∃ op a b lo hi, c0 = .int .i64 op ∧ c1 = .int .i64 a ∧ c2 = .int .i64 b ∧ c3 = .int .u64 lo ∧ c4 = .int .u64 hi ∧ (Lit.int .i64 op).wf = true ∧ (Lit.int .i64 a).wf = true ∧ (Lit.int .i64 b).wf = true ∧ (Lit.int .u64 lo).wf = true ∧ (Lit.int .u64 hi).wf = true := by
  have hi : Try.prog.underlying 3 = some (.int .i64) := by kernel_rfl
  have hu : Try.prog.underlying 34 = some (.int .u64) := by kernel_rfl
  have hci : Try.prog.cellsOf 3 = 1 := by kernel_rfl
  have hcu : Try.prog.cellsOf 34 = 1 := by kernel_rfl
  obtain ⟨f0, f1, f2, f3, f4, f5, hS, ⟨t0, o0⟩, ⟨t1, o1⟩, ⟨t2, o2⟩, ⟨t3, o3⟩, ⟨t4, o4⟩⟩ := ifields
  obtain ⟨xs, n, _, _, _, hl, hx⟩ := DataW.trod_struct hS h
  have hl6 : xs.length = 6 := hl
  have g0 := hx 0 f0 rfl
  have g1 := hx 1 f1 rfl
  have g2 := hx 2 f2 rfl
  have g3 := hx 3 f3 rfl
  have g4 := hx 4 f4 rfl
  rw [List.getElem?_eq_getElem (by omega), t0, o0, hci] at g0
  rw [List.getElem?_eq_getElem (by omega), t1, o1, hci] at g1
  rw [List.getElem?_eq_getElem (by omega), t2, o2, hci] at g2
  rw [List.getElem?_eq_getElem (by omega), t3, o3, hcu] at g3
  rw [List.getElem?_eq_getElem (by omega), t4, o4, hcu] at g4
  obtain ⟨z0, e0, _, w0⟩ := DataW.trod_int hi g0
  obtain ⟨z1, e1, _, w1⟩ := DataW.trod_int hi g1
  obtain ⟨z2, e2, _, w2⟩ := DataW.trod_int hi g2
  obtain ⟨z3, e3, _, w3⟩ := DataW.trod_int hu g3
  obtain ⟨z4, e4, _, w4⟩ := DataW.trod_int hu g4
  simp at e0 e1 e2 e3 e4
  exact ⟨z0, z1, z2, z3, z4, e0, e1, e2, e3, e4, w0, w1, w2, w3, w4⟩
set_option maxRecDepth 100000 in
theorem open_instr {H : Type} {enc : TypeId × Value → H} {w : World} {spare : Nat → Bool} {held : Bool} {base b0 : Nat} {r : Reach} {v : Value} {d : DataW H} {p : List MemPlace}
    (hv : Value.okWide Try.prog w r b0 65 v) (h : DataW.Trod enc Try.prog w base spare held 65 v d p) :
    ∃ op a b lo hi L, v = inV op a b lo hi L ∧ (Lit.int .i64 op).wf = true ∧ (Lit.int .i64 a).wf = true ∧ (Lit.int .i64 b).wf = true ∧ (Lit.int .u64 lo).wf = true ∧ (Lit.int .u64 hi).wf = true := by
  have hc : Try.prog.cellsOf 65 = 6 := by kernel_rfl
  obtain ⟨fs, hS⟩ := iunder
  unfold Value.okWide at hv
  rw [hS] at hv
  obtain ⟨cs, rfl, hsz, _⟩ := hv
  rw [hc] at hsz
  obtain ⟨fuel, hf⟩ := h
  obtain ⟨l⟩ := cs
  match l, hsz, hf with
  | [c0, c1, c2, c3, c4, c5], _, hf =>
    obtain ⟨op, a, b, lo, hi, rfl, rfl, rfl, rfl, rfl, w0, w1, w2, w3, w4⟩ := trod_instr (x := (d, p)) (by simpa [Value.cells] using hf)
    exact ⟨op, a, b, lo, hi, c5, rfl, w0, w1, w2, w3, w4⟩
end Go.Proofs.Ytlcndenbnokcjaa
