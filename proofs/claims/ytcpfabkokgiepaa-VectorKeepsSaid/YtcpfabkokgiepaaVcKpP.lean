/-
  For every instruction and five numbers plaitlaw09.VectorKeeps returns true; no condition. (It is proved of the program's text over the formal model.)
-/
import Derived.Test.YtcpfabkokgiepaaVcKp
import Derived.Test.YtcpfabkokgiepaaOpen
import Derived.Deep.Slices
import Derived.Deep.MidRow
set_option linter.unusedSimpArgs false
set_option linter.unusedVariables false
namespace Go.Proofs.Ytcpfabkokgiepaa
open Go.RowKit Go.ChangeShapes Go.WideShapes Go.ChangeAt Pl

set_option maxRecDepth 100000 in
theorem ifields : ∃ f0 f1 f2 f3 f4 f5 : Field, Try.prog.underlying 25 = some (.struct #[f0, f1, f2, f3, f4, f5]) ∧ (f0.type = 3 ∧ f0.offset = 0) ∧ (f1.type = 3 ∧ f1.offset = 1) ∧ (f2.type = 3 ∧ f2.offset = 2) ∧ (f3.type = 22 ∧ f3.offset = 3) ∧ (f4.type = 22 ∧ f4.offset = 4) :=
  ⟨_, _, _, _, _, _, rfl, ⟨rfl, rfl⟩, ⟨rfl, rfl⟩, ⟨rfl, rfl⟩, ⟨rfl, rfl⟩, ⟨rfl, rfl⟩⟩
set_option maxRecDepth 100000 in
theorem trod_instr {H : Type} {enc : TypeId × Value → H} {w : World} {spare : Nat → Bool} {held : Bool} {base fuel : Nat} {c0 c1 c2 c3 c4 c5 : Value} {x : DataW H × List MemPlace}
    (h : DataW.trod enc Try.prog w base spare held fuel 25 [c0, c1, c2, c3, c4, c5] = some x) :
    ∃ op a b lo hi, c0 = .int .i64 op ∧ c1 = .int .i64 a ∧ c2 = .int .i64 b ∧ c3 = .int .u64 lo ∧ c4 = .int .u64 hi ∧ (Lit.int .i64 op).wf = true ∧ (Lit.int .i64 a).wf = true ∧ (Lit.int .i64 b).wf = true ∧ (Lit.int .u64 lo).wf = true ∧ (Lit.int .u64 hi).wf = true := by
  have hi : Try.prog.underlying 3 = some (.int .i64) := by kernel_rfl
  have hu : Try.prog.underlying 22 = some (.int .u64) := by kernel_rfl
  have hci : Try.prog.cellsOf 3 = 1 := by kernel_rfl
  have hcu : Try.prog.cellsOf 22 = 1 := by kernel_rfl
  obtain ⟨f0, f1, f2, f3, f4, f5, hS, ⟨t0, o0⟩, ⟨t1, o1⟩, ⟨t2, o2⟩, ⟨t3, o3⟩, ⟨t4, o4⟩⟩ := ifields
  obtain ⟨xs, n, _, _, _, hl, hx⟩ := DataW.trod_struct hS h
  have hl6 : xs.length = 6 := hl
  have g0 := hx 0 f0 rfl
  have g1 := hx 1 f1 rfl
  have g2 := hx 2 f2 rfl
  have g3 := hx 3 f3 rfl
  have g4 := hx 4 f4 rfl
  rw [List.getElem?_eq_getElem (by omega), t0, o0, hci] at g0
  rw [List.getElem?_eq_getElem (by omega), t1, o1, hci] at g1
  rw [List.getElem?_eq_getElem (by omega), t2, o2, hci] at g2
  rw [List.getElem?_eq_getElem (by omega), t3, o3, hcu] at g3
  rw [List.getElem?_eq_getElem (by omega), t4, o4, hcu] at g4
  obtain ⟨z0, e0, _, w0⟩ := DataW.trod_int hi g0
  obtain ⟨z1, e1, _, w1⟩ := DataW.trod_int hi g1
  obtain ⟨z2, e2, _, w2⟩ := DataW.trod_int hi g2
  obtain ⟨z3, e3, _, w3⟩ := DataW.trod_int hu g3
  obtain ⟨z4, e4, _, w4⟩ := DataW.trod_int hu g4
  simp at e0 e1 e2 e3 e4
  exact ⟨z0, z1, z2, z3, z4, e0, e1, e2, e3, e4, w0, w1, w2, w3, w4⟩
set_option maxRecDepth 100000 in
theorem open_instr {H : Type} {enc : TypeId × Value → H} {w : World} {spare : Nat → Bool} {held : Bool} {base b0 : Nat} {r : Reach} {v : Value} {d : DataW H} {p : List MemPlace}
    (hv : Value.okWide Try.prog w r b0 25 v) (h : DataW.Trod enc Try.prog w base spare held 25 v d p) :
    ∃ op a b lo hi L, v = .agg #[.int .i64 op, .int .i64 a, .int .i64 b, .int .u64 lo, .int .u64 hi, L] ∧ (Lit.int .i64 op).wf = true ∧ (Lit.int .i64 a).wf = true ∧ (Lit.int .i64 b).wf = true ∧ (Lit.int .u64 lo).wf = true ∧ (Lit.int .u64 hi).wf = true := by
  have hc : Try.prog.cellsOf 25 = 6 := by kernel_rfl
  obtain ⟨fs, hS⟩ := iunder2
  unfold Value.okWide at hv
  rw [hS] at hv
  obtain ⟨cs, rfl, hsz, _⟩ := hv
  rw [hc] at hsz
  obtain ⟨fuel, hf⟩ := h
  obtain ⟨l⟩ := cs
  match l, hsz, hf with
  | [c0, c1, c2, c3, c4, c5], _, hf =>
    obtain ⟨op, a, b, lo, hi, rfl, rfl, rfl, rfl, rfl, w0, w1, w2, w3, w4⟩ := trod_instr (x := (d, p)) (by simpa [Value.cells] using hf)
    exact ⟨op, a, b, lo, hi, c5, rfl, w0, w1, w2, w3, w4⟩

theorem keeps_row (op A B lo hi : Int) (x0 x1 x2 x3 x4 : Nat) (L : Value) (w : World) (ho : -9223372036854775808 ≤ op ∧ op ≤ 9223372036854775807) (hlo : 0 ≤ lo) (hhi : 0 ≤ hi) (h0 : x0 < 18446744073709551616) (h1 : x1 < 18446744073709551616) (h2 : x2 < 18446744073709551616) (h3 : x3 < 18446744073709551616) (h4 : x4 < 18446744073709551616) :
    Calls Try.prog 8 #[.agg #[.int .i64 op, .int .i64 A, .int .i64 B, .int .u64 lo, .int .u64 hi, L], .agg #[.int .u64 (x0 : Nat), .int .u64 (x1 : Nat), .int .u64 (x2 : Nat), .int .u64 (x3 : Nat), .int .u64 (x4 : Nat)]] w fun e w' => e = .returned (.bool true) ∧ Below w.heap.size w w' := by
  obtain ⟨lo, rfl⟩ := Int.eq_ofNat_of_zero_le hlo
  obtain ⟨hi, rfl⟩ := Int.eq_ofNat_of_zero_le hhi
  refine keeps_any op A B lo hi x0 x1 x2 x3 x4 L w ho (fun n x hx => ?_)
  have := List.mem_of_mem_take hx
  simp only [List.mem_cons, List.not_mem_nil, or_false] at this
  rcases this with rfl | rfl | rfl | rfl | rfl <;> assumption


set_option maxRecDepth 100000 in
theorem vectorKeeps_lifted (os : Os) (started : os.Started) (H : Type) (enc : TypeId × Value → H) :
    ReturnsInHanded {} Try.checked os 8 .any (Rows.vectorKeepsSpec.pre6 enc Try.prog Try.f8 Rows.vectorKeepsRow.domain false) (Rows.vectorKeepsSpec.post enc Try.prog Try.f8 false true false false) := by
  refine returnsInHanded_of_change (C := Try.checked) Try.own started (by kernel_rfl) Try.func8
    (ChangeSpec.witness6 (enc := enc) (C := Try.checked) false ⟨#[], #[.agg #[.int .i64 0, .int .i64 0, .int .i64 0, .int .u64 0, .int .u64 0, .slice none 0 0], .agg #[.int .u64 0, .int .u64 0, .int .u64 0, .int .u64 0, .int .u64 0]], []⟩ 8 (by kernel_rfl) (by kernel_rfl) (by kernel_rfl) (by kernel_rfl)) ?_
  intro W base args ds gs before hval0 hW hcnd _
  have hval : ∀ (j : Nat) t v, Try.f8.params[j]? = some t → args[j]? = some v → Value.okWide Try.prog W .any base t v := hval0
  have hW' := hW
  obtain ⟨p, q, hA0, hV, rfl, hfz, hnd⟩ := hW
  have hA : DataW.TrodAll enc Try.prog W 0 (fun _ => true) true Try.f8.params.toList args.toList ds p := hA0
  rw [Try.params8] at hA hval
  obtain ⟨v0, v1, d0, d1, p0, p1, rfl, rfl, rfl, h0, h1⟩ := trodAll_two hA
  obtain ⟨rfl, rfl⟩ := trodVars_none hV
  clear hA0 hval0
  obtain ⟨o0, a0, b0, l0, g0, L0, rfl, wo0, wa0, wb0, wl0, wg0⟩ := open_instr (hval 0 25 v0 rfl rfl) h0
  obtain ⟨q0, q1, q2, q3, q4, rfl, kk0, kk1, kk2, kk3, kk4⟩ := open_a5 (hval 1 35 v1 rfl rfl) h1
  simp only [List.append_nil] at hW'
  have laid : laidOutB Try.prog = true := by kernel_rfl
  refine (keeps_row o0 a0 b0 l0 g0 q0 q1 q2 q3 q4 L0 W (bounds_i64 wo0) (bounds_u64 wl0).1 (bounds_u64 wg0).1 kk0 kk1 kk2 kk3 kk4).mono fun e W' ⟨he, hb⟩ => ?_
  subst he
  exact ⟨_, rfl, _, _, _, [], _, [], hW', trodAll_mk1 (shut_bool Try.underlying4 _), trodAll_mk2 (Below.trod laid (by kernel_rfl) (of_decide_eq_true (by kernel_rfl)) h0 hb (fun x hx => hW'.lt x (by simp [hx]))) (Below.trod laid (by kernel_rfl) (of_decide_eq_true (by kernel_rfl)) h1 hb (fun x hx => hW'.lt x (by simp [hx]))), rfl, hb.frame _, fun h => by cases h⟩

theorem vectorKeeps_holds : Rows.VectorKeepsSaid :=
  OpenClaim.holds_of_wide 8 Try.f8 rfl rfl rfl rfl rfl rfl rfl ⟨rfl, rfl, rfl, rfl, rfl⟩ rfl rfl rfl rfl rfl (by kernel_rfl) Try.func8 (by kernel_rfl)
    (of_decide_eq_true (by kernel_rfl)) (by unfold Func.isWrapper; rw [if_neg (of_decide_eq_false (by kernel_rfl))]; exact ⟨rfl, rfl⟩)
    (fun os started H enc _ => vectorKeeps_lifted os started H enc)
#print axioms vectorKeeps_holds

end Go.Proofs.Ytcpfabkokgiepaa
