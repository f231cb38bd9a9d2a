/-
  Texts VcAlP.
-/
import Derived.Test.YtcpfabkokgiepaaQ05
import Derived.Test.YtcpfabkokgiepaaQ52
import Derived.Deep.Slices
set_option linter.unusedSimpArgs false
set_option linter.unusedVariables false
set_option maxHeartbeats 8000000
open Pl
namespace Go.Proofs.Ytcpfabkokgiepaa
open Go.RowKit Go.ChangeShapes Go.WideShapes Go.ChangeAt Pl
set_option maxRecDepth 100000 in
theorem ifields : ∃ f0 f1 f2 f3 f4 f5 : Field, Try.prog.underlying 25 = some (.struct #[f0, f1, f2, f3, f4, f5]) ∧ (f0.type = 3 ∧ f0.offset = 0) ∧ (f1.type = 3 ∧ f1.offset = 1) ∧ (f2.type = 3 ∧ f2.offset = 2) ∧ (f3.type = 22 ∧ f3.offset = 3) ∧ (f4.type = 22 ∧ f4.offset = 4) :=
 ⟨_, _, _, _, _, _, rfl, ⟨rfl, rfl⟩, ⟨rfl, rfl⟩, ⟨rfl, rfl⟩, ⟨rfl, rfl⟩, ⟨rfl, rfl⟩⟩
set_option maxRecDepth 100000 in
theorem trod_instr {H : Type} {enc : TypeId × Value → H} {w : World} {spare : Nat → Bool} {held : Bool} {base fuel : Nat} {c0 c1 c2 c3 c4 c5 : Value} {x : DataW H × List MemPlace}
 (h : DataW.trod enc Try.prog w base spare held fuel 25 [c0, c1, c2, c3, c4, c5] = some x) :
 ∃ op a b lo hi, c0 = .int .i64 op ∧ c1 = .int .i64 a ∧ c2 = .int .i64 b ∧ c3 = .int .u64 lo ∧ c4 = .int .u64 hi ∧ (Lit.int .i64 op).wf = true ∧ (Lit.int .i64 a).wf = true ∧ (Lit.int .i64 b).wf = true ∧ (Lit.int .u64 lo).wf = true ∧ (Lit.int .u64 hi).wf = true := by
 have hi : Try.prog.underlying 3 = some (.int .i64) := by kernel_rfl
 have hu : Try.prog.underlying 22 = some (.int .u64) := by kernel_rfl
 have hci : Try.prog.cellsOf 3 = 1 := by kernel_rfl
 have hcu : Try.prog.cellsOf 22 = 1 := by kernel_rfl
 obtain ⟨f0, f1, f2, f3, f4, f5, hS, ⟨t0, o0⟩, ⟨t1, o1⟩, ⟨t2, o2⟩, ⟨t3, o3⟩, ⟨t4, o4⟩⟩ := ifields
 obtain ⟨xs, n, _, _, _, hl, hx⟩ := DataW.trod_struct hS h
 have hl6 : xs.length = 6 := hl
 have g0 := hx 0 f0 rfl
 have g1 := hx 1 f1 rfl
 have g2 := hx 2 f2 rfl
 have g3 := hx 3 f3 rfl
 have g4 := hx 4 f4 rfl
 rw [List.getElem?_eq_getElem (by omega), t0, o0, hci] at g0
 rw [List.getElem?_eq_getElem (by omega), t1, o1, hci] at g1
 rw [List.getElem?_eq_getElem (by omega), t2, o2, hci] at g2
 rw [List.getElem?_eq_getElem (by omega), t3, o3, hcu] at g3
 rw [List.getElem?_eq_getElem (by omega), t4, o4, hcu] at g4
 obtain ⟨z0, e0, _, w0⟩ := DataW.trod_int hi g0
 obtain ⟨z1, e1, _, w1⟩ := DataW.trod_int hi g1
 obtain ⟨z2, e2, _, w2⟩ := DataW.trod_int hi g2
 obtain ⟨z3, e3, _, w3⟩ := DataW.trod_int hu g3
 obtain ⟨z4, e4, _, w4⟩ := DataW.trod_int hu g4
 simp at e0 e1 e2 e3 e4
 exact ⟨z0, z1, z2, z3, z4, e0, e1, e2, e3, e4, w0, w1, w2, w3, w4⟩
set_option maxRecDepth 100000 in
theorem open_instr {H : Type} {enc : TypeId × Value → H} {w : World} {spare : Nat → Bool} {held : Bool} {base b0 : Nat} {r : Reach} {v : Value} {d : DataW H} {p : List MemPlace}
 (hv : Value.okWide Try.prog w r b0 25 v) (h : DataW.Trod enc Try.prog w base spare held 25 v d p) :
 ∃ op a b lo hi L, v = .agg #[.int .i64 op, .int .i64 a, .int .i64 b, .int .u64 lo, .int .u64 hi, L] ∧ (Lit.int .i64 op).wf = true ∧ (Lit.int .i64 a).wf = true ∧ (Lit.int .i64 b).wf = true ∧ (Lit.int .u64 lo).wf = true ∧ (Lit.int .u64 hi).wf = true := by
 have hc : Try.prog.cellsOf 25 = 6 := by kernel_rfl
 obtain ⟨fs, hS⟩ := iunder2
 unfold Value.okWide at hv
 rw [hS] at hv
 obtain ⟨cs, rfl, hsz, _⟩ := hv
 rw [hc] at hsz
 obtain ⟨fuel, hf⟩ := h
 obtain ⟨l⟩ := cs
 match l, hsz, hf with
 | [c0, c1, c2, c3, c4, c5], _, hf =>
   obtain ⟨op, a, b, lo, hi, rfl, rfl, rfl, rfl, rfl, w0, w1, w2, w3, w4⟩ := trod_instr (x := (d, p)) (by simpa [Value.cells] using hf)
   exact ⟨op, a, b, lo, hi, c5, rfl, w0, w1, w2, w3, w4⟩
theorem under_u64s : Try.prog.underlying 26 = some (.slice 22) := by kernel_rfl
set_option maxRecDepth 100000 in
theorem open_u64s {H : Type} {enc : TypeId × Value → H} {W : World} {base b0 : Nat} {r : Reach} {sp : Nat → Bool} {held : Bool} {v : Value} {d : DataW H} {p : List MemPlace}
 (hval : Value.okWide Try.prog W r b0 26 v) (h : DataW.Trod enc Try.prog W base sp held 26 v d p) : ∃ hs : List Nat, LView .u64 W v (hs.map Nat.cast) ∧ (∀ x ∈ hs, x < 18446744073709551616) ∧ hs.length ≤ 9223372036854775807 := by
 have hc : Try.prog.cellsOf 22 = 1 := by kernel_rfl
 have hu : Try.prog.underlying 22 = some (.int .u64) := by kernel_rfl
 have hmx : maxLen ≤ 9223372036854775807 := by decide
 obtain ⟨a1, len, cap, rfl⟩ := okWide_slice under_u64s hval
 obtain ⟨fuel, hf⟩ := h
 rcases open_ints under_u64s hu hc hf with ⟨hcs, hx⟩ | ⟨a, len', cap', zs, hcs, _, hl, hm, hz, hx, hcell, hwz⟩
 ·simp [Value.cells] at hcs
  obtain ⟨rfl, rfl, rfl⟩ := hcs
  exact ⟨[], ⟨none, 0, rfl, Nat.le_refl _, .inl rfl⟩, fun x hx => (by cases hx), by decide⟩
 ·simp [Value.cells] at hcs
  obtain ⟨rfl, rfl, rfl⟩ := hcs
  have hlz : len ≤ zs.length := by rw [hz]; split <;> omega
  have hb : ∀ z ∈ zs, 0 ≤ z ∧ z < 18446744073709551616 := fun z hz' => by have := bounds_u64 (hwz z hz'); omega
  have hlen : ((zs.take len).map Int.toNat).length = len := by simp; omega
  refine ⟨(zs.take len).map Int.toNat, ⟨some a, cap, by rw [List.length_map, hlen], by rw [List.length_map, hlen]; exact hl, ?_⟩, fun x hx' => ?_, by rw [hlen]; omega⟩
  ·by_cases h0 : len = 0
   ·exact .inl (by rw [List.length_map, hlen]; exact h0)
   ·obtain ⟨b, off, e, hc2⟩ := ints_at hcell (by omega)
    have h00 := hc2 0 (by omega)
    refine .inr ⟨b, off, by rw [e], World.block_lt_of_cell? W _ h00, fun i z hi => ?_⟩
    have hil : i < len := by
     have := (List.getElem?_eq_some_iff.1 hi).1
     rw [List.length_map, hlen] at this
     exact this
    rw [hc2 i (by omega)]
    have hzi : zs.getD i 0 = zs[i]'(by omega) := by simp [List.getD, show i < zs.length by omega]
    have hz0 := hb _ (List.getElem_mem (show i < zs.length by omega))
    rw [hzi]
    rw [List.map_map, List.getElem?_map, List.getElem?_take, if_pos hil, List.getElem?_eq_getElem (by omega)] at hi
    simp only [Option.map_some, Function.comp, Option.some.injEq] at hi
    rw [← hi, Int.toNat_of_nonneg hz0.1]
  ·obtain ⟨z, hz', rfl⟩ := List.mem_map.1 hx'
   have := hb z (List.mem_of_mem_take hz')
   omega
set_option maxRecDepth 100000 in
theorem vectorAll_lifted (os : Os) (started : os.Started) (H : Type) (enc : TypeId × Value → H) :
 ReturnsInHanded {} Try.checked os 3 .any (Rows.vectorAllSpec.pre6 enc Try.prog Try.f3 Rows.vectorAllRow.domain false) (Rows.vectorAllSpec.post enc Try.prog Try.f3 false true false false) := by
 refine returnsInHanded_of_change (C := Try.checked) Try.own started (by kernel_rfl) Try.func3
  (ChangeSpec.witness6 (enc := enc) (C := Try.checked) false ⟨#[], #[.agg #[.int .i64 0, .int .i64 0, .int .i64 0, .int .u64 0, .int .u64 0, .slice none 0 0], .slice none 0 0], []⟩ 8 (by kernel_rfl) (by kernel_rfl) (by kernel_rfl) (by kernel_rfl)) ?_
 intro W base args ds gs before hval0 hW hcnd _
 have hval : ∀ (j : Nat) t v, Try.f3.params[j]? = some t → args[j]? = some v → Value.okWide Try.prog W .any base t v := hval0
 have hW' := hW
 obtain ⟨p, q, hA0, hV, rfl, hfz, hnd⟩ := hW
 have hA : DataW.TrodAll enc Try.prog W 0 (fun _ => true) true Try.f3.params.toList args.toList ds p := hA0
 rw [Try.params3] at hA hval
 obtain ⟨v0, v1, d0, d1, p0, p1, rfl, rfl, rfl, h0, h1⟩ := trodAll_two hA
 obtain ⟨rfl, rfl⟩ := trodVars_none hV
 clear hA0 hval0
 obtain ⟨op, a, b, lo, hi, L, rfl, w0, w1, w2, w3, w4⟩ := open_instr (hval 0 25 v0 rfl rfl) h0
 obtain ⟨hs, hlv, hlt, hlen⟩ := open_u64s (hval 1 26 v1 rfl rfl) h1
 have b3 := bounds_u64 w3
 have b4 := bounds_u64 w4
 obtain ⟨lo, rfl⟩ := Int.eq_ofNat_of_zero_le b3.1
 obtain ⟨hi, rfl⟩ := Int.eq_ofNat_of_zero_le b4.1
 simp only [List.append_nil] at hW'
 have laid : laidOutB Try.prog = true := by kernel_rfl
 refine (all_walk op a b lo hi L v1 hs W (bounds_i64 w0) (by omega) (by omega) hlv hlt hlen).mono fun e W' ⟨he, hb⟩ => ?_
 subst he
 exact ⟨_, rfl, _, _, _, [], _, [], hW', trodAll_mk1 (shut_bool Try.underlying4 _), trodAll_mk2 (Below.trod laid (by kernel_rfl) (of_decide_eq_true (by kernel_rfl)) h0 hb (fun x hx => hW'.lt x (by simp [hx]))) (Below.trod laid (by kernel_rfl) (of_decide_eq_true (by kernel_rfl)) h1 hb (fun x hx => hW'.lt x (by simp [hx]))), rfl, hb.frame _, fun h => by cases h⟩
theorem vectorAll_holds : Rows.VectorAllSaid :=
 OpenClaim.holds_of_wide 3 Try.f3 rfl rfl rfl rfl rfl rfl rfl ⟨rfl, rfl, rfl, rfl, rfl⟩ rfl rfl rfl rfl rfl (by kernel_rfl) Try.func3 (by kernel_rfl)
  (of_decide_eq_true (by kernel_rfl)) (by unfold Func.isWrapper; rw [if_neg (of_decide_eq_false (by kernel_rfl))]; exact ⟨rfl, rfl⟩)
  (fun os started H enc _ => vectorAll_lifted os started H enc)
end Go.Proofs.Ytcpfabkokgiepaa
