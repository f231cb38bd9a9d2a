/-
  Texts Tl.
-/
import Derived.Test.YtmfmokblmipagaaGreatR40
import Derived.Test.YtmfmokblmipagaaGreatR52
set_option linter.unusedSimpArgs false
set_option linter.unusedVariables false
set_option maxHeartbeats 8000000
open Pl
namespace Go.Proofs.YtmfmokblmipagaaGreat
open Go.RowKit Go.ChangeShapes Go.WideShapes Go.ChangeAt Pl
theorem core_row (op a off lo hi x : Int) (L : Value) (v : Vec) (w : World) (hr : -9223372036854775808 ≤ op ∧ op ≤ 9223372036854775807) (hl : 0 ≤ lo) (hx : 0 ≤ x ∧ x < 4294967296) :
 Calls Tryz.prog 3 #[inV op a off lo hi L, .int .u32 x, .agg (cells v)] w fun e w' => e = .returned (.bool true) ∧ Below w.heap.size w w' := by
 obtain ⟨lo, rfl⟩ := Int.eq_ofNat_of_zero_le hl
 obtain ⟨x, rfl⟩ := Int.eq_ofNat_of_zero_le hx.1
 exact core_k op a off lo hi L x v w hr (by omega)
set_option maxRecDepth 100000 in
theorem coreAccesses_lifted (os : Os) (started : os.Started) (H : Type) (enc : TypeId × Value → H) :
 ReturnsInHanded {} Tryz.checked os 3 .any (Rows.coreAccessesSpec.pre6 enc Tryz.prog Tryz.f3 Rows.coreAccessesRow.domain false) (Rows.coreAccessesSpec.post enc Tryz.prog Tryz.f3 false true false false) := by
 refine returnsInHanded_of_change (C := Tryz.checked) Tryz.own started (by kernel_rfl) Tryz.func3
  (ChangeSpec.witness6 (enc := enc) (C := Tryz.checked) false ⟨#[], #[.agg #[.int .i64 0, .int .i64 0, .int .i64 0, .int .u64 0, .int .u64 0, .slice none 0 0], .int .u32 0, .agg #[.int .u8 0, .int .u8 0, .int .u8 0, .int .u8 0, .int .u8 0, .int .u8 0, .int .u8 0, .int .u8 0, .int .u8 0, .int .u8 0, .int .u8 0, .int .u8 0, .int .u8 0, .int .u8 0, .int .u8 0, .int .u8 0]], []⟩ 8 (by kernel_rfl) (by kernel_rfl) (by kernel_rfl) (by kernel_rfl)) ?_
 intro W base args ds gs before hval0 hW hcnd _
 have hval : ∀ (j : Nat) t v, Tryz.f3.params[j]? = some t → args[j]? = some v → Value.okWide Tryz.prog W .any base t v := hval0
 have hW' := hW
 obtain ⟨p, q, hA0, hV, rfl, hfz, hnd⟩ := hW
 have hA : DataW.TrodAll enc Tryz.prog W 0 (fun _ => true) true Tryz.f3.params.toList args.toList ds p := hA0
 rw [Tryz.params3] at hA hval
 obtain ⟨v0, v1, v2, d0, d1, d2, p0, p1, p2, rfl, rfl, rfl, h0, h1, h2⟩ := trodAll_three hA
 obtain ⟨rfl, rfl⟩ := trodVars_none hV
 clear hA0 hval0
 obtain ⟨o0, a0, b0, l0, g0, L0, rfl, wo0, wa0, wb0, wl0, wg0⟩ := open_instr (hval 0 25 v0 rfl rfl) h0
 have k1 := h1
 obtain ⟨x1, rfl, e1, f1, w1⟩ := open_int Tryz.underlying26 (hval 1 26 v1 rfl rfl) k1
 obtain ⟨x2, rfl⟩ := open_vec (hval 2 28 v2 rfl rfl) h2
 simp only [List.append_nil] at hW'
 have laid : laidOutB Tryz.prog = true := by kernel_rfl
 refine (core_row o0 a0 b0 l0 g0 x1 L0 x2 W (bounds_i64 wo0) (bounds_u64 wl0).1 (bounds_u32 w1)).mono fun e W' ⟨he, hb⟩ => ?_
 subst he
 exact ⟨_, rfl, _, _, _, [], _, [], hW', trodAll_mk1 (shut_bool Tryz.underlying4 _), trodAll_mk3 (Below.trod laid (by kernel_rfl) (of_decide_eq_true (by kernel_rfl)) h0 hb (fun x hx => hW'.lt x (by simp [hx]))) (Below.trod laid (by kernel_rfl) (of_decide_eq_true (by kernel_rfl)) h1 hb (fun x hx => hW'.lt x (by simp [hx]))) (Below.trod laid (by kernel_rfl) (of_decide_eq_true (by kernel_rfl)) h2 hb (fun x hx => hW'.lt x (by simp [hx]))), rfl, hb.frame _, fun h => by cases h⟩
theorem coreAccesses_holds : Rows.CoreAccessesSaid :=
 OpenClaim.holds_of_wide 3 Tryz.f3 rfl rfl rfl rfl rfl rfl rfl ⟨rfl, rfl, rfl, rfl, rfl⟩ rfl rfl rfl rfl rfl (by kernel_rfl) Tryz.func3 (by kernel_rfl)
  (of_decide_eq_true (by kernel_rfl)) (by unfold Func.isWrapper; rw [if_neg (of_decide_eq_false (by kernel_rfl))]; exact ⟨rfl, rfl⟩)
  (fun os started H enc _ => coreAccesses_lifted os started H enc)
end Go.Proofs.YtmfmokblmipagaaGreat
