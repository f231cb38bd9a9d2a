/-
  For all in, addr and v plaitlaw11.VmemWhole returns true; no condition. (It is proved of the program's text over the formal model.)
-/
import Derived.Test.YtlcndenbnokcjaaVmWh0
import Derived.Test.YtlcndenbnokcjaaVmWh1
import Derived.Test.YtlcndenbnokcjaaVmWh2
import Derived.Test.YtlcndenbnokcjaaVmWh3
import Derived.Test.YtlcndenbnokcjaaOpenI
set_option linter.unusedSimpArgs false
set_option linter.unusedVariables false
namespace Go.Proofs.Ytlcndenbnokcjaa
open Go.RowKit Go.ChangeShapes Go.WideShapes Go.ChangeAt Pl

theorem whole11 (op a b lo hi at_ : Int) (L : Value) (v : Vec) (w : World) (hr : -9223372036854775808 ≤ op ∧ op ≤ 9223372036854775807) (hbr : -9223372036854775808 ≤ b ∧ b ≤ 9223372036854775807) (hl : 0 ≤ lo) (ha : 0 ≤ at_ ∧ at_ < 4294967296) :
    Calls Try.prog 9 #[inV op a b lo hi L, .int .u32 at_, .agg (cells v)] w fun e w' => e = .returned (.bool true) ∧ Below w.heap.size w w' := by
  by_cases h : LBad op b lo
  · exact whole_bad op a b lo hi at_ L v w hr hbr h
  · unfold LBad at h
    have hv : (64768 ≤ op ∧ op ≤ 64779 ∨ 64852 ≤ op ∧ op ≤ 64861) := Decidable.byContradiction fun c => h (.inl c)
    have hb : 0 ≤ b ∧ b < 4294967296 := ⟨Int.not_lt.1 fun c => h (.inr (.inl c)), Int.not_le.1 fun c => h (.inr (.inr (.inl c)))⟩
    have hn : vln op → lo < 16 / vszN op := fun c => Int.not_le.1 fun d => h (.inr (.inr (.inr ⟨c, d⟩)))
    clear h
    obtain ⟨A, hA⟩ : ∃ A : Nat, (A : Int) = at_ + b := ⟨(at_ + b).toNat, by omega⟩
    obtain ⟨l, rfl⟩ := Int.eq_ofNat_of_zero_le hl
    rcases vops op hv with rfl | rfl | rfl | rfl | rfl | rfl | rfl | rfl | rfl | rfl | rfl | rfl | rfl | rfl | rfl | rfl | rfl | rfl | rfl | rfl | rfl | rfl
    · by_cases hin : A + 16 ≤ 65536
      · exact whole_00_in a b _ hi at_ L v A w ha hb hA  hin
      · exact whole_00_far a b _ hi at_ L v A w ha hb hA  hin
    · by_cases hin : A + 8 ≤ 65536
      · exact whole_01_in a b _ hi at_ L v A w ha hb hA  hin
      · exact whole_01_far a b _ hi at_ L v A w ha hb hA  hin
    · by_cases hin : A + 8 ≤ 65536
      · exact whole_02_in a b _ hi at_ L v A w ha hb hA  hin
      · exact whole_02_far a b _ hi at_ L v A w ha hb hA  hin
    · by_cases hin : A + 8 ≤ 65536
      · exact whole_03_in a b _ hi at_ L v A w ha hb hA  hin
      · exact whole_03_far a b _ hi at_ L v A w ha hb hA  hin
    · by_cases hin : A + 8 ≤ 65536
      · exact whole_04_in a b _ hi at_ L v A w ha hb hA  hin
      · exact whole_04_far a b _ hi at_ L v A w ha hb hA  hin
    · by_cases hin : A + 8 ≤ 65536
      · exact whole_05_in a b _ hi at_ L v A w ha hb hA  hin
      · exact whole_05_far a b _ hi at_ L v A w ha hb hA  hin
    · by_cases hin : A + 8 ≤ 65536
      · exact whole_06_in a b _ hi at_ L v A w ha hb hA  hin
      · exact whole_06_far a b _ hi at_ L v A w ha hb hA  hin
    · by_cases hin : A + 1 ≤ 65536
      · exact whole_07_in a b _ hi at_ L v A w ha hb hA  hin
      · exact whole_07_far a b _ hi at_ L v A w ha hb hA  hin
    · by_cases hin : A + 2 ≤ 65536
      · exact whole_08_in a b _ hi at_ L v A w ha hb hA  hin
      · exact whole_08_far a b _ hi at_ L v A w ha hb hA  hin
    · by_cases hin : A + 4 ≤ 65536
      · exact whole_09_in a b _ hi at_ L v A w ha hb hA  hin
      · exact whole_09_far a b _ hi at_ L v A w ha hb hA  hin
    · by_cases hin : A + 8 ≤ 65536
      · exact whole_0a_in a b _ hi at_ L v A w ha hb hA  hin
      · exact whole_0a_far a b _ hi at_ L v A w ha hb hA  hin
    · by_cases hin : A + 16 ≤ 65536
      · exact whole_0b_in a b _ hi at_ L v A w ha hb hA  hin
      · exact whole_0b_far a b _ hi at_ L v A w ha hb hA  hin
    · by_cases hin : A + 1 ≤ 65536
      · exact whole_54_in a b l hi at_ L v A w ha hb hA (by have := hn (by unfold vln; decide); have e : (16 : Int) / vszN 64852 = 16 := rfl; omega) hin
      · exact whole_54_far a b l hi at_ L v A w ha hb hA (by have := hn (by unfold vln; decide); have e : (16 : Int) / vszN 64852 = 16 := rfl; omega) hin
    · by_cases hin : A + 2 ≤ 65536
      · exact whole_55_in a b l hi at_ L v A w ha hb hA (by have := hn (by unfold vln; decide); have e : (16 : Int) / vszN 64853 = 8 := rfl; omega) hin
      · exact whole_55_far a b l hi at_ L v A w ha hb hA (by have := hn (by unfold vln; decide); have e : (16 : Int) / vszN 64853 = 8 := rfl; omega) hin
    · by_cases hin : A + 4 ≤ 65536
      · exact whole_56_in a b l hi at_ L v A w ha hb hA (by have := hn (by unfold vln; decide); have e : (16 : Int) / vszN 64854 = 4 := rfl; omega) hin
      · exact whole_56_far a b l hi at_ L v A w ha hb hA (by have := hn (by unfold vln; decide); have e : (16 : Int) / vszN 64854 = 4 := rfl; omega) hin
    · by_cases hin : A + 8 ≤ 65536
      · exact whole_57_in a b l hi at_ L v A w ha hb hA (by have := hn (by unfold vln; decide); have e : (16 : Int) / vszN 64855 = 2 := rfl; omega) hin
      · exact whole_57_far a b l hi at_ L v A w ha hb hA (by have := hn (by unfold vln; decide); have e : (16 : Int) / vszN 64855 = 2 := rfl; omega) hin
    · by_cases hin : A + 1 ≤ 65536
      · exact whole_58_in a b l hi at_ L v A w ha hb hA (by have := hn (by unfold vln; decide); have e : (16 : Int) / vszN 64856 = 16 := rfl; omega) hin
      · exact whole_58_far a b l hi at_ L v A w ha hb hA (by have := hn (by unfold vln; decide); have e : (16 : Int) / vszN 64856 = 16 := rfl; omega) hin
    · by_cases hin : A + 2 ≤ 65536
      · exact whole_59_in a b l hi at_ L v A w ha hb hA (by have := hn (by unfold vln; decide); have e : (16 : Int) / vszN 64857 = 8 := rfl; omega) hin
      · exact whole_59_far a b l hi at_ L v A w ha hb hA (by have := hn (by unfold vln; decide); have e : (16 : Int) / vszN 64857 = 8 := rfl; omega) hin
    · by_cases hin : A + 4 ≤ 65536
      · exact whole_5a_in a b l hi at_ L v A w ha hb hA (by have := hn (by unfold vln; decide); have e : (16 : Int) / vszN 64858 = 4 := rfl; omega) hin
      · exact whole_5a_far a b l hi at_ L v A w ha hb hA (by have := hn (by unfold vln; decide); have e : (16 : Int) / vszN 64858 = 4 := rfl; omega) hin
    · by_cases hin : A + 8 ≤ 65536
      · exact whole_5b_in a b l hi at_ L v A w ha hb hA (by have := hn (by unfold vln; decide); have e : (16 : Int) / vszN 64859 = 2 := rfl; omega) hin
      · exact whole_5b_far a b l hi at_ L v A w ha hb hA (by have := hn (by unfold vln; decide); have e : (16 : Int) / vszN 64859 = 2 := rfl; omega) hin
    · by_cases hin : A + 4 ≤ 65536
      · exact whole_5c_in a b _ hi at_ L v A w ha hb hA  hin
      · exact whole_5c_far a b _ hi at_ L v A w ha hb hA  hin
    · by_cases hin : A + 8 ≤ 65536
      · exact whole_5d_in a b _ hi at_ L v A w ha hb hA  hin
      · exact whole_5d_far a b _ hi at_ L v A w ha hb hA  hin

set_option maxRecDepth 100000 in
theorem vmemWhole_lifted (os : Os) (started : os.Started) (H : Type) (enc : TypeId × Value → H) :
    ReturnsInHanded {} Try.checked os 9 .any (Rows.vmemWholeSpec.pre6 enc Try.prog Try.f9 Rows.vmemWholeRow.domain false) (Rows.vmemWholeSpec.post enc Try.prog Try.f9 false true false false) := by
  refine returnsInHanded_of_change (C := Try.checked) Try.own started (by kernel_rfl) Try.func9
    (ChangeSpec.witness6 (enc := enc) (C := Try.checked) false ⟨#[], #[.agg #[.int .i64 0, .int .i64 0, .int .i64 0, .int .u64 0, .int .u64 0, .slice none 0 0], .int .u32 0, .agg #[.int .u8 0, .int .u8 0, .int .u8 0, .int .u8 0, .int .u8 0, .int .u8 0, .int .u8 0, .int .u8 0, .int .u8 0, .int .u8 0, .int .u8 0, .int .u8 0, .int .u8 0, .int .u8 0, .int .u8 0, .int .u8 0]], []⟩ 8 (by kernel_rfl) (by kernel_rfl) (by kernel_rfl) (by kernel_rfl)) ?_
  intro W base args ds gs before hval0 hW hcnd _
  have hval : ∀ (j : Nat) t v, Try.f9.params[j]? = some t → args[j]? = some v → Value.okWide Try.prog W .any base t v := hval0
  have hW' := hW
  obtain ⟨p, q, hA0, hV, rfl, hfz, hnd⟩ := hW
  have hA : DataW.TrodAll enc Try.prog W 0 (fun _ => true) true Try.f9.params.toList args.toList ds p := hA0
  rw [Try.params9] at hA hval
  obtain ⟨v0, v1, v2, d0, d1, d2, p0, p1, p2, rfl, rfl, rfl, h0, h1, h2⟩ := trodAll_three hA
  obtain ⟨rfl, rfl⟩ := trodVars_none hV
  clear hA0 hval0
  obtain ⟨o0, a0, b0, l0, g0, L0, rfl, wo0, wa0, wb0, wl0, wg0⟩ := open_instr (hval 0 65 v0 rfl rfl) h0
  have k1 := h1
  obtain ⟨x1, rfl, e1, f1, w1⟩ := open_int Try.underlying32 (hval 1 32 v1 rfl rfl) k1
  obtain ⟨x2, rfl⟩ := open_vec (hval 2 61 v2 rfl rfl) h2
  simp only [List.append_nil] at hW'
  have laid : laidOutB Try.prog = true := by kernel_rfl
  refine (whole11 o0 a0 b0 l0 g0 x1 L0 x2 W (bounds_i64 wo0) (bounds_i64 wb0) (bounds_u64 wl0).1 (bounds_u32 w1)).mono fun e W' ⟨he, hb⟩ => ?_
  subst he
  exact ⟨_, rfl, _, _, _, [], _, [], hW', trodAll_mk1 (shut_bool Try.underlying4 _), trodAll_mk3 (Below.trod laid (by kernel_rfl) (of_decide_eq_true (by kernel_rfl)) h0 hb (fun x hx => hW'.lt x (by simp [hx]))) (Below.trod laid (by kernel_rfl) (of_decide_eq_true (by kernel_rfl)) h1 hb (fun x hx => hW'.lt x (by simp [hx]))) (Below.trod laid (by kernel_rfl) (of_decide_eq_true (by kernel_rfl)) h2 hb (fun x hx => hW'.lt x (by simp [hx]))), rfl, hb.frame _, fun h => by cases h⟩

theorem vmemWhole_holds : Rows.VmemWholeSaid :=
  OpenClaim.holds_of_wide 9 Try.f9 rfl rfl rfl rfl rfl rfl rfl ⟨rfl, rfl, rfl, rfl, rfl⟩ rfl rfl rfl rfl rfl (by kernel_rfl) Try.func9 (by kernel_rfl)
    (of_decide_eq_true (by kernel_rfl)) (by unfold Func.isWrapper; rw [if_neg (of_decide_eq_false (by kernel_rfl))]; exact ⟨rfl, rfl⟩)
    (fun os started H enc _ => vmemWhole_lifted os started H enc)
#print axioms vmemWhole_holds

end Go.Proofs.Ytlcndenbnokcjaa
