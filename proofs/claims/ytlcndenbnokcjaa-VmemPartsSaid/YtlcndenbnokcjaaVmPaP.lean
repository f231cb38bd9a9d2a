/-
  For every place, sixteen bytes and access plaitlaw11.VmemParts returns true; no condition. (It is proved of the program's text over the formal model.)
-/
import Derived.Test.YtlcndenbnokcjaaVmPa
import Derived.Test.YtlcndenbnokcjaaOpen
set_option linter.unusedSimpArgs false
set_option linter.unusedVariables false
namespace Go.Proofs.Ytlcndenbnokcjaa
open Go.RowKit Go.ChangeShapes Go.WideShapes Go.ChangeAt Pl

theorem open_arr {H : Type} {enc : TypeId × Value → H} {w : World} {spare : Nat → Bool} {held : Bool} {base b0 : Nat} {r : Reach} {v : Value} {d : DataW H} {p : List MemPlace}
    (hv : Value.okWide Try.prog w r b0 60 v) (h : DataW.Trod enc Try.prog w base spare held 60 v d p) : ∃ u : Vec, v = .agg (cells u) := by
  have hu : Try.prog.underlying 5 = some (.int .u8) := by kernel_rfl
  have hc1 : Try.prog.cellsOf 5 = 1 := by kernel_rfl
  have hc16 : Try.prog.cellsOf 60 = 16 := by kernel_rfl
  unfold Value.okWide at hv
  rw [under60] at hv
  obtain ⟨cs, rfl, hsz, _⟩ := hv
  rw [hc16] at hsz
  obtain ⟨fuel, hf⟩ := h
  obtain ⟨xs, m, _, _, _, hl, hx⟩ := DataW.trod_array under60 hf
  simp only [Value.cells, hc1, Nat.mul_one] at hx
  have hcell : ∀ i, i < 16 → ∃ a : Nat, a < 256 ∧ cs[i]? = some (.int .u8 (a : Int)) := fun i hi => by
    have h1 := hx i hi
    have hci : (cs.toList.drop i).take 1 = [cs[i]'(by omega)] := by
      rw [List.drop_eq_getElem_cons (by simpa using (by omega : i < cs.size))]
      simp
    rw [hci, List.getElem?_eq_getElem (by omega)] at h1
    obtain ⟨a, e, _, wf⟩ := DataW.trod_int hu h1
    simp at e
    have hb := bounds_u8 wf
    refine ⟨a.toNat, by omega, ?_⟩
    rw [Array.getElem?_eq_getElem (by omega), e, Int.toNat_of_nonneg hb.1]
  obtain ⟨u, hu2⟩ := vec_of_ints (fun i => match cs[i]? with | some (.int _ a) => a.toNat | _ => 0)
  refine ⟨u, ?_⟩
  refine congrArg Value.agg ?_
  apply Array.ext_getElem?
  intro i
  by_cases hi : i < 16
  · obtain ⟨a, ha, hca⟩ := hcell i hi
    have h2 := hu2 i hi
    rw [hca] at h2
    rw [getElem?_cells u i hi, hca]
    unfold byteV
    have h3 : bitsAt u (8 * i) 8 = a := by
      have : getN u 8 i = a := by rw [h2]; simp; omega
      exact this
    rw [h3]
  · rw [Array.getElem?_eq_none (by omega), Array.getElem?_eq_none (by simp; omega)]
theorem vec_of_cells {H : Type} {enc : TypeId × Value → H} {w : World} {spare : Nat → Bool} {held : Bool} {base fuel : Nat} {cs : List Value} {x : DataW H × List MemPlace}
    (hsz : cs.length = 16) (hf : DataW.trod enc Try.prog w base spare held fuel 61 cs = some x) : ∃ u : Vec, cs = (cells u).toList := by
  have hu : Try.prog.underlying 5 = some (.int .u8) := by kernel_rfl
  have hc1 : Try.prog.cellsOf 5 = 1 := by kernel_rfl
  obtain ⟨xs, m, _, _, _, hl, hx⟩ := DataW.trod_array vunder hf
  simp only [hc1, Nat.mul_one] at hx
  have hcell : ∀ i, i < 16 → ∃ a : Nat, a < 256 ∧ cs[i]? = some (.int .u8 (a : Int)) := fun i hi => by
    have h1 := hx i hi
    have hci : (cs.drop i).take 1 = [cs[i]'(by omega)] := by
      rw [List.drop_eq_getElem_cons (by omega : i < cs.length)]; rfl
    rw [hci, List.getElem?_eq_getElem (by omega)] at h1
    obtain ⟨a, e, _, wf⟩ := DataW.trod_int hu h1
    simp at e
    have hb := bounds_u8 wf
    refine ⟨a.toNat, by omega, ?_⟩
    rw [List.getElem?_eq_getElem (by omega), e, Int.toNat_of_nonneg hb.1]
  obtain ⟨u, hu2⟩ := vec_of_ints (fun i => match cs[i]? with | some (.int _ a) => a.toNat | _ => 0)
  refine ⟨u, ?_⟩
  apply List.ext_getElem?
  intro i
  rw [show (cells u).toList[i]? = (cells u)[i]? from Array.getElem?_toList]
  by_cases hi : i < 16
  · obtain ⟨a, ha, hca⟩ := hcell i hi
    have h2 := hu2 i hi
    rw [hca] at h2
    rw [getElem?_cells u i hi, hca]
    unfold byteV
    have h3 : bitsAt u (8 * i) 8 = a := by
      have : getN u 8 i = a := by rw [h2]; simp; omega
      exact this
    rw [h3]
  · rw [List.getElem?_eq_none (by omega), Array.getElem?_eq_none (by simp; omega)]
set_option maxRecDepth 100000 in
theorem afields : ∃ f0 f1 f2 : Field, Try.prog.underlying 77 = some (.struct #[f0, f1, f2]) ∧ (f1.type = 32 ∧ f1.offset = 6) ∧ (f2.type = 61 ∧ f2.offset = 7) :=
  ⟨_, _, _, rfl, ⟨rfl, rfl⟩, ⟨rfl, rfl⟩⟩
theorem seven (l : List Value) (h : l.length = 23) : ∃ c0 c1 c2 c3 c4 c5 c6 r, l = c0 :: c1 :: c2 :: c3 :: c4 :: c5 :: c6 :: r ∧ r.length = 16 := by
  match l, h with
  | c0 :: c1 :: c2 :: c3 :: c4 :: c5 :: c6 :: r, h => exact ⟨c0, c1, c2, c3, c4, c5, c6, r, rfl, by simpa using h⟩
set_option maxRecDepth 100000 in
theorem open_acc {H : Type} {enc : TypeId × Value → H} {w : World} {spare : Nat → Bool} {held : Bool} {base b0 : Nat} {r : Reach} {v : Value} {d : DataW H} {p : List MemPlace}
    (hv : Value.okWide Try.prog w r b0 77 v) (h : DataW.Trod enc Try.prog w base spare held 77 v d p) :
    ∃ c0 c1 c2 c3 c4 c5 a u, v = .agg (#[c0, c1, c2, c3, c4, c5, .int .u32 a] ++ cells u) ∧ (Lit.int .u32 a).wf = true := by
  have hc : Try.prog.cellsOf 77 = 23 := by kernel_rfl
  have hc1 : Try.prog.cellsOf 32 = 1 := by kernel_rfl
  have hc2 : Try.prog.cellsOf 61 = 16 := by kernel_rfl
  have hu : Try.prog.underlying 32 = some (.int .u32) := by kernel_rfl
  obtain ⟨f0, f1, f2, hS, ⟨t1, o1⟩, ⟨t2, o2⟩⟩ := afields
  unfold Value.okWide at hv
  rw [hS] at hv
  obtain ⟨cs, rfl, hsz, _⟩ := hv
  rw [hc] at hsz
  obtain ⟨fuel, hf⟩ := h
  obtain ⟨xs, n, _, _, _, hl, hx⟩ := DataW.trod_struct hS hf
  have hl3 : xs.length = 3 := hl
  have g1 := hx 1 f1 rfl
  have g2 := hx 2 f2 rfl
  rw [List.getElem?_eq_getElem (by omega), t1, o1, hc1] at g1
  rw [List.getElem?_eq_getElem (by omega), t2, o2, hc2] at g2
  obtain ⟨l⟩ := cs
  obtain ⟨c0, c1, c2, c3, c4, c5, c6, rr, rfl, hr⟩ := seven l (by simpa using hsz)
  obtain ⟨z1, e1, _, w1⟩ := DataW.trod_int hu g1
  simp [Value.cells] at e1
  have hd : ((Value.agg (c0 :: c1 :: c2 :: c3 :: c4 :: c5 :: c6 :: rr).toArray).cells.toList.drop 7).take 16 = rr := by
    simp [Value.cells, List.take_of_length_le (Nat.le_of_eq hr)]
  rw [hd] at g2
  obtain ⟨u, hu2⟩ := vec_of_cells hr g2
  refine ⟨c0, c1, c2, c3, c4, c5, z1, u, ?_, w1⟩
  rw [hu2, e1]
  congr 1
theorem parts_any (a l : Int) (d old : Vec) (c0 c1 c2 c3 c4 c5 : Value) (w : World) (ha : 0 ≤ a ∧ a < 65536) (hl : 0 ≤ l ∧ l < 4294967296) :
    Calls Try.prog 11 #[.int .u16 a, .agg (cells d), .agg (#[c0, c1, c2, c3, c4, c5, .int .u32 l] ++ cells old)] w fun e w' => e = .returned (.bool true) ∧ Below w.heap.size w w' := by
  obtain ⟨k, rfl⟩ := Int.eq_ofNat_of_zero_le ha.1
  obtain ⟨j, rfl⟩ := Int.eq_ofNat_of_zero_le hl.1
  exact parts_walk k j d old c0 c1 c2 c3 c4 c5 w (by omega) (by omega)


set_option maxRecDepth 100000 in
theorem vmemParts_lifted (os : Os) (started : os.Started) (H : Type) (enc : TypeId × Value → H) :
    ReturnsInHanded {} Try.checked os 11 .any (Rows.vmemPartsSpec.pre6 enc Try.prog Try.f11 Rows.vmemPartsRow.domain false) (Rows.vmemPartsSpec.post enc Try.prog Try.f11 false true false false) := by
  refine returnsInHanded_of_change (C := Try.checked) Try.own started (by kernel_rfl) Try.func11
    (ChangeSpec.witness6 (enc := enc) (C := Try.checked) false ⟨#[], #[.int .u16 0, .agg #[.int .u8 0, .int .u8 0, .int .u8 0, .int .u8 0, .int .u8 0, .int .u8 0, .int .u8 0, .int .u8 0, .int .u8 0, .int .u8 0, .int .u8 0, .int .u8 0, .int .u8 0, .int .u8 0, .int .u8 0, .int .u8 0], .agg #[.int .i64 0, .int .i64 0, .int .i64 0, .int .u64 0, .int .u64 0, .slice none 0 0, .int .u32 0, .int .u8 0, .int .u8 0, .int .u8 0, .int .u8 0, .int .u8 0, .int .u8 0, .int .u8 0, .int .u8 0, .int .u8 0, .int .u8 0, .int .u8 0, .int .u8 0, .int .u8 0, .int .u8 0, .int .u8 0, .int .u8 0]], []⟩ 8 (by kernel_rfl) (by kernel_rfl) (by kernel_rfl) (by kernel_rfl)) ?_
  intro W base args ds gs before hval0 hW hcnd _
  have hval : ∀ (j : Nat) t v, Try.f11.params[j]? = some t → args[j]? = some v → Value.okWide Try.prog W .any base t v := hval0
  have hW' := hW
  obtain ⟨p, q, hA0, hV, rfl, hfz, hnd⟩ := hW
  have hA : DataW.TrodAll enc Try.prog W 0 (fun _ => true) true Try.f11.params.toList args.toList ds p := hA0
  rw [Try.params11] at hA hval
  obtain ⟨v0, v1, v2, d0, d1, d2, p0, p1, p2, rfl, rfl, rfl, h0, h1, h2⟩ := trodAll_three hA
  obtain ⟨rfl, rfl⟩ := trodVars_none hV
  clear hA0 hval0
  have k0 := h0
  obtain ⟨x0, rfl, e0, f0, w0⟩ := open_int Try.underlying59 (hval 0 59 v0 rfl rfl) k0
  obtain ⟨x1, rfl⟩ := open_arr (hval 1 60 v1 rfl rfl) h1
  obtain ⟨c0, c1, c2, c3, c4, c5, x2, u2, rfl, w2⟩ := open_acc (hval 2 77 v2 rfl rfl) h2
  simp only [List.append_nil] at hW'
  have laid : laidOutB Try.prog = true := by kernel_rfl
  refine (parts_any x0 x2 x1 u2 c0 c1 c2 c3 c4 c5 W (bounds_u16 w0) (bounds_u32 w2)).mono fun e W' ⟨he, hb⟩ => ?_
  subst he
  exact ⟨_, rfl, _, _, _, [], _, [], hW', trodAll_mk1 (shut_bool Try.underlying4 _), trodAll_mk3 (Below.trod laid (by kernel_rfl) (of_decide_eq_true (by kernel_rfl)) h0 hb (fun x hx => hW'.lt x (by simp [hx]))) (Below.trod laid (by kernel_rfl) (of_decide_eq_true (by kernel_rfl)) h1 hb (fun x hx => hW'.lt x (by simp [hx]))) (Below.trod laid (by kernel_rfl) (of_decide_eq_true (by kernel_rfl)) h2 hb (fun x hx => hW'.lt x (by simp [hx]))), rfl, hb.frame _, fun h => by cases h⟩

theorem vmemParts_holds : Rows.VmemPartsSaid :=
  OpenClaim.holds_of_wide 11 Try.f11 rfl rfl rfl rfl rfl rfl rfl ⟨rfl, rfl, rfl, rfl, rfl⟩ rfl rfl rfl rfl rfl (by kernel_rfl) Try.func11 (by kernel_rfl)
    (of_decide_eq_true (by kernel_rfl)) (by unfold Func.isWrapper; rw [if_neg (of_decide_eq_false (by kernel_rfl))]; exact ⟨rfl, rfl⟩)
    (fun os started H enc _ => vmemParts_lifted os started H enc)
#print axioms vmemParts_holds

end Go.Proofs.Ytlcndenbnokcjaa
