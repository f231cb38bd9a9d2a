/-
  For every place, bytes and accesses plaitlaw11.VmemAll returns true; no condition. (It is proved of the program's text over the formal model.)
-/
import Derived.Test.YtlcndenbnokcjaaVmAll
import Derived.Test.YtlcndenbnokcjaaOpenI
import Derived.Test.YtlcndenbnokcjaaOpenB
import Derived.Test.YtlcndenbnokcjaaOpen
import Derived.Deep.Slices
import Derived.Deep.MidRow
set_option linter.unusedSimpArgs false
set_option linter.unusedVariables false
namespace Go.Proofs.Ytlcndenbnokcjaa
open Go.RowKit Go.ChangeShapes Go.WideShapes Go.ChangeAt Pl

theorem vec_of_cells {H : Type} {enc : TypeId × Value → H} {w : World} {spare : Nat → Bool} {held : Bool} {base fuel : Nat} {cs : List Value} {x : DataW H × List MemPlace}
    (hsz : cs.length = 16) (hf : DataW.trod enc Try.prog w base spare held fuel 61 cs = some x) : ∃ u : Vec, cs = (cells u).toList := by
  have hu : Try.prog.underlying 5 = some (.int .u8) := by kernel_rfl
  have hc1 : Try.prog.cellsOf 5 = 1 := by kernel_rfl
  obtain ⟨xs, m, _, _, _, hl, hx⟩ := DataW.trod_array vunder hf
  simp only [hc1, Nat.mul_one] at hx
  have hcell : ∀ i, i < 16 → ∃ a : Nat, a < 256 ∧ cs[i]? = some (.int .u8 (a : Int)) := fun i hi => by
    have h1 := hx i hi
    have hci : (cs.drop i).take 1 = [cs[i]'(by omega)] := by
      rw [List.drop_eq_getElem_cons (by omega : i < cs.length)]; rfl
    rw [hci, List.getElem?_eq_getElem (by omega)] at h1
    obtain ⟨a, e, _, wf⟩ := DataW.trod_int hu h1
    simp at e
    have hb := bounds_u8 wf
    refine ⟨a.toNat, by omega, ?_⟩
    rw [List.getElem?_eq_getElem (by omega), e, Int.toNat_of_nonneg hb.1]
  obtain ⟨u, hu2⟩ := vec_of_ints (fun i => match cs[i]? with | some (.int _ a) => a.toNat | _ => 0)
  refine ⟨u, ?_⟩
  apply List.ext_getElem?
  intro i
  rw [show (cells u).toList[i]? = (cells u)[i]? from Array.getElem?_toList]
  by_cases hi : i < 16
  · obtain ⟨a, ha, hca⟩ := hcell i hi
    have h2 := hu2 i hi
    rw [hca] at h2
    rw [getElem?_cells u i hi, hca]
    unfold byteV
    have h3 : bitsAt u (8 * i) 8 = a := by
      have : getN u 8 i = a := by rw [h2]; simp; omega
      exact this
    rw [h3]
  · rw [List.getElem?_eq_none (by omega), Array.getElem?_eq_none (by simp; omega)]
set_option maxRecDepth 100000 in
theorem accfields : ∃ f0 f1 f2 : Field, Try.prog.underlying 77 = some (.struct #[f0, f1, f2]) ∧ (f0.type = 65 ∧ f0.offset = 0) ∧ (f1.type = 32 ∧ f1.offset = 6) ∧ (f2.type = 61 ∧ f2.offset = 7) :=
  ⟨_, _, _, rfl, ⟨rfl, rfl⟩, ⟨rfl, rfl⟩, ⟨rfl, rfl⟩⟩
theorem seven (l : List Value) (h : l.length = 23) : ∃ c0 c1 c2 c3 c4 c5 c6 r, l = c0 :: c1 :: c2 :: c3 :: c4 :: c5 :: c6 :: r ∧ r.length = 16 := by
  match l, h with
  | c0 :: c1 :: c2 :: c3 :: c4 :: c5 :: c6 :: r, h => exact ⟨c0, c1, c2, c3, c4, c5, c6, r, rfl, by simpa using h⟩
set_option maxRecDepth 100000 in
theorem trod_acc {H : Type} {enc : TypeId × Value → H} {w : World} {spare : Nat → Bool} {held : Bool} {base fuel : Nat} {cs : List Value} {x : DataW H × List MemPlace}
    (hsz : cs.length = 23) (h : DataW.trod enc Try.prog w base spare held fuel 77 cs = some x) : ∃ y : Acc, cs = y.row ∧ y.Ok := by
  have hc0 : Try.prog.cellsOf 65 = 6 := by kernel_rfl
  have hc1 : Try.prog.cellsOf 32 = 1 := by kernel_rfl
  have hc2 : Try.prog.cellsOf 61 = 16 := by kernel_rfl
  have hu : Try.prog.underlying 32 = some (.int .u32) := by kernel_rfl
  obtain ⟨f0, f1, f2, hS, ⟨t0, o0⟩, ⟨t1, o1⟩, ⟨t2, o2⟩⟩ := accfields
  obtain ⟨xs, n, _, _, _, hl, hx⟩ := DataW.trod_struct hS h
  have hl3 : xs.length = 3 := hl
  have g0 := hx 0 f0 rfl
  have g1 := hx 1 f1 rfl
  have g2 := hx 2 f2 rfl
  rw [List.getElem?_eq_getElem (by omega), t0, o0, hc0] at g0
  rw [List.getElem?_eq_getElem (by omega), t1, o1, hc1] at g1
  rw [List.getElem?_eq_getElem (by omega), t2, o2, hc2] at g2
  obtain ⟨c0, c1, c2, c3, c4, c5, c6, rr, rfl, hr⟩ := seven cs hsz
  obtain ⟨z1, e1, _, w1⟩ := DataW.trod_int hu g1
  simp at e1
  have hd : ((c0 :: c1 :: c2 :: c3 :: c4 :: c5 :: c6 :: rr).drop 7).take 16 = rr := by
    simp [List.take_of_length_le (Nat.le_of_eq hr)]
  rw [hd] at g2
  obtain ⟨u, hu2⟩ := vec_of_cells hr g2
  obtain ⟨op, a, b, lo, hi, rfl, rfl, rfl, rfl, rfl, v0, v1, v2, v3, v4⟩ := trod_instr g0
  refine ⟨⟨op, a, b, lo, hi, c5, z1, u⟩, ?_, ?_⟩
  · simp [Acc.row, Acc.ins, e1, hu2]
  · have b0 := bounds_i64 v0
    have b2 := bounds_i64 v2
    have b3 := bounds_u64 v3
    have b1 := bounds_u32 w1
    exact ⟨b0, b2, b3.1, b1⟩
theorem under_accs : Try.prog.underlying 75 = some (.slice 77) := by kernel_rfl
set_option maxRecDepth 100000 in
theorem open_accs {H : Type} {enc : TypeId × Value → H} {W : World} {base b0 : Nat} {r : Reach} {sp : Nat → Bool} {held : Bool} {v : Value} {d : DataW H} {p : List MemPlace}
    (hval : Value.okWide Try.prog W r b0 75 v) (h : DataW.Trod enc Try.prog W base sp held 75 v d p) :
    ∃ ad m c f, v = .slice ad m c ∧ m ≤ 9223372036854775807 ∧ (m = 0 ∨ ∃ b off, ad = some ⟨b, off, none⟩ ∧ AView W b off m f) := by
  have hc : Try.prog.cellsOf 77 = 23 := by kernel_rfl
  obtain ⟨a1, len, cap, rfl⟩ := okWide_slice under_accs hval
  obtain ⟨fuel, hf⟩ := h
  rcases Go.Deep.open_slice under_accs hf with ⟨hcs, hx⟩ | ⟨a, len', cap', m, n, D, Pl, hcs, hb, hl, hm, hmm, hx, hel⟩
  · simp [Value.cells] at hcs
    obtain ⟨rfl, rfl, rfl⟩ := hcs
    exact ⟨none, 0, 0, fun _ => ⟨0, 0, 0, 0, 0, .bool true, 0, 0⟩, rfl, by decide, .inl rfl⟩
  · simp [Value.cells] at hcs
    obtain ⟨rfl, rfl, rfl⟩ := hcs
    have hlm : len ≤ m := by rw [hmm]; split <;> omega
    have hv : ∀ i, i < len → ∃ y : Acc, y.Ok ∧ ∀ j v, y.row[j]? = some v → W.cell? ((a.add (i * 23)).add j) = some v := fun i hi => by
      obtain ⟨cs', h1, h2⟩ := hel i (by omega)
      rw [hc] at h1
      obtain ⟨_, hlen, hg⟩ := World.cells?_some h1
      obtain ⟨y, rfl, ok⟩ := trod_acc hlen h2
      exact ⟨y, ok, fun j v hj => by
        by_cases h16 : j < 23
        · rw [hg j h16]; exact hj
        · rw [List.getElem?_eq_none (by omega)] at hj; cases hj⟩
    have : Inhabited Acc := ⟨⟨0, 0, 0, 0, 0, .bool true, 0, 0⟩⟩
    obtain ⟨f, hf2⟩ := Go.Deep.choose_lt hv
    have hmx : len ≤ 9223372036854775807 := by
      have : maxLen ≤ 9223372036854775807 := by decide
      omega
    refine ⟨some a, len, cap, f, rfl, hmx, ?_⟩
    by_cases h0 : len = 0
    · exact .inl h0
    · right
      obtain ⟨b, off, spot⟩ := a
      have e0 : (f 0).row[0]? = some (.int .i64 (f 0).op) := by simp [Acc.row, Acc.ins]
      have h0c := (hf2 0 (by omega)).2 0 _ e0
      have hspot : spot = none := by simpa [Addr.add] using World.cell?_spot h0c
      subst hspot
      refine ⟨b, off, rfl, fun i hi j v hj => ?_, fun i hi => (hf2 i hi).1, ?_⟩
      · have := (hf2 i hi).2 j v hj
        simp only [Go.Addr.add_mid] at this
        rw [show off + 23 * i + j = off + i * 23 + j by omega]
        exact this
      · simp only [Go.Addr.add_mid] at h0c
        exact World.block_lt_of_cell? W _ h0c

theorem vall_any (x : Int) (ad2 : Option Addr) (m c2 : Nat) (f : Nat → Acc) (ad : Option Addr) (dm dc : Nat) (ν : Nat → Nat) (w : World) (hx : 0 ≤ x ∧ x < 18446744073709551616) (hv : BView w (.slice ad dm dc) dm ν) (hdm : dm ≤ dc) (hdc : dc ≤ 9223372036854775807) (hm : m ≤ 9223372036854775807)
    (hl : m = 0 ∨ ∃ b off, ad2 = some ⟨b, off, none⟩ ∧ AView w b off m f) :
    Calls Try.prog 10 #[.int .u64 x, .slice ad dm dc, .slice ad2 m c2] w fun e w' => e = .returned (.bool true) ∧ Below w.heap.size w w' := by
  obtain ⟨k, rfl⟩ := Int.eq_ofNat_of_zero_le hx.1
  exact vall_walk k dm dc m c2 ad ad2 ν f w hv hdm hdc (by omega) hm hl

set_option maxRecDepth 100000 in
theorem vmemAll_lifted (os : Os) (started : os.Started) (H : Type) (enc : TypeId × Value → H) :
    ReturnsInHanded {} Try.checked os 10 .any (Rows.vmemAllSpec.pre6 enc Try.prog Try.f10 Rows.vmemAllRow.domain false) (Rows.vmemAllSpec.post enc Try.prog Try.f10 false true false false) := by
  refine returnsInHanded_of_change (C := Try.checked) Try.own started (by kernel_rfl) Try.func10
    (ChangeSpec.witness6 (enc := enc) (C := Try.checked) false ⟨#[], #[.int .u64 0, .slice none 0 0, .slice none 0 0], []⟩ 8 (by kernel_rfl) (by kernel_rfl) (by kernel_rfl) (by kernel_rfl)) ?_
  intro W base args ds gs before hval0 hW hcnd _
  have hval : ∀ (j : Nat) t v, Try.f10.params[j]? = some t → args[j]? = some v → Value.okWide Try.prog W .any base t v := hval0
  have hW' := hW
  obtain ⟨p, q, hA0, hV, rfl, hfz, hnd⟩ := hW
  have hA : DataW.TrodAll enc Try.prog W 0 (fun _ => true) true Try.f10.params.toList args.toList ds p := hA0
  rw [Try.params10] at hA hval
  obtain ⟨v0, v1, v2, d0, d1, d2, p0, p1, p2, rfl, rfl, rfl, h0, h1, h2⟩ := trodAll_three hA
  obtain ⟨rfl, rfl⟩ := trodVars_none hV
  clear hA0 hval0
  have k0 := h0
  obtain ⟨x0, rfl, e0, f0, w0⟩ := open_int Try.underlying34 (hval 0 34 v0 rfl rfl) k0
  obtain ⟨ad1, m1, c1, ν1, rfl, hv1, hmc1, hm1⟩ := open_bytes (hval 1 48 v1 rfl rfl) h1
  obtain ⟨ad2, m2, c2, f2, rfl, hm2, hl2⟩ := open_accs (hval 2 75 v2 rfl rfl) h2
  simp only [List.append_nil] at hW'
  have laid : laidOutB Try.prog = true := by kernel_rfl
  refine (vall_any x0 ad2 m2 c2 f2 ad1 m1 c1 ν1 W (bounds_u64 w0) hv1 hmc1 hm1 hm2 hl2).mono fun e W' ⟨he, hb⟩ => ?_
  subst he
  exact ⟨_, rfl, _, _, _, [], _, [], hW', trodAll_mk1 (shut_bool Try.underlying4 _), trodAll_mk3 (Below.trod laid (by kernel_rfl) (of_decide_eq_true (by kernel_rfl)) h0 hb (fun x hx => hW'.lt x (by simp [hx]))) (Below.trod laid (by kernel_rfl) (of_decide_eq_true (by kernel_rfl)) h1 hb (fun x hx => hW'.lt x (by simp [hx]))) (Below.trod laid (by kernel_rfl) (of_decide_eq_true (by kernel_rfl)) h2 hb (fun x hx => hW'.lt x (by simp [hx]))), rfl, hb.frame _, fun h => by cases h⟩

theorem vmemAll_holds : Rows.VmemAllSaid :=
  OpenClaim.holds_of_wide 10 Try.f10 rfl rfl rfl rfl rfl rfl rfl ⟨rfl, rfl, rfl, rfl, rfl⟩ rfl rfl rfl rfl rfl (by kernel_rfl) Try.func10 (by kernel_rfl)
    (of_decide_eq_true (by kernel_rfl)) (by unfold Func.isWrapper; rw [if_neg (of_decide_eq_false (by kernel_rfl))]; exact ⟨rfl, rfl⟩)
    (fun os started H enc _ => vmemAll_lifted os started H enc)
#print axioms vmemAll_holds

end Go.Proofs.Ytlcndenbnokcjaa
