/-
  For every opcode and six numbers plaitlaw09.VectorShapes returns true; no condition. (It is proved of the program's text over the formal model.)
-/
import Derived.Test.YtcpfabkokgiepaaVcSh
import Derived.Test.YtcpfabkokgiepaaOpen
import Derived.Deep.Slices
import Derived.Deep.MidRow
set_option linter.unusedSimpArgs false
set_option linter.unusedVariables false
namespace Go.Proofs.Ytcpfabkokgiepaa
open Go.RowKit Go.ChangeShapes Go.WideShapes Go.ChangeAt Pl

set_option maxRecDepth 100000 in
theorem open_a6 {H : Type} {enc : TypeId × Value → H} {w : World} {spare : Nat → Bool} {held : Bool} {base b0 : Nat} {r : Reach} {v : Value} {d : DataW H} {p : List MemPlace}
    (hv : Value.okWide Try.prog w r b0 37 v) (h : DataW.Trod enc Try.prog w base spare held 37 v d p) : ∃ x0 x1 x2 x3 x4 x5 : Nat, v = .agg #[.int .u64 (x0 : Nat), .int .u64 (x1 : Nat), .int .u64 (x2 : Nat), .int .u64 (x3 : Nat), .int .u64 (x4 : Nat), .int .u64 (x5 : Nat)] ∧
      x0 < 18446744073709551616 ∧ x1 < 18446744073709551616 ∧ x2 < 18446744073709551616 ∧ x3 < 18446744073709551616 ∧ x4 < 18446744073709551616 ∧ x5 < 18446744073709551616 := by
  have hu : Try.prog.underlying 22 = some (.int .u64) := by kernel_rfl
  have hc1 : Try.prog.cellsOf 22 = 1 := by kernel_rfl
  have hc5 : Try.prog.cellsOf 37 = 6 := by kernel_rfl
  have hun : Try.prog.underlying 37 = some (.array 6 22) := by kernel_rfl
  unfold Value.okWide at hv
  rw [hun] at hv
  obtain ⟨cs, rfl, hsz, _⟩ := hv
  rw [hc5] at hsz
  obtain ⟨fuel, hf⟩ := h
  obtain ⟨xs, m, _, _, _, hl, hx⟩ := DataW.trod_array hun hf
  simp only [Value.cells, hc1, Nat.mul_one] at hx
  have hcell : ∀ i, i < 6 → ∃ a : Nat, a < 18446744073709551616 ∧ cs[i]? = some (.int .u64 (a : Int)) := fun i hi => by
    have h1 := hx i hi
    have hci : (cs.toList.drop i).take 1 = [cs[i]'(by omega)] := by
      rw [List.drop_eq_getElem_cons (by simpa using (by omega : i < cs.size))]
      simp
    rw [hci, List.getElem?_eq_getElem (by omega)] at h1
    obtain ⟨a, e, _, wf⟩ := DataW.trod_int hu h1
    simp at e
    have hb := bounds_u64 wf
    refine ⟨a.toNat, by omega, ?_⟩
    rw [Array.getElem?_eq_getElem (by omega), e, Int.toNat_of_nonneg hb.1]
  obtain ⟨x0, h0, e0⟩ := hcell 0 (by decide)
  obtain ⟨x1, h1, e1⟩ := hcell 1 (by decide)
  obtain ⟨x2, h2, e2⟩ := hcell 2 (by decide)
  obtain ⟨x3, h3, e3⟩ := hcell 3 (by decide)
  obtain ⟨x4, h4, e4⟩ := hcell 4 (by decide)
  obtain ⟨x5, h5, e5⟩ := hcell 5 (by decide)
  refine ⟨x0, x1, x2, x3, x4, x5, ?_, h0, h1, h2, h3, h4, h5⟩
  refine congrArg Value.agg ?_
  apply Array.ext_getElem?
  intro i
  match i with
  | 0 => exact e0
  | 1 => exact e1
  | 2 => exact e2
  | 3 => exact e3
  | 4 => exact e4
  | 5 => exact e5
  | i + 6 => rw [Array.getElem?_eq_none (by omega), Array.getElem?_eq_none (by simp)]
theorem shp_do (κ : Nat) (v : Value) (hs : List Nat) (W : World) (hk : κ < 256) (hH : LView .u64 W v (hs.map Nat.cast)) (hl : ∀ x ∈ hs, x < 18446744073709551616) :
    Calls Try.prog 10 #[.agg #[.int .i64 (64768 + (κ : Int)), .int .i64 1, .int .i64 0, .int .u64 0, .int .u64 0, .slice none 0 0], v] W fun e w' => (∃ rv, e = .returned (.tuple #[rv, .int .i64 (doV (64768 + (κ : Int)) 1 0 0 hs).2]) ∧ LView .u64 w' rv ((doV (64768 + (κ : Int)) 1 0 0 hs).1.map Nat.cast)) ∧ ((doV (64768 + (κ : Int)) 1 0 0 hs).1 = [] → e = .returned (.tuple #[.slice none 0 0, .int .i64 (doV (64768 + (κ : Int)) 1 0 0 hs).2])) ∧ Below W.heap.size W w' := by
  refine (do_k (64768 + (κ : Int)) 1 0 0 0 (.slice none 0 0) v hs W (by omega) hH hl).mono fun e w' h => ⟨h.1.view, fun h0 => ?_, h.2⟩
  obtain ⟨rv, he, hx⟩ := h.1.ex
  rcases hx with ⟨_, rfl⟩ | ⟨h1, _⟩
  · exact he
  · exact absurd h0 h1
theorem shp_no (κ : Nat) (v : Value) (hs : List Nat) (W : World) (hk : κ < 256) (hH : LView .u64 W v (hs.map Nat.cast)) (hl : ∀ x ∈ hs, x < 18446744073709551616) (h : doV (64768 + (κ : Int)) 1 0 0 hs = ([], 1)) :
    Calls Try.prog 10 #[.agg #[.int .i64 (64768 + (κ : Int)), .int .i64 1, .int .i64 0, .int .u64 0, .int .u64 0, .slice none 0 0], v] W fun e w' => e = .returned (.tuple #[.slice none 0 0, .int .i64 1]) ∧ Below W.heap.size W w' :=
  (shp_do κ v hs W hk hH hl).mono fun e w' h2 => by
    rw [h] at h2
    exact ⟨h2.2.1 rfl, h2.2.2⟩
theorem shp_yes (κ N : Nat) (v : Value) (hs : List Nat) (W : World) (hk : κ < 256) (hH : LView .u64 W v (hs.map Nat.cast)) (hl : ∀ x ∈ hs, x < 18446744073709551616) (h : (doV (64768 + (κ : Int)) 1 0 0 hs).2 = 0) (hn : (doV (64768 + (κ : Int)) 1 0 0 hs).1.length = N) :
    Calls Try.prog 10 #[.agg #[.int .i64 (64768 + (κ : Int)), .int .i64 1, .int .i64 0, .int .u64 0, .int .u64 0, .slice none 0 0], v] W fun e w' => ∃ ad c, e = .returned (.tuple #[.slice ad N c, .int .i64 0]) ∧ Below W.heap.size W w' :=
  (shp_do κ v hs W hk hH hl).mono fun e w' h2 => by
    obtain ⟨⟨rv, he, hv⟩, _, hb⟩ := h2
    obtain ⟨ad, c, rfl, _, _⟩ := hv.ex
    rw [List.length_map, hn] at he
    rw [h] at he
    exact ⟨ad, c, he, hb⟩
theorem shp_num (κ : Nat) (v : Value) (hs : List Nat) (W : World) (hk : κ < 256) (hH : LView .u64 W v (hs.map Nat.cast)) (hl : ∀ x ∈ hs, x < 18446744073709551616) (h : (doV (64768 + (κ : Int)) 1 0 0 hs).2 = 0) (hn : (doV (64768 + (κ : Int)) 1 0 0 hs).1.length = 1) (hz : ∀ z ∈ (doV (64768 + (κ : Int)) 1 0 0 hs).1, z < 4294967296) :
    Calls Try.prog 10 #[.agg #[.int .i64 (64768 + (κ : Int)), .int .i64 1, .int .i64 0, .int .u64 0, .int .u64 0, .slice none 0 0], v] W fun e w' => ∃ (b off c r : Nat), e = .returned (.tuple #[.slice (some ⟨b, off, none⟩) 1 c, .int .i64 0]) ∧ r < 4294967296 ∧ w'.cell? ⟨b, off, none⟩ = some (.int .u64 (r : Nat)) ∧ Below W.heap.size W w' :=
  (shp_do κ v hs W hk hH hl).mono fun e w' h2 => by
    obtain ⟨⟨rv, he, hv⟩, _, hb⟩ := h2
    rw [h] at he
    generalize (doV (64768 + (κ : Int)) 1 0 0 hs).1 = l at hv hn hz
    match l, hn, hz, hv with
    | [z], _, hz, hv =>
      obtain ⟨b, off, c, rfl, _, _, hc⟩ := hv.get 0 (by simp)
      exact ⟨b, off, c, z, he, hz z (by simp), hc 0 _ rfl, hb⟩
theorem shapes_any (op : Int) (x0 x1 x2 x3 x4 x5 : Nat) (w : World) (ho : -9223372036854775808 ≤ op ∧ op ≤ 9223372036854775807) (h0 : x0 < 18446744073709551616) (h1 : x1 < 18446744073709551616) (h2 : x2 < 18446744073709551616) (h3 : x3 < 18446744073709551616) (h4 : x4 < 18446744073709551616) (h5 : x5 < 18446744073709551616) :
    Calls Try.prog 5 #[.int .i64 op, .agg #[.int .u64 (x0 : Nat), .int .u64 (x1 : Nat), .int .u64 (x2 : Nat), .int .u64 (x3 : Nat), .int .u64 (x4 : Nat), .int .u64 (x5 : Nat)]] w fun e w' => e = .returned (.bool true) ∧ Below w.heap.size w w' := by
  obtain ⟨U, hU⟩ : ∃ U : Nat, IntKind.u64.wrap op = (U : Int) := ⟨(op % 18446744073709551616).toNat, by rw [IntKind.wrap_u64]; omega⟩
  obtain ⟨κ, hκ⟩ : ∃ κ, U % 256 = κ := ⟨_, rfl⟩
  have hk : κ < 256 := by omega
  have hop : -9223372036854775808 ≤ (64768 + (κ : Int)) ∧ (64768 + (κ : Int)) ≤ 9223372036854775807 := by omega
  have HIS := fun W => is_k (64768 + (κ : Int)) W hop
  have hlt : ∀ n, ∀ x ∈ [x0, x1, x2, x3, x4, x5].take n, x < 18446744073709551616 := fun n x hx => by
    have := List.mem_of_mem_take hx
    simp only [List.mem_cons, List.not_mem_nil, or_false] at this
    rcases this with rfl | rfl | rfl | rfl | rfl | rfl <;> assumption
  have hmap : ∀ n, ([x0, x1, x2, x3, x4, x5].take n).map (Nat.cast : Nat → Int) = [(x0 : Int), (x1 : Int), (x2 : Int), (x3 : Int), (x4 : Int), (x5 : Int)].take n := fun n => by rw [List.map_take]; rfl
  have hlen : ∀ n, n ≤ 6 → ([x0, x1, x2, x3, x4, x5].take n).length = n := fun n hn => by rw [List.length_take]; simp; omega
  cases hr : vrowAt (64768 + (κ : Int)) with
  | none =>
    have hb : isB (64768 + (κ : Int)) = false := by unfold isB; rw [hr]
    rw [hb] at HIS
    exact shapes_none op 0 0 [] [] U κ x0 x1 x2 x3 x4 x5 w hU hκ (by simp) (fun W => (of_none _ W hop hr).mono fun e w' h => ⟨.slice none 0 0, .slice none 0 0, false, h.1, World.ownsRow_nil _ _ _ _, World.ownsRow_nil _ _ _ _, h.2⟩) HIS
      (fun W v n hn hv => shp_no κ v ([x0, x1, x2, x3, x4, x5].take n) W hk (by rw [hmap]; exact hv) (hlt n) (doV_no hb))
  | some r =>
    have HOF := fun W => of_row _ r W hop hr
    have htl : (tyIn r).length ≤ 100 := row_len hr
    by_cases hb : isB (64768 + (κ : Int)) = true
    · rw [hb] at HIS
      have hty : tyAt κ = tyIn r := by unfold tyAt; rw [hr]
      have hto : toAt κ = tyOut r := by unfold toAt; rw [hr]
      obtain ⟨hK6, _, hcl⟩ := shape_cls κ hk hb
      have hform : rowIs r = true := by
        unfold isB at hb
        rw [hr] at hb
        simp only [Bool.and_eq_true] at hb
        exact hb.2
      have p7 : (r.form != 7) = true := by
        unfold rowIs at hform
        simp only [Bool.and_eq_true] at hform
        exact hform.1
      have p8 : (r.form != 8) = true := by
        unfold rowIs at hform
        simp only [Bool.and_eq_true] at hform
        exact hform.2
      have hok := fun hs hl => shape_ok κ hk hb hs hl
      rw [hty] at hK6
      have hno : ∀ (W : World) (v : Value) (n : Nat), n ≤ 6 → n ≠ needOf (tyIn r) → LView .u64 W v ([(x0 : Int), (x1 : Int), (x2 : Int), (x3 : Int), (x4 : Int), (x5 : Int)].take n) → Calls Try.prog 10 #[.agg #[.int .i64 (64768 + (κ : Int)), .int .i64 1, .int .i64 0, .int .u64 0, .int .u64 0, .slice none 0 0], v] W fun e w' => e = .returned (.tuple #[.slice none 0 0, .int .i64 1]) ∧ Below W.heap.size W w' := fun W v n hn hne hv =>
        shp_no κ v ([x0, x1, x2, x3, x4, x5].take n) W hk (by rw [hmap]; exact hv) (hlt n) (shape_no κ _ (by rw [hlen n hn, hty]; exact hne))
      have hy := hok ([x0, x1, x2, x3, x4, x5].take (needOf (tyIn r))) (by rw [hlen _ hK6, hty])
      rcases hcl with h | h | h
      · rw [h] at hy
        rw [hto] at h
        rw [h] at HOF
        exact shapes_ok123 op r.form r.lim (tyIn r) U κ x0 x1 x2 x3 x4 x5 w hU hκ htl _ rfl p7 p8 HOF HIS hno (fun W v hv => shp_yes κ 2 v _ W hk (by rw [hmap]; exact hv) (hlt _) hy.1 (by rw [hy.2.1]; rfl))
      · rw [h] at hy
        rw [hto] at h
        rw [h] at HOF
        exact shapes_ok127 op r.form r.lim (tyIn r) U κ x0 x1 x2 x3 x4 x5 w hU hκ htl _ rfl p7 p8 HOF HIS hno (fun W v hv => shp_num κ v _ W hk (by rw [hmap]; exact hv) (hlt _) hy.1 (by rw [hy.2.1]; rfl) (hy.2.2 rfl))
      · rw [h] at hy
        rw [hto] at h
        rw [h] at HOF
        exact shapes_ok126 op r.form r.lim (tyIn r) U κ x0 x1 x2 x3 x4 x5 w hU hκ htl _ rfl p7 p8 HOF HIS hno (fun W v hv => shp_yes κ 1 v _ W hk (by rw [hmap]; exact hv) (hlt _) hy.1 (by rw [hy.2.1]; rfl))
    · have hb' : isB (64768 + (κ : Int)) = false := by simpa using hb
      rw [hb'] at HIS
      have hDO : ∀ (W : World) (v : Value) (n : Nat), n ≤ 6 → LView .u64 W v ([(x0 : Int), (x1 : Int), (x2 : Int), (x3 : Int), (x4 : Int), (x5 : Int)].take n) → Calls Try.prog 10 #[.agg #[.int .i64 (64768 + (κ : Int)), .int .i64 1, .int .i64 0, .int .u64 0, .int .u64 0, .slice none 0 0], v] W fun e w' => e = .returned (.tuple #[.slice none 0 0, .int .i64 1]) ∧ Below W.heap.size W w' := fun W v n hn hv =>
        shp_no κ v ([x0, x1, x2, x3, x4, x5].take n) W hk (by rw [hmap]; exact hv) (hlt n) (doV_no hb')
      have hfm : r.form = 7 ∨ r.form = 8 := by
        unfold isB at hb'
        rw [hr] at hb'
        simp only [Bool.and_eq_false_iff, decide_eq_false_iff_not] at hb'
        rcases hb' with h | h
        · exact absurd (by omega) h
        · unfold rowIs at h
          simpa using (by revert h; by_cases h7 : r.form = 7 <;> by_cases h8 : r.form = 8 <;> simp [h7, h8] : r.form = 7 ∨ r.form = 8)
      rcases hfm with h | h
      · rw [h] at HOF
        exact shapes_m7 op r.lim (tyIn r) (tyOut r) U κ x0 x1 x2 x3 x4 x5 w hU hκ htl HOF HIS hDO
      · rw [h] at HOF
        exact shapes_m8 op r.lim (tyIn r) (tyOut r) U κ x0 x1 x2 x3 x4 x5 w hU hκ htl HOF HIS hDO


set_option maxRecDepth 100000 in
theorem vectorShapes_lifted (os : Os) (started : os.Started) (H : Type) (enc : TypeId × Value → H) :
    ReturnsInHanded {} Try.checked os 5 .any (Rows.vectorShapesSpec.pre6 enc Try.prog Try.f5 Rows.vectorShapesRow.domain false) (Rows.vectorShapesSpec.post enc Try.prog Try.f5 false true false false) := by
  refine returnsInHanded_of_change (C := Try.checked) Try.own started (by kernel_rfl) Try.func5
    (ChangeSpec.witness6 (enc := enc) (C := Try.checked) false ⟨#[], #[.int .i64 0, .agg #[.int .u64 0, .int .u64 0, .int .u64 0, .int .u64 0, .int .u64 0, .int .u64 0]], []⟩ 8 (by kernel_rfl) (by kernel_rfl) (by kernel_rfl) (by kernel_rfl)) ?_
  intro W base args ds gs before hval0 hW hcnd _
  have hval : ∀ (j : Nat) t v, Try.f5.params[j]? = some t → args[j]? = some v → Value.okWide Try.prog W .any base t v := hval0
  have hW' := hW
  obtain ⟨p, q, hA0, hV, rfl, hfz, hnd⟩ := hW
  have hA : DataW.TrodAll enc Try.prog W 0 (fun _ => true) true Try.f5.params.toList args.toList ds p := hA0
  rw [Try.params5] at hA hval
  obtain ⟨v0, v1, d0, d1, p0, p1, rfl, rfl, rfl, h0, h1⟩ := trodAll_two hA
  obtain ⟨rfl, rfl⟩ := trodVars_none hV
  clear hA0 hval0
  have k0 := h0
  obtain ⟨x0, rfl, e0, f0, w0⟩ := open_int Try.underlying3 (hval 0 3 v0 rfl rfl) k0
  obtain ⟨q0, q1, q2, q3, q4, q5, rfl, kk0, kk1, kk2, kk3, kk4, kk5⟩ := open_a6 (hval 1 37 v1 rfl rfl) h1
  simp only [List.append_nil] at hW'
  have laid : laidOutB Try.prog = true := by kernel_rfl
  refine (shapes_any x0 q0 q1 q2 q3 q4 q5 W (bounds_i64 w0) kk0 kk1 kk2 kk3 kk4 kk5).mono fun e W' ⟨he, hb⟩ => ?_
  subst he
  exact ⟨_, rfl, _, _, _, [], _, [], hW', trodAll_mk1 (shut_bool Try.underlying4 _), trodAll_mk2 (Below.trod laid (by kernel_rfl) (of_decide_eq_true (by kernel_rfl)) h0 hb (fun x hx => hW'.lt x (by simp [hx]))) (Below.trod laid (by kernel_rfl) (of_decide_eq_true (by kernel_rfl)) h1 hb (fun x hx => hW'.lt x (by simp [hx]))), rfl, hb.frame _, fun h => by cases h⟩

theorem vectorShapes_holds : Rows.VectorShapesSaid :=
  OpenClaim.holds_of_wide 5 Try.f5 rfl rfl rfl rfl rfl rfl rfl ⟨rfl, rfl, rfl, rfl, rfl⟩ rfl rfl rfl rfl rfl (by kernel_rfl) Try.func5 (by kernel_rfl)
    (of_decide_eq_true (by kernel_rfl)) (by unfold Func.isWrapper; rw [if_neg (of_decide_eq_false (by kernel_rfl))]; exact ⟨rfl, rfl⟩)
    (fun os started H enc _ => vectorShapes_lifted os started H enc)
#print axioms vectorShapes_holds

end Go.Proofs.Ytcpfabkokgiepaa
