/-
  The walk of VectorShapes.
-/
import Derived.Deep.Cut
import Derived.Test.YtcpfabkokgiepaaVcShL
set_option linter.unusedSimpArgs false
set_option linter.unusedVariables false
namespace Go.Proofs.Ytcpfabkokgiepaa
open Go.RowKit Pl

theorem a6size (a b c d e f : Value) : (Try.prog.info? 37).map (·.size) = some #[a, b, c, d, e, f].size := by kernel_rfl
theorem lv_a6 {w : World} {b : Nat} (x0 x1 x2 x3 x4 x5 : Int) (h : w.heap[b]? = some (.cells #[.int .u64 x0, .int .u64 x1, .int .u64 x2, .int .u64 x3, .int .u64 x4, .int .u64 x5] 37 (0, 0))) (n : Nat) (hn : n ≤ 6) : LView .u64 w (.slice (some ⟨b, 0, none⟩) n 6) ([x0, x1, x2, x3, x4, x5].take n) := by
  have hl : ([x0, x1, x2, x3, x4, x5].take n).length = n := by rw [List.length_take]; simp; omega
  refine ⟨_, 6, by rw [hl], by rw [hl]; exact hn, .inr ⟨b, 0, rfl, block_lt h, fun i z hi => ?_⟩⟩
  rw [Nat.zero_add, cell_of_row w b i _ _ _ h]
  rw [List.getElem?_take] at hi
  split at hi
  · match i, hi with
    | 0, hi => injection hi with hi; subst hi; rfl
    | 1, hi => injection hi with hi; subst hi; rfl
    | 2, hi => injection hi with hi; subst hi; rfl
    | 3, hi => injection hi with hi; subst hi; rfl
    | 4, hi => injection hi with hi; subst hi; rfl
    | 5, hi => injection hi with hi; subst hi; rfl
    | i + 6, hi => cases hi
  · cases hi
set_option maxRecDepth 100000 in
set_option maxHeartbeats 2000000 in
theorem shapes_none (op form lim : Int) (ti to : List Int) (U κ x0 x1 x2 x3 x4 x5 : Nat) (w : World) (hU : IntKind.u64.wrap op = (U : Int)) (hκ : U % 256 = κ) (htl : ti.length ≤ 100) (HOF : ∀ W, Calls Try.prog 15 #[.int .i64 (64768 + (κ : Int))] W fun e w' => ∃ (s t : Value) (pl : Bool), e = .returned (.tuple #[.agg #[.int .i64 form, .int .i64 lim, .bool pl, s, t], .bool false]) ∧ w'.ownsRow W.heap.size 3 1 s ti.length (ti.map (Value.int .i64)) ∧ w'.ownsRow W.heap.size 3 1 t to.length (to.map (Value.int .i64)) ∧ Below W.heap.size W w') (HIS : ∀ W, Calls Try.prog 13 #[.int .i64 (64768 + (κ : Int))] W fun e w' => e = .returned (.bool false) ∧ Below W.heap.size W w') (HDO : ∀ (W : World) (v : Value) (n : Nat), n ≤ 6 → LView .u64 W v ([(x0 : Int), (x1 : Int), (x2 : Int), (x3 : Int), (x4 : Int), (x5 : Int)].take n) → Calls Try.prog 10 #[.agg #[.int .i64 (64768 + (κ : Int)), .int .i64 1, .int .i64 0, .int .u64 0, .int .u64 0, .slice none 0 0], v] W fun e w' => e = .returned (.tuple #[.slice none 0 0, .int .i64 1]) ∧ Below W.heap.size W w') :
    Calls Try.prog 5 #[.int .i64 op, .agg #[.int .u64 (x0 : Nat), .int .u64 (x1 : Nat), .int .u64 (x2 : Nat), .int .u64 (x3 : Nat), .int .u64 (x4 : Nat), .int .u64 (x5 : Nat)]] w fun e w' => e = .returned (.bool true) ∧ Below w.heap.size w w' := by
  replace HOF := Lib.hid HOF
  replace HIS := Lib.hid HIS
  replace HDO := Lib.hid HDO
  have hk2 : κ < 256 := by omega
  have hkk : (U : Int) % 256 = (κ : Int) := by omega
  have hkt : (U : Int).tmod 256 = (κ : Int) := by rw [Int.tmod_eq_emod_of_nonneg (Int.natCast_nonneg _)]; exact hkk
  have h1 : IntKind.i64.wrap (κ : Int) = κ := IntWalk.i64_in _ (by omega)
  have h2 : IntKind.i64.wrap (64768 + (κ : Int)) = 64768 + (κ : Int) := IntWalk.i64_in _ (by omega)
  have h3 : IntKind.u64.wrap (κ : Int) = κ := IntWalk.u64_in _ (by omega)
  go_enter Try.func5, Try.ntmps5
  go_wp2_with (first | (go_at_call 9; refine (awake_k _).mono ?_; rintro e u0 ⟨rfl, hb0⟩; have hA := blk_keep (heap_alloc_new w (.cells #[.int .u64 (x0 : Nat), .int .u64 (x1 : Nat), .int .u64 (x2 : Nat), .int .u64 (x3 : Nat), .int .u64 (x4 : Nat), .int .u64 (x5 : Nat)] 37)) hb0; have hZ := below_new (Below.refl w.heap.size w) (Nat.le_refl _) _ hb0; clear hb0) | (go_at_call 15; refine (HOF.out _).mono ?_; rintro e u1 ⟨s, t, pl, rfl, hss, hst, hb1⟩; replace hA := blk_keep hA hb1; replace hZ := hZ.trans (hb1.mono hZ.size); clear hb1) | ((with_reducible refine store_newk rfl 40 _ _ rfl _ _ rfl rfl (infsize _ _ _ _ _) (five_sz _ _ _ _ _ _ _ _ _ _) (all5 _ _ _ (owns_one hss).1 (owns_one hst).1) ?_); intro u2 hb2 hF lF; replace hA := blk_keep hA hb2; replace hZ := hZ.trans (hb2.mono hZ.size); have vT := (LView.of_own hss).below hb2; have vO := (LView.of_own hst).below hb2; clear hb2 hss hst lF) | ((with_reducible refine load_w ?_ 3 isAgg_int _ rfl _ _ rfl _ _ hF _ rfl ?_); (focus rfl)) | (go_at_call 13; refine (HIS.out _).mono ?_; rintro e u3 ⟨rfl, hb3⟩; replace hA := blk_keep hA hb3; replace hZ := hZ.trans (hb3.mono hZ.size); replace hF := blk_keep hF hb3; replace vT := vT.below hb3; replace vO := vO.below hb3; clear hb3))
  obtain ⟨ad, c, rfl, hc, _⟩ := vT.ex
  go_loopw [8, 9] (fun nv iv wr => ∃ (i m : Nat), i ≤ ti.length ∧ iv = .int .i64 i ∧ nv = .int .i64 m ∧ m ≤ 2 * i ∧ Hid (m = needOf (ti.take i)) ∧ Below u3.heap.size u3 wr) (fun _ iv _ => ti.length - (intOf iv).toNat)
  case atStart => exact ⟨0, 0, Nat.zero_le _, rfl, rfl, Nat.le_refl _, Lib.hid (by simp [needOf]), Below.refl _ _⟩
  case round =>
    obtain ⟨wo, hwo⟩ : ∃ x, x = wr := ⟨_, rfl⟩
    subst hwo
    obtain ⟨i, m, hi, rfl, rfl, hm, HM, hb⟩ := hrel
    have hF1 := blk_keep hF hb
    by_cases hlt : i < ti.length
    · obtain ⟨tb, toff, tc2, te, htc3, htb, htx⟩ := (vT.below hb).get i hlt
      injection te with te1 te2 te3
      subst te1 te3
      obtain ⟨z, hz⟩ : ∃ z, ti[i]? = some z := ⟨_, List.getElem?_eq_getElem hlt⟩
      have hct := htx i z hz
      have HTX := Lib.hid hz
      clear htx hz
      by_cases h123 : z = 123
      · subst h123
        as_aux_lemma =>
          go_wp2_with (first | ((with_reducible refine load_w ?_ 23 isAgg_slint _ rfl _ _ rfl _ _ hF1 _ rfl ?_); (focus rfl)) | ((with_reducible refine ix1_w ?_ 23 size_si under_si _ _ rfl tb toff _ _ rfl _ rfl i rfl hlt ?_); (focus rfl)) | ((with_reducible refine ld1_w ?_ 3 isAgg_int _ rfl _ rfl _ hct ?_); (focus rfl)))
          exact ⟨⟨i + 1, m + 2, by omega, by go_num, by go_num, by omega, Lib.hid (by rw [needOf_step _ _ _ HTX.out, ← HM.out]; rfl), hb⟩, by simp [intOf]; omega⟩
      · have q123 : (z == 123) = false := by simp [h123]
        have H123 := Lib.hid h123
        clear h123
        as_aux_lemma =>
          go_wp2_with (first | ((with_reducible refine load_w ?_ 23 isAgg_slint _ rfl _ _ rfl _ _ hF1 _ rfl ?_); (focus rfl)) | ((with_reducible refine ix1_w ?_ 23 size_si under_si _ _ rfl tb toff _ _ rfl _ rfl i rfl hlt ?_); (focus rfl)) | ((with_reducible refine ld1_w ?_ 3 isAgg_int _ rfl _ rfl _ hct ?_); (focus rfl)))
          exact ⟨⟨i + 1, m + 1, by omega, by go_num, by go_num, by omega, Lib.hid (by rw [needOf_step _ _ _ HTX.out, ← HM.out, if_neg H123.out]), hb⟩, by simp [intOf]; omega⟩
    · obtain rfl : i = ti.length := by omega
      have HM2 : Hid (m = needOf ti) := Lib.hid (by rw [HM.out, List.take_length])
      clear HM
      replace hA := blk_keep hA hb
      replace vO := vO.below hb
      replace hZ := hZ.trans (hb.mono hZ.size)
      clear hb hF
      go_wp2_with (first | ((with_reducible refine load_w ?_ 23 isAgg_slint _ rfl _ _ rfl _ _ hF1 _ rfl ?_); (focus rfl)))
      go_loopw [10] (fun nv wr => ∃ n : Nat, n ≤ 7 ∧ nv = .int .i64 n ∧ Below wo.heap.size wo wr) (fun nv _ => 7 - (intOf nv).toNat)
      case atStart => exact ⟨0, by omega, rfl, Below.refl _ _⟩
      case round =>
        obtain ⟨n, hn, rfl, hb2⟩ := hrel
        by_cases hlt2 : n ≤ 6
        · have vA := lv_a6 _ _ _ _ _ _ (blk_keep hA hb2) n hlt2
          go_wp2_with (first | (go_at_call 10; refine (HDO.out _ _ n hlt2 vA).mono ?_; rintro e u6 ⟨rfl, hb6⟩; replace hb2 := hb2.trans (hb6.mono hb2.size); clear hb6))
          (refine ⟨?_, by simp [intOf]; omega⟩; first | exact ⟨n + 1, by omega, by go_num, hb2⟩ | ((repeat apply Exists.intro); exact ⟨⟨n + 1, by omega, by go_num, hb2⟩, rfl⟩))
        · obtain rfl : n = 7 := by omega
          go_wp2_with fail
          go_ret
          exact ⟨rfl, hZ.trans (hb2.mono hZ.size)⟩

set_option maxRecDepth 100000 in
set_option maxHeartbeats 2000000 in
theorem shapes_m7 (op lim : Int) (ti to : List Int) (U κ x0 x1 x2 x3 x4 x5 : Nat) (w : World) (hU : IntKind.u64.wrap op = (U : Int)) (hκ : U % 256 = κ) (htl : ti.length ≤ 100) (HOF : ∀ W, Calls Try.prog 15 #[.int .i64 (64768 + (κ : Int))] W fun e w' => ∃ (s t : Value) (pl : Bool), e = .returned (.tuple #[.agg #[.int .i64 7, .int .i64 lim, .bool pl, s, t], .bool true]) ∧ w'.ownsRow W.heap.size 3 1 s ti.length (ti.map (Value.int .i64)) ∧ w'.ownsRow W.heap.size 3 1 t to.length (to.map (Value.int .i64)) ∧ Below W.heap.size W w') (HIS : ∀ W, Calls Try.prog 13 #[.int .i64 (64768 + (κ : Int))] W fun e w' => e = .returned (.bool false) ∧ Below W.heap.size W w') (HDO : ∀ (W : World) (v : Value) (n : Nat), n ≤ 6 → LView .u64 W v ([(x0 : Int), (x1 : Int), (x2 : Int), (x3 : Int), (x4 : Int), (x5 : Int)].take n) → Calls Try.prog 10 #[.agg #[.int .i64 (64768 + (κ : Int)), .int .i64 1, .int .i64 0, .int .u64 0, .int .u64 0, .slice none 0 0], v] W fun e w' => e = .returned (.tuple #[.slice none 0 0, .int .i64 1]) ∧ Below W.heap.size W w') :
    Calls Try.prog 5 #[.int .i64 op, .agg #[.int .u64 (x0 : Nat), .int .u64 (x1 : Nat), .int .u64 (x2 : Nat), .int .u64 (x3 : Nat), .int .u64 (x4 : Nat), .int .u64 (x5 : Nat)]] w fun e w' => e = .returned (.bool true) ∧ Below w.heap.size w w' := by
  replace HOF := Lib.hid HOF
  replace HIS := Lib.hid HIS
  replace HDO := Lib.hid HDO
  have hk2 : κ < 256 := by omega
  have hkk : (U : Int) % 256 = (κ : Int) := by omega
  have hkt : (U : Int).tmod 256 = (κ : Int) := by rw [Int.tmod_eq_emod_of_nonneg (Int.natCast_nonneg _)]; exact hkk
  have h1 : IntKind.i64.wrap (κ : Int) = κ := IntWalk.i64_in _ (by omega)
  have h2 : IntKind.i64.wrap (64768 + (κ : Int)) = 64768 + (κ : Int) := IntWalk.i64_in _ (by omega)
  have h3 : IntKind.u64.wrap (κ : Int) = κ := IntWalk.u64_in _ (by omega)
  go_enter Try.func5, Try.ntmps5
  go_wp2_with (first | (go_at_call 9; refine (awake_k _).mono ?_; rintro e u0 ⟨rfl, hb0⟩; have hA := blk_keep (heap_alloc_new w (.cells #[.int .u64 (x0 : Nat), .int .u64 (x1 : Nat), .int .u64 (x2 : Nat), .int .u64 (x3 : Nat), .int .u64 (x4 : Nat), .int .u64 (x5 : Nat)] 37)) hb0; have hZ := below_new (Below.refl w.heap.size w) (Nat.le_refl _) _ hb0; clear hb0) | (go_at_call 15; refine (HOF.out _).mono ?_; rintro e u1 ⟨s, t, pl, rfl, hss, hst, hb1⟩; replace hA := blk_keep hA hb1; replace hZ := hZ.trans (hb1.mono hZ.size); clear hb1) | ((with_reducible refine store_newk rfl 40 _ _ rfl _ _ rfl rfl (infsize _ _ _ _ _) (five_sz _ _ _ _ _ _ _ _ _ _) (all5 _ _ _ (owns_one hss).1 (owns_one hst).1) ?_); intro u2 hb2 hF lF; replace hA := blk_keep hA hb2; replace hZ := hZ.trans (hb2.mono hZ.size); have vT := (LView.of_own hss).below hb2; have vO := (LView.of_own hst).below hb2; clear hb2 hss hst lF) | ((with_reducible refine load_w ?_ 3 isAgg_int _ rfl _ _ rfl _ _ hF _ rfl ?_); (focus rfl)) | (go_at_call 13; refine (HIS.out _).mono ?_; rintro e u3 ⟨rfl, hb3⟩; replace hA := blk_keep hA hb3; replace hZ := hZ.trans (hb3.mono hZ.size); replace hF := blk_keep hF hb3; replace vT := vT.below hb3; replace vO := vO.below hb3; clear hb3))
  obtain ⟨ad, c, rfl, hc, _⟩ := vT.ex
  go_loopw [8, 9] (fun nv iv wr => ∃ (i m : Nat), i ≤ ti.length ∧ iv = .int .i64 i ∧ nv = .int .i64 m ∧ m ≤ 2 * i ∧ Hid (m = needOf (ti.take i)) ∧ Below u3.heap.size u3 wr) (fun _ iv _ => ti.length - (intOf iv).toNat)
  case atStart => exact ⟨0, 0, Nat.zero_le _, rfl, rfl, Nat.le_refl _, Lib.hid (by simp [needOf]), Below.refl _ _⟩
  case round =>
    obtain ⟨wo, hwo⟩ : ∃ x, x = wr := ⟨_, rfl⟩
    subst hwo
    obtain ⟨i, m, hi, rfl, rfl, hm, HM, hb⟩ := hrel
    have hF1 := blk_keep hF hb
    by_cases hlt : i < ti.length
    · obtain ⟨tb, toff, tc2, te, htc3, htb, htx⟩ := (vT.below hb).get i hlt
      injection te with te1 te2 te3
      subst te1 te3
      obtain ⟨z, hz⟩ : ∃ z, ti[i]? = some z := ⟨_, List.getElem?_eq_getElem hlt⟩
      have hct := htx i z hz
      have HTX := Lib.hid hz
      clear htx hz
      by_cases h123 : z = 123
      · subst h123
        as_aux_lemma =>
          go_wp2_with (first | ((with_reducible refine load_w ?_ 23 isAgg_slint _ rfl _ _ rfl _ _ hF1 _ rfl ?_); (focus rfl)) | ((with_reducible refine ix1_w ?_ 23 size_si under_si _ _ rfl tb toff _ _ rfl _ rfl i rfl hlt ?_); (focus rfl)) | ((with_reducible refine ld1_w ?_ 3 isAgg_int _ rfl _ rfl _ hct ?_); (focus rfl)))
          exact ⟨⟨i + 1, m + 2, by omega, by go_num, by go_num, by omega, Lib.hid (by rw [needOf_step _ _ _ HTX.out, ← HM.out]; rfl), hb⟩, by simp [intOf]; omega⟩
      · have q123 : (z == 123) = false := by simp [h123]
        have H123 := Lib.hid h123
        clear h123
        as_aux_lemma =>
          go_wp2_with (first | ((with_reducible refine load_w ?_ 23 isAgg_slint _ rfl _ _ rfl _ _ hF1 _ rfl ?_); (focus rfl)) | ((with_reducible refine ix1_w ?_ 23 size_si under_si _ _ rfl tb toff _ _ rfl _ rfl i rfl hlt ?_); (focus rfl)) | ((with_reducible refine ld1_w ?_ 3 isAgg_int _ rfl _ rfl _ hct ?_); (focus rfl)))
          exact ⟨⟨i + 1, m + 1, by omega, by go_num, by go_num, by omega, Lib.hid (by rw [needOf_step _ _ _ HTX.out, ← HM.out, if_neg H123.out]), hb⟩, by simp [intOf]; omega⟩
    · obtain rfl : i = ti.length := by omega
      have HM2 : Hid (m = needOf ti) := Lib.hid (by rw [HM.out, List.take_length])
      clear HM
      replace hA := blk_keep hA hb
      replace vO := vO.below hb
      replace hZ := hZ.trans (hb.mono hZ.size)
      clear hb hF
      go_wp2_with (first | ((with_reducible refine load_w ?_ 23 isAgg_slint _ rfl _ _ rfl _ _ hF1 _ rfl ?_); (focus rfl)))
      go_loopw [10] (fun nv wr => ∃ n : Nat, n ≤ 7 ∧ nv = .int .i64 n ∧ Below wo.heap.size wo wr) (fun nv _ => 7 - (intOf nv).toNat)
      case atStart => exact ⟨0, by omega, rfl, Below.refl _ _⟩
      case round =>
        obtain ⟨n, hn, rfl, hb2⟩ := hrel
        by_cases hlt2 : n ≤ 6
        · have vA := lv_a6 _ _ _ _ _ _ (blk_keep hA hb2) n hlt2
          go_wp2_with (first | (go_at_call 10; refine (HDO.out _ _ n hlt2 vA).mono ?_; rintro e u6 ⟨rfl, hb6⟩; replace hb2 := hb2.trans (hb6.mono hb2.size); clear hb6))
          (refine ⟨?_, by simp [intOf]; omega⟩; first | exact ⟨n + 1, by omega, by go_num, hb2⟩ | ((repeat apply Exists.intro); exact ⟨⟨n + 1, by omega, by go_num, hb2⟩, rfl⟩))
        · obtain rfl : n = 7 := by omega
          go_wp2_with fail
          go_ret
          exact ⟨rfl, hZ.trans (hb2.mono hZ.size)⟩

set_option maxRecDepth 100000 in
set_option maxHeartbeats 2000000 in
theorem shapes_m8 (op lim : Int) (ti to : List Int) (U κ x0 x1 x2 x3 x4 x5 : Nat) (w : World) (hU : IntKind.u64.wrap op = (U : Int)) (hκ : U % 256 = κ) (htl : ti.length ≤ 100) (HOF : ∀ W, Calls Try.prog 15 #[.int .i64 (64768 + (κ : Int))] W fun e w' => ∃ (s t : Value) (pl : Bool), e = .returned (.tuple #[.agg #[.int .i64 8, .int .i64 lim, .bool pl, s, t], .bool true]) ∧ w'.ownsRow W.heap.size 3 1 s ti.length (ti.map (Value.int .i64)) ∧ w'.ownsRow W.heap.size 3 1 t to.length (to.map (Value.int .i64)) ∧ Below W.heap.size W w') (HIS : ∀ W, Calls Try.prog 13 #[.int .i64 (64768 + (κ : Int))] W fun e w' => e = .returned (.bool false) ∧ Below W.heap.size W w') (HDO : ∀ (W : World) (v : Value) (n : Nat), n ≤ 6 → LView .u64 W v ([(x0 : Int), (x1 : Int), (x2 : Int), (x3 : Int), (x4 : Int), (x5 : Int)].take n) → Calls Try.prog 10 #[.agg #[.int .i64 (64768 + (κ : Int)), .int .i64 1, .int .i64 0, .int .u64 0, .int .u64 0, .slice none 0 0], v] W fun e w' => e = .returned (.tuple #[.slice none 0 0, .int .i64 1]) ∧ Below W.heap.size W w') :
    Calls Try.prog 5 #[.int .i64 op, .agg #[.int .u64 (x0 : Nat), .int .u64 (x1 : Nat), .int .u64 (x2 : Nat), .int .u64 (x3 : Nat), .int .u64 (x4 : Nat), .int .u64 (x5 : Nat)]] w fun e w' => e = .returned (.bool true) ∧ Below w.heap.size w w' := by
  replace HOF := Lib.hid HOF
  replace HIS := Lib.hid HIS
  replace HDO := Lib.hid HDO
  have hk2 : κ < 256 := by omega
  have hkk : (U : Int) % 256 = (κ : Int) := by omega
  have hkt : (U : Int).tmod 256 = (κ : Int) := by rw [Int.tmod_eq_emod_of_nonneg (Int.natCast_nonneg _)]; exact hkk
  have h1 : IntKind.i64.wrap (κ : Int) = κ := IntWalk.i64_in _ (by omega)
  have h2 : IntKind.i64.wrap (64768 + (κ : Int)) = 64768 + (κ : Int) := IntWalk.i64_in _ (by omega)
  have h3 : IntKind.u64.wrap (κ : Int) = κ := IntWalk.u64_in _ (by omega)
  go_enter Try.func5, Try.ntmps5
  go_wp2_with (first | (go_at_call 9; refine (awake_k _).mono ?_; rintro e u0 ⟨rfl, hb0⟩; have hA := blk_keep (heap_alloc_new w (.cells #[.int .u64 (x0 : Nat), .int .u64 (x1 : Nat), .int .u64 (x2 : Nat), .int .u64 (x3 : Nat), .int .u64 (x4 : Nat), .int .u64 (x5 : Nat)] 37)) hb0; have hZ := below_new (Below.refl w.heap.size w) (Nat.le_refl _) _ hb0; clear hb0) | (go_at_call 15; refine (HOF.out _).mono ?_; rintro e u1 ⟨s, t, pl, rfl, hss, hst, hb1⟩; replace hA := blk_keep hA hb1; replace hZ := hZ.trans (hb1.mono hZ.size); clear hb1) | ((with_reducible refine store_newk rfl 40 _ _ rfl _ _ rfl rfl (infsize _ _ _ _ _) (five_sz _ _ _ _ _ _ _ _ _ _) (all5 _ _ _ (owns_one hss).1 (owns_one hst).1) ?_); intro u2 hb2 hF lF; replace hA := blk_keep hA hb2; replace hZ := hZ.trans (hb2.mono hZ.size); have vT := (LView.of_own hss).below hb2; have vO := (LView.of_own hst).below hb2; clear hb2 hss hst lF) | ((with_reducible refine load_w ?_ 3 isAgg_int _ rfl _ _ rfl _ _ hF _ rfl ?_); (focus rfl)) | (go_at_call 13; refine (HIS.out _).mono ?_; rintro e u3 ⟨rfl, hb3⟩; replace hA := blk_keep hA hb3; replace hZ := hZ.trans (hb3.mono hZ.size); replace hF := blk_keep hF hb3; replace vT := vT.below hb3; replace vO := vO.below hb3; clear hb3))
  obtain ⟨ad, c, rfl, hc, _⟩ := vT.ex
  go_loopw [8, 9] (fun nv iv wr => ∃ (i m : Nat), i ≤ ti.length ∧ iv = .int .i64 i ∧ nv = .int .i64 m ∧ m ≤ 2 * i ∧ Hid (m = needOf (ti.take i)) ∧ Below u3.heap.size u3 wr) (fun _ iv _ => ti.length - (intOf iv).toNat)
  case atStart => exact ⟨0, 0, Nat.zero_le _, rfl, rfl, Nat.le_refl _, Lib.hid (by simp [needOf]), Below.refl _ _⟩
  case round =>
    obtain ⟨wo, hwo⟩ : ∃ x, x = wr := ⟨_, rfl⟩
    subst hwo
    obtain ⟨i, m, hi, rfl, rfl, hm, HM, hb⟩ := hrel
    have hF1 := blk_keep hF hb
    by_cases hlt : i < ti.length
    · obtain ⟨tb, toff, tc2, te, htc3, htb, htx⟩ := (vT.below hb).get i hlt
      injection te with te1 te2 te3
      subst te1 te3
      obtain ⟨z, hz⟩ : ∃ z, ti[i]? = some z := ⟨_, List.getElem?_eq_getElem hlt⟩
      have hct := htx i z hz
      have HTX := Lib.hid hz
      clear htx hz
      by_cases h123 : z = 123
      · subst h123
        as_aux_lemma =>
          go_wp2_with (first | ((with_reducible refine load_w ?_ 23 isAgg_slint _ rfl _ _ rfl _ _ hF1 _ rfl ?_); (focus rfl)) | ((with_reducible refine ix1_w ?_ 23 size_si under_si _ _ rfl tb toff _ _ rfl _ rfl i rfl hlt ?_); (focus rfl)) | ((with_reducible refine ld1_w ?_ 3 isAgg_int _ rfl _ rfl _ hct ?_); (focus rfl)))
          exact ⟨⟨i + 1, m + 2, by omega, by go_num, by go_num, by omega, Lib.hid (by rw [needOf_step _ _ _ HTX.out, ← HM.out]; rfl), hb⟩, by simp [intOf]; omega⟩
      · have q123 : (z == 123) = false := by simp [h123]
        have H123 := Lib.hid h123
        clear h123
        as_aux_lemma =>
          go_wp2_with (first | ((with_reducible refine load_w ?_ 23 isAgg_slint _ rfl _ _ rfl _ _ hF1 _ rfl ?_); (focus rfl)) | ((with_reducible refine ix1_w ?_ 23 size_si under_si _ _ rfl tb toff _ _ rfl _ rfl i rfl hlt ?_); (focus rfl)) | ((with_reducible refine ld1_w ?_ 3 isAgg_int _ rfl _ rfl _ hct ?_); (focus rfl)))
          exact ⟨⟨i + 1, m + 1, by omega, by go_num, by go_num, by omega, Lib.hid (by rw [needOf_step _ _ _ HTX.out, ← HM.out, if_neg H123.out]), hb⟩, by simp [intOf]; omega⟩
    · obtain rfl : i = ti.length := by omega
      have HM2 : Hid (m = needOf ti) := Lib.hid (by rw [HM.out, List.take_length])
      clear HM
      replace hA := blk_keep hA hb
      replace vO := vO.below hb
      replace hZ := hZ.trans (hb.mono hZ.size)
      clear hb hF
      go_wp2_with (first | ((with_reducible refine load_w ?_ 23 isAgg_slint _ rfl _ _ rfl _ _ hF1 _ rfl ?_); (focus rfl)))
      go_loopw [10] (fun nv wr => ∃ n : Nat, n ≤ 7 ∧ nv = .int .i64 n ∧ Below wo.heap.size wo wr) (fun nv _ => 7 - (intOf nv).toNat)
      case atStart => exact ⟨0, by omega, rfl, Below.refl _ _⟩
      case round =>
        obtain ⟨n, hn, rfl, hb2⟩ := hrel
        by_cases hlt2 : n ≤ 6
        · have vA := lv_a6 _ _ _ _ _ _ (blk_keep hA hb2) n hlt2
          go_wp2_with (first | (go_at_call 10; refine (HDO.out _ _ n hlt2 vA).mono ?_; rintro e u6 ⟨rfl, hb6⟩; replace hb2 := hb2.trans (hb6.mono hb2.size); clear hb6))
          (refine ⟨?_, by simp [intOf]; omega⟩; first | exact ⟨n + 1, by omega, by go_num, hb2⟩ | ((repeat apply Exists.intro); exact ⟨⟨n + 1, by omega, by go_num, hb2⟩, rfl⟩))
        · obtain rfl : n = 7 := by omega
          go_wp2_with fail
          go_ret
          exact ⟨rfl, hZ.trans (hb2.mono hZ.size)⟩

set_option maxRecDepth 100000 in
set_option maxHeartbeats 2000000 in
theorem shapes_ok123 (op form lim : Int) (ti : List Int) (U κ x0 x1 x2 x3 x4 x5 : Nat) (w : World) (hU : IntKind.u64.wrap op = (U : Int)) (hκ : U % 256 = κ) (htl : ti.length ≤ 100) (K : Nat) (hK : needOf ti = K) (p7 : (form != 7) = true) (p8 : (form != 8) = true) (HOF : ∀ W, Calls Try.prog 15 #[.int .i64 (64768 + (κ : Int))] W fun e w' => ∃ (s t : Value) (pl : Bool), e = .returned (.tuple #[.agg #[.int .i64 form, .int .i64 lim, .bool pl, s, t], .bool true]) ∧ w'.ownsRow W.heap.size 3 1 s ti.length (ti.map (Value.int .i64)) ∧ w'.ownsRow W.heap.size 3 1 t ([123] : List Int).length (([123] : List Int).map (Value.int .i64)) ∧ Below W.heap.size W w') (HIS : ∀ W, Calls Try.prog 13 #[.int .i64 (64768 + (κ : Int))] W fun e w' => e = .returned (.bool true) ∧ Below W.heap.size W w') (HDO : ∀ (W : World) (v : Value) (n : Nat), n ≤ 6 → n ≠ K → LView .u64 W v ([(x0 : Int), (x1 : Int), (x2 : Int), (x3 : Int), (x4 : Int), (x5 : Int)].take n) → Calls Try.prog 10 #[.agg #[.int .i64 (64768 + (κ : Int)), .int .i64 1, .int .i64 0, .int .u64 0, .int .u64 0, .slice none 0 0], v] W fun e w' => e = .returned (.tuple #[.slice none 0 0, .int .i64 1]) ∧ Below W.heap.size W w') (HDK : ∀ (W : World) (v : Value), LView .u64 W v ([(x0 : Int), (x1 : Int), (x2 : Int), (x3 : Int), (x4 : Int), (x5 : Int)].take K) → Calls Try.prog 10 #[.agg #[.int .i64 (64768 + (κ : Int)), .int .i64 1, .int .i64 0, .int .u64 0, .int .u64 0, .slice none 0 0], v] W fun e w' => ∃ ad c, e = .returned (.tuple #[.slice ad 2 c, .int .i64 0]) ∧ Below W.heap.size W w') :
    Calls Try.prog 5 #[.int .i64 op, .agg #[.int .u64 (x0 : Nat), .int .u64 (x1 : Nat), .int .u64 (x2 : Nat), .int .u64 (x3 : Nat), .int .u64 (x4 : Nat), .int .u64 (x5 : Nat)]] w fun e w' => e = .returned (.bool true) ∧ Below w.heap.size w w' := by
  replace HOF := Lib.hid HOF
  replace HIS := Lib.hid HIS
  replace HDO := Lib.hid HDO
  replace HDK := Lib.hid HDK
  have HK0 := Lib.hid hK
  clear hK
  have ho1 : 0 < ([123] : List Int).length := by decide
  have ho2 : 0 < 1 := by decide
  have hk2 : κ < 256 := by omega
  have hkk : (U : Int) % 256 = (κ : Int) := by omega
  have hkt : (U : Int).tmod 256 = (κ : Int) := by rw [Int.tmod_eq_emod_of_nonneg (Int.natCast_nonneg _)]; exact hkk
  have h1 : IntKind.i64.wrap (κ : Int) = κ := IntWalk.i64_in _ (by omega)
  have h2 : IntKind.i64.wrap (64768 + (κ : Int)) = 64768 + (κ : Int) := IntWalk.i64_in _ (by omega)
  have h3 : IntKind.u64.wrap (κ : Int) = κ := IntWalk.u64_in _ (by omega)
  go_enter Try.func5, Try.ntmps5
  go_wp2_with (first | (go_at_call 9; refine (awake_k _).mono ?_; rintro e u0 ⟨rfl, hb0⟩; have hA := blk_keep (heap_alloc_new w (.cells #[.int .u64 (x0 : Nat), .int .u64 (x1 : Nat), .int .u64 (x2 : Nat), .int .u64 (x3 : Nat), .int .u64 (x4 : Nat), .int .u64 (x5 : Nat)] 37)) hb0; have hZ := below_new (Below.refl w.heap.size w) (Nat.le_refl _) _ hb0; clear hb0) | (go_at_call 15; refine (HOF.out _).mono ?_; rintro e u1 ⟨s, t, pl, rfl, hss, hst, hb1⟩; replace hA := blk_keep hA hb1; replace hZ := hZ.trans (hb1.mono hZ.size); clear hb1) | ((with_reducible refine store_newk rfl 40 _ _ rfl _ _ rfl rfl (infsize _ _ _ _ _) (five_sz _ _ _ _ _ _ _ _ _ _) (all5 _ _ _ (owns_one hss).1 (owns_one hst).1) ?_); intro u2 hb2 hF lF; replace hA := blk_keep hA hb2; replace hZ := hZ.trans (hb2.mono hZ.size); have vT := (LView.of_own hss).below hb2; have vO := (LView.of_own hst).below hb2; clear hb2 hss hst lF) | ((with_reducible refine load_w ?_ 3 isAgg_int _ rfl _ _ rfl _ _ hF _ rfl ?_); (focus rfl)) | (go_at_call 13; refine (HIS.out _).mono ?_; rintro e u3 ⟨rfl, hb3⟩; replace hA := blk_keep hA hb3; replace hZ := hZ.trans (hb3.mono hZ.size); replace hF := blk_keep hF hb3; replace vT := vT.below hb3; replace vO := vO.below hb3; clear hb3))
  obtain ⟨ad, c, rfl, hc, _⟩ := vT.ex
  go_loopw [8, 9] (fun nv iv wr => ∃ (i m : Nat), i ≤ ti.length ∧ iv = .int .i64 i ∧ nv = .int .i64 m ∧ m ≤ 2 * i ∧ Hid (m = needOf (ti.take i)) ∧ Below u3.heap.size u3 wr) (fun _ iv _ => ti.length - (intOf iv).toNat)
  case atStart => exact ⟨0, 0, Nat.zero_le _, rfl, rfl, Nat.le_refl _, Lib.hid (by simp [needOf]), Below.refl _ _⟩
  case round =>
    obtain ⟨wo, hwo⟩ : ∃ x, x = wr := ⟨_, rfl⟩
    subst hwo
    obtain ⟨i, m, hi, rfl, rfl, hm, HM, hb⟩ := hrel
    have hF1 := blk_keep hF hb
    by_cases hlt : i < ti.length
    · obtain ⟨tb, toff, tc2, te, htc3, htb, htx⟩ := (vT.below hb).get i hlt
      injection te with te1 te2 te3
      subst te1 te3
      obtain ⟨z, hz⟩ : ∃ z, ti[i]? = some z := ⟨_, List.getElem?_eq_getElem hlt⟩
      have hct := htx i z hz
      have HTX := Lib.hid hz
      clear htx hz
      by_cases h123 : z = 123
      · subst h123
        as_aux_lemma =>
          go_wp2_with (first | ((with_reducible refine load_w ?_ 23 isAgg_slint _ rfl _ _ rfl _ _ hF1 _ rfl ?_); (focus rfl)) | ((with_reducible refine ix1_w ?_ 23 size_si under_si _ _ rfl tb toff _ _ rfl _ rfl i rfl hlt ?_); (focus rfl)) | ((with_reducible refine ld1_w ?_ 3 isAgg_int _ rfl _ rfl _ hct ?_); (focus rfl)))
          exact ⟨⟨i + 1, m + 2, by omega, by go_num, by go_num, by omega, Lib.hid (by rw [needOf_step _ _ _ HTX.out, ← HM.out]; rfl), hb⟩, by simp [intOf]; omega⟩
      · have q123 : (z == 123) = false := by simp [h123]
        have H123 := Lib.hid h123
        clear h123
        as_aux_lemma =>
          go_wp2_with (first | ((with_reducible refine load_w ?_ 23 isAgg_slint _ rfl _ _ rfl _ _ hF1 _ rfl ?_); (focus rfl)) | ((with_reducible refine ix1_w ?_ 23 size_si under_si _ _ rfl tb toff _ _ rfl _ rfl i rfl hlt ?_); (focus rfl)) | ((with_reducible refine ld1_w ?_ 3 isAgg_int _ rfl _ rfl _ hct ?_); (focus rfl)))
          exact ⟨⟨i + 1, m + 1, by omega, by go_num, by go_num, by omega, Lib.hid (by rw [needOf_step _ _ _ HTX.out, ← HM.out, if_neg H123.out]), hb⟩, by simp [intOf]; omega⟩
    · obtain rfl : i = ti.length := by omega
      have HM2 : Hid (m = needOf ti) := Lib.hid (by rw [HM.out, List.take_length])
      clear HM
      replace hA := blk_keep hA hb
      replace vO := vO.below hb
      replace hZ := hZ.trans (hb.mono hZ.size)
      clear hb hF
      go_wp2_with (first | ((with_reducible refine load_w ?_ 23 isAgg_slint _ rfl _ _ rfl _ _ hF1 _ rfl ?_); (focus rfl)))
      obtain rfl : m = K := by rw [HM2.out, HK0.out]
      obtain ⟨oad, oc, rfl, _, _⟩ := vO.ex
      go_loopw [10] (fun nv wr => ∃ n : Nat, n ≤ 7 ∧ nv = .int .i64 n ∧ Below wo.heap.size wo wr) (fun nv _ => 7 - (intOf nv).toNat)
      case atStart => exact ⟨0, by omega, rfl, Below.refl _ _⟩
      case round =>
        obtain ⟨n, hn, rfl, hb2⟩ := hrel
        by_cases hlt2 : n ≤ 6
        · have vA := lv_a6 _ _ _ _ _ _ (blk_keep hA hb2) n hlt2
          replace hF1 := blk_keep hF1 hb2
          replace vO := vO.below hb2
          by_cases hk : n = m
          · subst hk
            as_aux_lemma =>
              go_wp2_with (first | (go_at_call 10; refine (HDK.out _ _ vA).mono ?_; rintro e u6 ⟨ad6, c6, rfl, hb6⟩; replace hb2 := hb2.trans (hb6.mono hb2.size); replace hF1 := blk_keep hF1 hb6; replace vO := vO.below hb6; clear hb6; obtain ⟨ob, ooff, oc, oe, hoc, hob, hox⟩ := vO.get 0 ho1; have hco := hox 0 123 rfl; clear hox; injection oe with oe1 oe2 oe3; subst oe1 oe3) | ((with_reducible refine load_w ?_ 23 isAgg_slint _ rfl _ _ rfl _ _ hF1 _ rfl ?_); (focus rfl)) | ((with_reducible refine ix1_w ?_ 23 size_si under_si _ _ rfl ob ooff _ _ rfl _ rfl 0 rfl ho1 ?_); (focus rfl)) | ((with_reducible refine ld1_w ?_ 3 isAgg_int _ rfl _ rfl _ hco ?_); (focus rfl)))
              skip
              (refine ⟨?_, by simp [intOf]; omega⟩; first | exact ⟨n + 1, by omega, by go_num, hb2⟩ | ((repeat apply Exists.intro); exact ⟨⟨n + 1, by omega, by go_num, hb2⟩, rfl⟩))
          · have hne : ((n : Int) != (m : Int)) = true := by simp; omega
            have HK := Lib.hid hk
            clear hk
            as_aux_lemma =>
              go_wp2_with (first | (go_at_call 10; refine (HDO.out _ _ n hlt2 HK.out vA).mono ?_; rintro e u6 ⟨rfl, hb6⟩; replace hb2 := hb2.trans (hb6.mono hb2.size); clear hb6))
              (refine ⟨?_, by simp [intOf]; omega⟩; first | exact ⟨n + 1, by omega, by go_num, hb2⟩ | ((repeat apply Exists.intro); exact ⟨⟨n + 1, by omega, by go_num, hb2⟩, rfl⟩))
        · obtain rfl : n = 7 := by omega
          go_wp2_with fail
          go_ret
          exact ⟨rfl, hZ.trans (hb2.mono hZ.size)⟩

set_option maxRecDepth 100000 in
set_option maxHeartbeats 2000000 in
theorem shapes_ok127 (op form lim : Int) (ti : List Int) (U κ x0 x1 x2 x3 x4 x5 : Nat) (w : World) (hU : IntKind.u64.wrap op = (U : Int)) (hκ : U % 256 = κ) (htl : ti.length ≤ 100) (K : Nat) (hK : needOf ti = K) (p7 : (form != 7) = true) (p8 : (form != 8) = true) (HOF : ∀ W, Calls Try.prog 15 #[.int .i64 (64768 + (κ : Int))] W fun e w' => ∃ (s t : Value) (pl : Bool), e = .returned (.tuple #[.agg #[.int .i64 form, .int .i64 lim, .bool pl, s, t], .bool true]) ∧ w'.ownsRow W.heap.size 3 1 s ti.length (ti.map (Value.int .i64)) ∧ w'.ownsRow W.heap.size 3 1 t ([127] : List Int).length (([127] : List Int).map (Value.int .i64)) ∧ Below W.heap.size W w') (HIS : ∀ W, Calls Try.prog 13 #[.int .i64 (64768 + (κ : Int))] W fun e w' => e = .returned (.bool true) ∧ Below W.heap.size W w') (HDO : ∀ (W : World) (v : Value) (n : Nat), n ≤ 6 → n ≠ K → LView .u64 W v ([(x0 : Int), (x1 : Int), (x2 : Int), (x3 : Int), (x4 : Int), (x5 : Int)].take n) → Calls Try.prog 10 #[.agg #[.int .i64 (64768 + (κ : Int)), .int .i64 1, .int .i64 0, .int .u64 0, .int .u64 0, .slice none 0 0], v] W fun e w' => e = .returned (.tuple #[.slice none 0 0, .int .i64 1]) ∧ Below W.heap.size W w') (HDK : ∀ (W : World) (v : Value), LView .u64 W v ([(x0 : Int), (x1 : Int), (x2 : Int), (x3 : Int), (x4 : Int), (x5 : Int)].take K) → Calls Try.prog 10 #[.agg #[.int .i64 (64768 + (κ : Int)), .int .i64 1, .int .i64 0, .int .u64 0, .int .u64 0, .slice none 0 0], v] W fun e w' => ∃ (b off c r : Nat), e = .returned (.tuple #[.slice (some ⟨b, off, none⟩) 1 c, .int .i64 0]) ∧ r < 4294967296 ∧ w'.cell? ⟨b, off, none⟩ = some (.int .u64 (r : Nat)) ∧ Below W.heap.size W w') :
    Calls Try.prog 5 #[.int .i64 op, .agg #[.int .u64 (x0 : Nat), .int .u64 (x1 : Nat), .int .u64 (x2 : Nat), .int .u64 (x3 : Nat), .int .u64 (x4 : Nat), .int .u64 (x5 : Nat)]] w fun e w' => e = .returned (.bool true) ∧ Below w.heap.size w w' := by
  replace HOF := Lib.hid HOF
  replace HIS := Lib.hid HIS
  replace HDO := Lib.hid HDO
  replace HDK := Lib.hid HDK
  have HK0 := Lib.hid hK
  clear hK
  have ho1 : 0 < ([127] : List Int).length := by decide
  have ho2 : 0 < 1 := by decide
  have hk2 : κ < 256 := by omega
  have hkk : (U : Int) % 256 = (κ : Int) := by omega
  have hkt : (U : Int).tmod 256 = (κ : Int) := by rw [Int.tmod_eq_emod_of_nonneg (Int.natCast_nonneg _)]; exact hkk
  have h1 : IntKind.i64.wrap (κ : Int) = κ := IntWalk.i64_in _ (by omega)
  have h2 : IntKind.i64.wrap (64768 + (κ : Int)) = 64768 + (κ : Int) := IntWalk.i64_in _ (by omega)
  have h3 : IntKind.u64.wrap (κ : Int) = κ := IntWalk.u64_in _ (by omega)
  go_enter Try.func5, Try.ntmps5
  go_wp2_with (first | (go_at_call 9; refine (awake_k _).mono ?_; rintro e u0 ⟨rfl, hb0⟩; have hA := blk_keep (heap_alloc_new w (.cells #[.int .u64 (x0 : Nat), .int .u64 (x1 : Nat), .int .u64 (x2 : Nat), .int .u64 (x3 : Nat), .int .u64 (x4 : Nat), .int .u64 (x5 : Nat)] 37)) hb0; have hZ := below_new (Below.refl w.heap.size w) (Nat.le_refl _) _ hb0; clear hb0) | (go_at_call 15; refine (HOF.out _).mono ?_; rintro e u1 ⟨s, t, pl, rfl, hss, hst, hb1⟩; replace hA := blk_keep hA hb1; replace hZ := hZ.trans (hb1.mono hZ.size); clear hb1) | ((with_reducible refine store_newk rfl 40 _ _ rfl _ _ rfl rfl (infsize _ _ _ _ _) (five_sz _ _ _ _ _ _ _ _ _ _) (all5 _ _ _ (owns_one hss).1 (owns_one hst).1) ?_); intro u2 hb2 hF lF; replace hA := blk_keep hA hb2; replace hZ := hZ.trans (hb2.mono hZ.size); have vT := (LView.of_own hss).below hb2; have vO := (LView.of_own hst).below hb2; clear hb2 hss hst lF) | ((with_reducible refine load_w ?_ 3 isAgg_int _ rfl _ _ rfl _ _ hF _ rfl ?_); (focus rfl)) | (go_at_call 13; refine (HIS.out _).mono ?_; rintro e u3 ⟨rfl, hb3⟩; replace hA := blk_keep hA hb3; replace hZ := hZ.trans (hb3.mono hZ.size); replace hF := blk_keep hF hb3; replace vT := vT.below hb3; replace vO := vO.below hb3; clear hb3))
  obtain ⟨ad, c, rfl, hc, _⟩ := vT.ex
  go_loopw [8, 9] (fun nv iv wr => ∃ (i m : Nat), i ≤ ti.length ∧ iv = .int .i64 i ∧ nv = .int .i64 m ∧ m ≤ 2 * i ∧ Hid (m = needOf (ti.take i)) ∧ Below u3.heap.size u3 wr) (fun _ iv _ => ti.length - (intOf iv).toNat)
  case atStart => exact ⟨0, 0, Nat.zero_le _, rfl, rfl, Nat.le_refl _, Lib.hid (by simp [needOf]), Below.refl _ _⟩
  case round =>
    obtain ⟨wo, hwo⟩ : ∃ x, x = wr := ⟨_, rfl⟩
    subst hwo
    obtain ⟨i, m, hi, rfl, rfl, hm, HM, hb⟩ := hrel
    have hF1 := blk_keep hF hb
    by_cases hlt : i < ti.length
    · obtain ⟨tb, toff, tc2, te, htc3, htb, htx⟩ := (vT.below hb).get i hlt
      injection te with te1 te2 te3
      subst te1 te3
      obtain ⟨z, hz⟩ : ∃ z, ti[i]? = some z := ⟨_, List.getElem?_eq_getElem hlt⟩
      have hct := htx i z hz
      have HTX := Lib.hid hz
      clear htx hz
      by_cases h123 : z = 123
      · subst h123
        as_aux_lemma =>
          go_wp2_with (first | ((with_reducible refine load_w ?_ 23 isAgg_slint _ rfl _ _ rfl _ _ hF1 _ rfl ?_); (focus rfl)) | ((with_reducible refine ix1_w ?_ 23 size_si under_si _ _ rfl tb toff _ _ rfl _ rfl i rfl hlt ?_); (focus rfl)) | ((with_reducible refine ld1_w ?_ 3 isAgg_int _ rfl _ rfl _ hct ?_); (focus rfl)))
          exact ⟨⟨i + 1, m + 2, by omega, by go_num, by go_num, by omega, Lib.hid (by rw [needOf_step _ _ _ HTX.out, ← HM.out]; rfl), hb⟩, by simp [intOf]; omega⟩
      · have q123 : (z == 123) = false := by simp [h123]
        have H123 := Lib.hid h123
        clear h123
        as_aux_lemma =>
          go_wp2_with (first | ((with_reducible refine load_w ?_ 23 isAgg_slint _ rfl _ _ rfl _ _ hF1 _ rfl ?_); (focus rfl)) | ((with_reducible refine ix1_w ?_ 23 size_si under_si _ _ rfl tb toff _ _ rfl _ rfl i rfl hlt ?_); (focus rfl)) | ((with_reducible refine ld1_w ?_ 3 isAgg_int _ rfl _ rfl _ hct ?_); (focus rfl)))
          exact ⟨⟨i + 1, m + 1, by omega, by go_num, by go_num, by omega, Lib.hid (by rw [needOf_step _ _ _ HTX.out, ← HM.out, if_neg H123.out]), hb⟩, by simp [intOf]; omega⟩
    · obtain rfl : i = ti.length := by omega
      have HM2 : Hid (m = needOf ti) := Lib.hid (by rw [HM.out, List.take_length])
      clear HM
      replace hA := blk_keep hA hb
      replace vO := vO.below hb
      replace hZ := hZ.trans (hb.mono hZ.size)
      clear hb hF
      go_wp2_with (first | ((with_reducible refine load_w ?_ 23 isAgg_slint _ rfl _ _ rfl _ _ hF1 _ rfl ?_); (focus rfl)))
      obtain rfl : m = K := by rw [HM2.out, HK0.out]
      obtain ⟨oad, oc, rfl, _, _⟩ := vO.ex
      go_loopw [10] (fun nv wr => ∃ n : Nat, n ≤ 7 ∧ nv = .int .i64 n ∧ Below wo.heap.size wo wr) (fun nv _ => 7 - (intOf nv).toNat)
      case atStart => exact ⟨0, by omega, rfl, Below.refl _ _⟩
      case round =>
        obtain ⟨n, hn, rfl, hb2⟩ := hrel
        by_cases hlt2 : n ≤ 6
        · have vA := lv_a6 _ _ _ _ _ _ (blk_keep hA hb2) n hlt2
          replace hF1 := blk_keep hF1 hb2
          replace vO := vO.below hb2
          by_cases hk : n = m
          · subst hk
            as_aux_lemma =>
              go_wp2_with (first | (go_at_call 10; refine (HDK.out _ _ vA).mono ?_; rintro e u6 ⟨ob6, of6, c6, r, rfl, hr, hcr, hb6⟩; replace hb2 := hb2.trans (hb6.mono hb2.size); replace hF1 := blk_keep hF1 hb6; replace vO := vO.below hb6; clear hb6; obtain ⟨ob, ooff, oc, oe, hoc, hob, hox⟩ := vO.get 0 ho1; have hco := hox 0 127 rfl; clear hox; injection oe with oe1 oe2 oe3; subst oe1 oe3) | ((with_reducible refine load_w ?_ 23 isAgg_slint _ rfl _ _ rfl _ _ hF1 _ rfl ?_); (focus rfl)) | ((with_reducible refine ix1_w ?_ 23 size_si under_si _ _ rfl ob ooff _ _ rfl _ rfl 0 rfl ho1 ?_); (focus rfl)) | ((with_reducible refine ld1_w ?_ 3 isAgg_int _ rfl _ rfl _ hco ?_); (focus rfl)) | ((with_reducible refine ix1_w ?_ 26 size_su under_su _ _ rfl ob6 of6 _ _ rfl _ rfl 0 rfl ho2 ?_); (focus rfl)) | ((with_reducible refine ld1_w ?_ 22 isAgg_u64 _ rfl _ rfl _ hcr ?_); (focus rfl)))
              skip
              (refine ⟨?_, by simp [intOf]; omega⟩; first | exact ⟨n + 1, by omega, by go_num, hb2⟩ | ((repeat apply Exists.intro); exact ⟨⟨n + 1, by omega, by go_num, hb2⟩, rfl⟩))
          · have hne : ((n : Int) != (m : Int)) = true := by simp; omega
            have HK := Lib.hid hk
            clear hk
            as_aux_lemma =>
              go_wp2_with (first | (go_at_call 10; refine (HDO.out _ _ n hlt2 HK.out vA).mono ?_; rintro e u6 ⟨rfl, hb6⟩; replace hb2 := hb2.trans (hb6.mono hb2.size); clear hb6))
              (refine ⟨?_, by simp [intOf]; omega⟩; first | exact ⟨n + 1, by omega, by go_num, hb2⟩ | ((repeat apply Exists.intro); exact ⟨⟨n + 1, by omega, by go_num, hb2⟩, rfl⟩))
        · obtain rfl : n = 7 := by omega
          go_wp2_with fail
          go_ret
          exact ⟨rfl, hZ.trans (hb2.mono hZ.size)⟩

set_option maxRecDepth 100000 in
set_option maxHeartbeats 2000000 in
theorem shapes_ok126 (op form lim : Int) (ti : List Int) (U κ x0 x1 x2 x3 x4 x5 : Nat) (w : World) (hU : IntKind.u64.wrap op = (U : Int)) (hκ : U % 256 = κ) (htl : ti.length ≤ 100) (K : Nat) (hK : needOf ti = K) (p7 : (form != 7) = true) (p8 : (form != 8) = true) (HOF : ∀ W, Calls Try.prog 15 #[.int .i64 (64768 + (κ : Int))] W fun e w' => ∃ (s t : Value) (pl : Bool), e = .returned (.tuple #[.agg #[.int .i64 form, .int .i64 lim, .bool pl, s, t], .bool true]) ∧ w'.ownsRow W.heap.size 3 1 s ti.length (ti.map (Value.int .i64)) ∧ w'.ownsRow W.heap.size 3 1 t ([126] : List Int).length (([126] : List Int).map (Value.int .i64)) ∧ Below W.heap.size W w') (HIS : ∀ W, Calls Try.prog 13 #[.int .i64 (64768 + (κ : Int))] W fun e w' => e = .returned (.bool true) ∧ Below W.heap.size W w') (HDO : ∀ (W : World) (v : Value) (n : Nat), n ≤ 6 → n ≠ K → LView .u64 W v ([(x0 : Int), (x1 : Int), (x2 : Int), (x3 : Int), (x4 : Int), (x5 : Int)].take n) → Calls Try.prog 10 #[.agg #[.int .i64 (64768 + (κ : Int)), .int .i64 1, .int .i64 0, .int .u64 0, .int .u64 0, .slice none 0 0], v] W fun e w' => e = .returned (.tuple #[.slice none 0 0, .int .i64 1]) ∧ Below W.heap.size W w') (HDK : ∀ (W : World) (v : Value), LView .u64 W v ([(x0 : Int), (x1 : Int), (x2 : Int), (x3 : Int), (x4 : Int), (x5 : Int)].take K) → Calls Try.prog 10 #[.agg #[.int .i64 (64768 + (κ : Int)), .int .i64 1, .int .i64 0, .int .u64 0, .int .u64 0, .slice none 0 0], v] W fun e w' => ∃ ad c, e = .returned (.tuple #[.slice ad 1 c, .int .i64 0]) ∧ Below W.heap.size W w') :
    Calls Try.prog 5 #[.int .i64 op, .agg #[.int .u64 (x0 : Nat), .int .u64 (x1 : Nat), .int .u64 (x2 : Nat), .int .u64 (x3 : Nat), .int .u64 (x4 : Nat), .int .u64 (x5 : Nat)]] w fun e w' => e = .returned (.bool true) ∧ Below w.heap.size w w' := by
  replace HOF := Lib.hid HOF
  replace HIS := Lib.hid HIS
  replace HDO := Lib.hid HDO
  replace HDK := Lib.hid HDK
  have HK0 := Lib.hid hK
  clear hK
  have ho1 : 0 < ([126] : List Int).length := by decide
  have ho2 : 0 < 1 := by decide
  have hk2 : κ < 256 := by omega
  have hkk : (U : Int) % 256 = (κ : Int) := by omega
  have hkt : (U : Int).tmod 256 = (κ : Int) := by rw [Int.tmod_eq_emod_of_nonneg (Int.natCast_nonneg _)]; exact hkk
  have h1 : IntKind.i64.wrap (κ : Int) = κ := IntWalk.i64_in _ (by omega)
  have h2 : IntKind.i64.wrap (64768 + (κ : Int)) = 64768 + (κ : Int) := IntWalk.i64_in _ (by omega)
  have h3 : IntKind.u64.wrap (κ : Int) = κ := IntWalk.u64_in _ (by omega)
  go_enter Try.func5, Try.ntmps5
  go_wp2_with (first | (go_at_call 9; refine (awake_k _).mono ?_; rintro e u0 ⟨rfl, hb0⟩; have hA := blk_keep (heap_alloc_new w (.cells #[.int .u64 (x0 : Nat), .int .u64 (x1 : Nat), .int .u64 (x2 : Nat), .int .u64 (x3 : Nat), .int .u64 (x4 : Nat), .int .u64 (x5 : Nat)] 37)) hb0; have hZ := below_new (Below.refl w.heap.size w) (Nat.le_refl _) _ hb0; clear hb0) | (go_at_call 15; refine (HOF.out _).mono ?_; rintro e u1 ⟨s, t, pl, rfl, hss, hst, hb1⟩; replace hA := blk_keep hA hb1; replace hZ := hZ.trans (hb1.mono hZ.size); clear hb1) | ((with_reducible refine store_newk rfl 40 _ _ rfl _ _ rfl rfl (infsize _ _ _ _ _) (five_sz _ _ _ _ _ _ _ _ _ _) (all5 _ _ _ (owns_one hss).1 (owns_one hst).1) ?_); intro u2 hb2 hF lF; replace hA := blk_keep hA hb2; replace hZ := hZ.trans (hb2.mono hZ.size); have vT := (LView.of_own hss).below hb2; have vO := (LView.of_own hst).below hb2; clear hb2 hss hst lF) | ((with_reducible refine load_w ?_ 3 isAgg_int _ rfl _ _ rfl _ _ hF _ rfl ?_); (focus rfl)) | (go_at_call 13; refine (HIS.out _).mono ?_; rintro e u3 ⟨rfl, hb3⟩; replace hA := blk_keep hA hb3; replace hZ := hZ.trans (hb3.mono hZ.size); replace hF := blk_keep hF hb3; replace vT := vT.below hb3; replace vO := vO.below hb3; clear hb3))
  obtain ⟨ad, c, rfl, hc, _⟩ := vT.ex
  go_loopw [8, 9] (fun nv iv wr => ∃ (i m : Nat), i ≤ ti.length ∧ iv = .int .i64 i ∧ nv = .int .i64 m ∧ m ≤ 2 * i ∧ Hid (m = needOf (ti.take i)) ∧ Below u3.heap.size u3 wr) (fun _ iv _ => ti.length - (intOf iv).toNat)
  case atStart => exact ⟨0, 0, Nat.zero_le _, rfl, rfl, Nat.le_refl _, Lib.hid (by simp [needOf]), Below.refl _ _⟩
  case round =>
    obtain ⟨wo, hwo⟩ : ∃ x, x = wr := ⟨_, rfl⟩
    subst hwo
    obtain ⟨i, m, hi, rfl, rfl, hm, HM, hb⟩ := hrel
    have hF1 := blk_keep hF hb
    by_cases hlt : i < ti.length
    · obtain ⟨tb, toff, tc2, te, htc3, htb, htx⟩ := (vT.below hb).get i hlt
      injection te with te1 te2 te3
      subst te1 te3
      obtain ⟨z, hz⟩ : ∃ z, ti[i]? = some z := ⟨_, List.getElem?_eq_getElem hlt⟩
      have hct := htx i z hz
      have HTX := Lib.hid hz
      clear htx hz
      by_cases h123 : z = 123
      · subst h123
        as_aux_lemma =>
          go_wp2_with (first | ((with_reducible refine load_w ?_ 23 isAgg_slint _ rfl _ _ rfl _ _ hF1 _ rfl ?_); (focus rfl)) | ((with_reducible refine ix1_w ?_ 23 size_si under_si _ _ rfl tb toff _ _ rfl _ rfl i rfl hlt ?_); (focus rfl)) | ((with_reducible refine ld1_w ?_ 3 isAgg_int _ rfl _ rfl _ hct ?_); (focus rfl)))
          exact ⟨⟨i + 1, m + 2, by omega, by go_num, by go_num, by omega, Lib.hid (by rw [needOf_step _ _ _ HTX.out, ← HM.out]; rfl), hb⟩, by simp [intOf]; omega⟩
      · have q123 : (z == 123) = false := by simp [h123]
        have H123 := Lib.hid h123
        clear h123
        as_aux_lemma =>
          go_wp2_with (first | ((with_reducible refine load_w ?_ 23 isAgg_slint _ rfl _ _ rfl _ _ hF1 _ rfl ?_); (focus rfl)) | ((with_reducible refine ix1_w ?_ 23 size_si under_si _ _ rfl tb toff _ _ rfl _ rfl i rfl hlt ?_); (focus rfl)) | ((with_reducible refine ld1_w ?_ 3 isAgg_int _ rfl _ rfl _ hct ?_); (focus rfl)))
          exact ⟨⟨i + 1, m + 1, by omega, by go_num, by go_num, by omega, Lib.hid (by rw [needOf_step _ _ _ HTX.out, ← HM.out, if_neg H123.out]), hb⟩, by simp [intOf]; omega⟩
    · obtain rfl : i = ti.length := by omega
      have HM2 : Hid (m = needOf ti) := Lib.hid (by rw [HM.out, List.take_length])
      clear HM
      replace hA := blk_keep hA hb
      replace vO := vO.below hb
      replace hZ := hZ.trans (hb.mono hZ.size)
      clear hb hF
      go_wp2_with (first | ((with_reducible refine load_w ?_ 23 isAgg_slint _ rfl _ _ rfl _ _ hF1 _ rfl ?_); (focus rfl)))
      obtain rfl : m = K := by rw [HM2.out, HK0.out]
      obtain ⟨oad, oc, rfl, _, _⟩ := vO.ex
      go_loopw [10] (fun nv wr => ∃ n : Nat, n ≤ 7 ∧ nv = .int .i64 n ∧ Below wo.heap.size wo wr) (fun nv _ => 7 - (intOf nv).toNat)
      case atStart => exact ⟨0, by omega, rfl, Below.refl _ _⟩
      case round =>
        obtain ⟨n, hn, rfl, hb2⟩ := hrel
        by_cases hlt2 : n ≤ 6
        · have vA := lv_a6 _ _ _ _ _ _ (blk_keep hA hb2) n hlt2
          replace hF1 := blk_keep hF1 hb2
          replace vO := vO.below hb2
          by_cases hk : n = m
          · subst hk
            as_aux_lemma =>
              go_wp2_with (first | (go_at_call 10; refine (HDK.out _ _ vA).mono ?_; rintro e u6 ⟨ad6, c6, rfl, hb6⟩; replace hb2 := hb2.trans (hb6.mono hb2.size); replace hF1 := blk_keep hF1 hb6; replace vO := vO.below hb6; clear hb6; obtain ⟨ob, ooff, oc, oe, hoc, hob, hox⟩ := vO.get 0 ho1; have hco := hox 0 126 rfl; clear hox; injection oe with oe1 oe2 oe3; subst oe1 oe3) | ((with_reducible refine load_w ?_ 23 isAgg_slint _ rfl _ _ rfl _ _ hF1 _ rfl ?_); (focus rfl)) | ((with_reducible refine ix1_w ?_ 23 size_si under_si _ _ rfl ob ooff _ _ rfl _ rfl 0 rfl ho1 ?_); (focus rfl)) | ((with_reducible refine ld1_w ?_ 3 isAgg_int _ rfl _ rfl _ hco ?_); (focus rfl)))
              skip
              (refine ⟨?_, by simp [intOf]; omega⟩; first | exact ⟨n + 1, by omega, by go_num, hb2⟩ | ((repeat apply Exists.intro); exact ⟨⟨n + 1, by omega, by go_num, hb2⟩, rfl⟩))
          · have hne : ((n : Int) != (m : Int)) = true := by simp; omega
            have HK := Lib.hid hk
            clear hk
            as_aux_lemma =>
              go_wp2_with (first | (go_at_call 10; refine (HDO.out _ _ n hlt2 HK.out vA).mono ?_; rintro e u6 ⟨rfl, hb6⟩; replace hb2 := hb2.trans (hb6.mono hb2.size); clear hb6))
              (refine ⟨?_, by simp [intOf]; omega⟩; first | exact ⟨n + 1, by omega, by go_num, hb2⟩ | ((repeat apply Exists.intro); exact ⟨⟨n + 1, by omega, by go_num, hb2⟩, rfl⟩))
        · obtain rfl : n = 7 := by omega
          go_wp2_with fail
          go_ret
          exact ⟨rfl, hZ.trans (hb2.mono hZ.size)⟩

end Go.Proofs.Ytcpfabkokgiepaa
