/-
  The walk of plaitlaw10.MemoryGrows.
-/
import Derived.Test.YtlcndenbnokcjaaMemW
set_option linter.unusedSimpArgs false
set_option linter.unusedVariables false
namespace Go.Proofs.Ytlcndenbnokcjaa
open Go.RowKit Pl

theorem grow_okz (o : MObj) (w : World) (h : MemAt w o) (x : Int) (K : Nat) (Z : Int) (hZ : (K : Int) = Z) (hx : 0 ≤ x ∧ x < 4294967296) (hK : o.n = 65536 * K) (hn : x + (K : Int) ≤ ceilOf o.most) :
    Calls Try.prog 18 #[.pointer (some ⟨o.p, 0, none⟩), .int .u32 x] w fun e w' => e = .returned (.int .u32 Z) ∧ ∃ q1 c1, MemAt w' (grownO o q1 c1 x.toNat) ∧ Keep o.has w w' ∧ (q1 = o.q ∨ ∃ b, q1 = some b ∧ w.heap.size ≤ b) := by
  subst hZ
  obtain ⟨y, rfl⟩ := Int.eq_ofNat_of_zero_le hx.1
  have hd : o.n / 65536 = K := by rw [hK, Nat.mul_div_cancel_left _ (by decide)]
  have := grow_ok o w h y (by omega) (by rw [hd]; exact hn)
  rw [hd] at this
  exact this
theorem grow_noz (o : MObj) (w : World) (h : MemAt w o) (x : Int) (K : Nat) (hx : 0 ≤ x ∧ x < 4294967296) (hK : o.n = 65536 * K) (hn : ¬ x + (K : Int) ≤ ceilOf o.most) :
    Calls Try.prog 18 #[.pointer (some ⟨o.p, 0, none⟩), .int .u32 x] w fun e w' => e = .returned (.int .u32 4294967295) ∧ w' = w := by
  obtain ⟨y, rfl⟩ := Int.eq_ofNat_of_zero_le hx.1
  have hd : o.n / 65536 = K := by rw [hK, Nat.mul_div_cancel_left _ (by decide)]
  exact grow_no o w h y (by omega) (by rw [hd]; exact hn)
theorem loadN_zero (γ : Nat → Nat) (s : Nat) : ∀ k, (∀ i, i < k → γ (s + i) = 0) → loadN γ s k = 0
  | 0, _ => rfl
  | k + 1, h => by rw [loadN, loadN_zero γ s k (fun i hi => h i (by omega)), h k (by omega)]; simp
set_option maxRecDepth 100000 in
theorem grows_bad (l m : Int) (x : Value) (w : World) (hl : -9223372036854775808 ≤ l ∧ l ≤ 9223372036854775807) (hm : -9223372036854775808 ≤ m ∧ m ≤ 9223372036854775807) (he : ¬ newE l m = 0) :
    Calls Try.prog 4 #[.int .i64 l, .int .i64 m, x] w fun e w' => e = .returned (.bool true) ∧ Below w.heap.size w w' := by
  have N1 := Lib.hid (fun W => new_err l m W hl hm he)
  have hne : (newE l m != 0) = true := by simpa using he
  generalize newE l m = E at *
  clear he
  go_enter Try.func4, Try.ntmps4
  go_wp2_with (go_at_call 12; (with_reducible refine (awake10 _).mono ?_); rintro e u ⟨rfl, hb⟩)
  refine (N1.out _).mono ?_
  rintro e u1 ⟨rfl, rfl⟩
  go_wp2_with fail
  go_ret
  exact ⟨rfl, hb⟩


set_option maxHeartbeats 2000000 in
set_option maxRecDepth 100000 in
theorem grows_a_no (K x : Nat) (most : Int) (w : World) (hK : K ≤ 16) (hx : x < 4294967296) (h0 : 0 ≤ most) (h1 : most < 16) (h2 : (K : Int) ≤ most) (hin : ¬ (x : Int) + K ≤ most) :
    Calls Try.prog 4 #[.int .i64 (K : Nat), .int .i64 most, .int .u32 (x : Nat)] w fun e w' => e = .returned (.bool true) ∧ Below w.heap.size w w' := by
  have hce : ceilOf most = most := by unfold ceilOf; rw [if_pos h0]; exact Int.min_eq_right (by omega)
  have hN := fun W => new_ok K most W hK (.inr ⟨h2, by omega⟩)
  have HN := Lib.hid hN
  have HC := Lib.hid hce
  clear hN hce
  go_enter Try.func4, Try.ntmps4
  go_wp2_with (go_at_call 12; (with_reducible refine (awake10 _).mono ?_); rintro e u ⟨rfl, hb⟩)
  refine (HN.out _).mono ?_
  rintro e u1 ⟨m0, rfl, hf⟩
  have hs : MS w [m0] u1 := ((MS.start w).below hb).fresh hf
  have hn0 := hf.hn
  have hm0 : ceilOf m0.most = most := by rw [hf.hmost]; exact HC.out
  replace hm0 := Lib.hid hm0
  clear hb hf HN HC
  go_wp2_with fail
  go_loopw [9] (fun iv wr => ∃ j : Nat, j ≤ K ∧ iv = .int .i64 (j : Int) ∧ ∃ β, MS w [withβ m0 β] wr ∧ ∀ i, i < j → β (65537 * i) = i + 1) (fun iv _ => ((K : Int) - intOf iv).toNat)
  case atStart => exact ⟨0, by omega, rfl, m0.β, hs, fun i hi => by omega⟩
  case round =>
    clear hs
    obtain ⟨j, hj, rfl, β, hs, hβ⟩ := hrel
    by_cases hjl : j < K
    · have hlt : decide ((j : Int) < (K : Int)) = true := decide_eq_true (by omega)
      go_wp2_with fail
      refine (store_z (withβ m0 β) wr (hs.get 0 rfl) _ 1 _ 0 (storeN β (65537 * j) (j + 1) 1) (by omega) (by decide) (by omega) (by show mayE m0.n _ 1 = 0; rw [hn0]; unfold mayE; rw [if_pos (by decide), if_pos (by omega)]) (by unfold storeB; rw [if_pos (by show mayE m0.n _ 1 = 0; rw [hn0]; unfold mayE; rw [if_pos (by decide), if_pos (by omega)])]; congr 1 <;> omega)).mono ?_
      rintro e u2 ⟨rfl, hm, hk⟩
      replace hs : MS w [withβ m0 (storeN β (65537 * j) (j + 1) 1)] u2 := hs.stored 0 rfl hk hm
      clear hm hk
      go_wp2_with fail
      refine ⟨⟨j + 1, by omega, by go_num, _, hs, fun i hi => ?_⟩, by simp only [intOf]; omega⟩
      rw [storeN_get]
      by_cases e : i = j
      · subst e
        rw [if_pos (by omega), Nat.sub_self, Nat.mul_zero, Nat.pow_zero, Nat.div_one, Nat.mod_eq_of_lt (by omega)]
      · rw [if_neg (by omega)]
        exact hβ i (by omega)
    · obtain rfl : j = K := by omega
      clear hjl
      have hlt : decide ((j : Int) < (j : Int)) = false := decide_eq_false (by omega)
      go_wp2_with fail
      refine (grow_noz (withβ m0 β) _ (hs.get 0 rfl) (x : Nat) j (by omega) hn0 (by show ¬ _ ≤ ceilOf m0.most; rw [hm0.out]; omega)).mono ?_
      rintro e u2 ⟨rfl, rfl⟩
      go_wp2_with fail
      refine (pages_z (withβ m0 β) _ (hs.get 0 rfl) (j : Nat) (by show ((m0.n / 65536 : Nat) : Int) = _; rw [hn0, Nat.mul_div_cancel_left _ (by decide)])).mono ?_
      rintro e u3 ⟨rfl, rfl⟩
      go_wp2_with fail
      go_ret
      exact ⟨rfl, hs.bel⟩


set_option maxHeartbeats 2000000 in
set_option maxRecDepth 100000 in
theorem grows_a_in (K x : Nat) (most : Int) (w : World) (hK : K ≤ 16) (hx : x < 4294967296) (h0 : 0 ≤ most) (h1 : most < 16) (h2 : (K : Int) ≤ most) (hin : (x : Int) + K ≤ most) :
    Calls Try.prog 4 #[.int .i64 (K : Nat), .int .i64 most, .int .u32 (x : Nat)] w fun e w' => e = .returned (.bool true) ∧ Below w.heap.size w w' := by
  have hce : ceilOf most = most := by unfold ceilOf; rw [if_pos h0]; exact Int.min_eq_right (by omega)
  have hN := fun W => new_ok K most W hK (.inr ⟨h2, by omega⟩)
  have HN := Lib.hid hN
  have HC := Lib.hid hce
  clear hN hce
  go_enter Try.func4, Try.ntmps4
  go_wp2_with (go_at_call 12; (with_reducible refine (awake10 _).mono ?_); rintro e u ⟨rfl, hb⟩)
  refine (HN.out _).mono ?_
  rintro e u1 ⟨m0, rfl, hf⟩
  have hs : MS w [m0] u1 := ((MS.start w).below hb).fresh hf
  have hn0 := hf.hn
  have hm0 : ceilOf m0.most = most := by rw [hf.hmost]; exact HC.out
  replace hm0 := Lib.hid hm0
  clear hb hf HN HC
  go_wp2_with fail
  go_loopw [9] (fun iv wr => ∃ j : Nat, j ≤ K ∧ iv = .int .i64 (j : Int) ∧ ∃ β, MS w [withβ m0 β] wr ∧ ∀ i, i < j → β (65537 * i) = i + 1) (fun iv _ => ((K : Int) - intOf iv).toNat)
  case atStart => exact ⟨0, by omega, rfl, m0.β, hs, fun i hi => by omega⟩
  case round =>
    clear hs
    obtain ⟨j, hj, rfl, β, hs, hβ⟩ := hrel
    by_cases hjl : j < K
    · have hlt : decide ((j : Int) < (K : Int)) = true := decide_eq_true (by omega)
      go_wp2_with fail
      refine (store_z (withβ m0 β) wr (hs.get 0 rfl) _ 1 _ 0 (storeN β (65537 * j) (j + 1) 1) (by omega) (by decide) (by omega) (by show mayE m0.n _ 1 = 0; rw [hn0]; unfold mayE; rw [if_pos (by decide), if_pos (by omega)]) (by unfold storeB; rw [if_pos (by show mayE m0.n _ 1 = 0; rw [hn0]; unfold mayE; rw [if_pos (by decide), if_pos (by omega)])]; congr 1 <;> omega)).mono ?_
      rintro e u2 ⟨rfl, hm, hk⟩
      replace hs : MS w [withβ m0 (storeN β (65537 * j) (j + 1) 1)] u2 := hs.stored 0 rfl hk hm
      clear hm hk
      go_wp2_with fail
      refine ⟨⟨j + 1, by omega, by go_num, _, hs, fun i hi => ?_⟩, by simp only [intOf]; omega⟩
      rw [storeN_get]
      by_cases e : i = j
      · subst e
        rw [if_pos (by omega), Nat.sub_self, Nat.mul_zero, Nat.pow_zero, Nat.div_one, Nat.mod_eq_of_lt (by omega)]
      · rw [if_neg (by omega)]
        exact hβ i (by omega)
    · obtain rfl : j = K := by omega
      clear hjl
      have hlt : decide ((j : Int) < (j : Int)) = false := decide_eq_false (by omega)
      go_wp2_with fail
      refine (grow_okz (withβ m0 β) _ (hs.get 0 rfl) (x : Nat) j _ rfl (by omega) hn0 (by show _ ≤ ceilOf m0.most; rw [hm0.out]; omega)).mono ?_
      rintro e u2 ⟨rfl, q1, c1, hm, hk, hq⟩
      replace hs : MS w [grownO (withβ m0 β) q1 c1 x] u2 := hs.grown 0 rfl hm hk hq
      have hn1 : (grownO (withβ m0 β) q1 c1 x).n = 65536 * (j + x) := by show m0.n + 65536 * x = _; rw [hn0]; omega
      have hm1 : ceilOf (grownO (withβ m0 β) q1 c1 x).most = most := hm0.out
      replace hm1 := Lib.hid hm1
      have hβ1 : ∀ i, i < j → (grownO (withβ m0 β) q1 c1 x).β (65537 * i) = i + 1 := fun i hi => by
        show joinB m0.n β (fun _ => 0) _ = _
        unfold joinB
        rw [hn0, if_pos (by omega), hβ i hi]
      have hz1 : ∀ i, 65536 * j ≤ i → (grownO (withβ m0 β) q1 c1 x).β i = 0 := fun i hi => by
        show joinB m0.n β (fun _ => 0) _ = _
        unfold joinB
        rw [hn0, if_neg (by omega)]
      have hp1 : m0.p = (grownO (withβ m0 β) q1 c1 x).p := rfl
      rw [hp1]
      clear hp1 hm hk hq hn0 hm0 hβ
      generalize grownO (withβ m0 β) q1 c1 x = o1 at *
      go_wp2_with fail
      refine (pages_z o1 _ (hs.get 0 rfl) ((j : Int) + (x : Int)) (by rw [hn1, Nat.mul_div_cancel_left _ (by decide)]; omega)).mono ?_
      rintro e u3 ⟨rfl, rfl⟩
      go_wp2_with fail
      go_loopw [12] (fun iv wr => ∃ i : Nat, i ≤ j ∧ iv = .int .i64 (i : Int) ∧ MS w [o1] wr) (fun iv _ => ((j : Int) - intOf iv).toNat)
      case atStart => exact ⟨0, by omega, rfl, hs⟩
      case round =>
        clear hs
        obtain ⟨i, hi, rfl, hs⟩ := hrel
        by_cases hil : i < j
        · have hlt2 : decide ((i : Int) < (j : Int)) = true := decide_eq_true (by omega)
          go_wp2_with fail
          refine (load_z o1 _ (hs.get 0 rfl) _ 1 0 (i + 1) (by omega) (by decide) (by rw [hn1]; unfold mayE; rw [if_pos (by decide), if_pos (by omega)]) (fun _ => by refine (loadN_one _ _).trans ?_; rw [← hβ1 i hil]; congr 1; omega) (fun h => absurd rfl h)).mono ?_
          rintro e u4 ⟨rfl, rfl⟩
          go_wp2_with fail
          refine ⟨?_, by first | (simp only [intOf]; omega) | (simp [intOf] <;> omega)⟩
          first | exact ⟨i + 1, by omega, by go_num, hs⟩ | ((repeat apply Exists.intro); exact ⟨⟨i + 1, by omega, by go_num, hs⟩, rfl⟩)
        · obtain rfl : i = j := by omega
          clear hil hβ1
          go_wp2_with fail
          go_loopw [15] (fun iv wr => ∃ k : Nat, k ≤ x ∧ iv = .int .i64 ((i : Int) + (k : Int)) ∧ MS w [o1] wr) (fun iv _ => ((i : Int) + (x : Int) - intOf iv).toNat)
          case atStart => exact ⟨0, by omega, by simp, hs⟩
          case round =>
            clear hs
            obtain ⟨k, hk, rfl, hs⟩ := hrel
            go_wp2_with fail
            refine (pages_z o1 _ (hs.get 0 rfl) ((i : Int) + (x : Int)) (by rw [hn1, Nat.mul_div_cancel_left _ (by decide)]; omega)).mono ?_
            rintro e u4 ⟨rfl, rfl⟩
            by_cases hkl : k < x
            · have hlt3 : decide ((i : Int) + (k : Int) < (i : Int) + (x : Int)) = true := decide_eq_true (by omega)
              go_wp2_with fail
              go_loopw [16] (fun iv wr => ∃ m : Nat, m ≤ 8 ∧ iv = .int .i64 (8192 * (m : Int)) ∧ MS w [o1] wr) (fun iv _ => (65536 - intOf iv).toNat)
              case atStart => exact ⟨0, by omega, by simp, hs⟩
              case round =>
                clear hs
                obtain ⟨m, hm, rfl, hs⟩ := hrel
                by_cases hml : m < 8
                · have hlt4 : decide (8192 * (m : Int) < 65536) = true := decide_eq_true (by omega)
                  go_wp2_with fail
                  refine (load_z o1 _ (hs.get 0 rfl) _ 8 0 0 (by omega) (by decide) (by rw [hn1]; unfold mayE; rw [if_pos (by decide), if_pos (by omega)]) (fun _ => loadN_zero _ _ _ fun n hn => hz1 _ (by omega)) (fun h => absurd rfl h)).mono ?_
                  rintro e u5 ⟨rfl, rfl⟩
                  go_wp2_with fail
                  refine ⟨?_, by first | (simp only [intOf]; omega) | (simp [intOf] <;> omega)⟩
                  first | exact ⟨m + 1, by omega, by go_num, hs⟩ | ((repeat apply Exists.intro); exact ⟨⟨m + 1, by omega, by go_num, hs⟩, rfl⟩)
                · obtain rfl : m = 8 := by omega
                  go_wp2_with fail
                  refine ⟨?_, by first | (simp only [intOf]; omega) | (simp [intOf] <;> omega)⟩
                  first | exact ⟨k + 1, by omega, by go_num, hs⟩ | ((repeat apply Exists.intro); exact ⟨⟨k + 1, by omega, by go_num, hs⟩, rfl⟩)
            · obtain rfl : k = x := by omega
              have hlt3 : decide ((i : Int) + (k : Int) < (i : Int) + (k : Int)) = false := decide_eq_false (by omega)
              go_wp2_with fail
              refine (pages_z o1 _ (hs.get 0 rfl) ((i : Int) + (k : Int)) (by rw [hn1, Nat.mul_div_cancel_left _ (by decide)]; omega)).mono ?_
              rintro e u5 ⟨rfl, rfl⟩
              go_wp2_with fail
              refine (load_z o1 _ (hs.get 0 rfl) _ 1 23 0 (by omega) (by decide) (by rw [hn1]; unfold mayE; rw [if_pos (by decide), if_neg (by omega)]) (fun h => absurd h (by decide)) (fun _ => rfl)).mono ?_
              rintro e u6 ⟨rfl, rfl⟩
              go_wp2_with fail
              refine (pages_z o1 _ (hs.get 0 rfl) ((i : Int) + (k : Int)) (by rw [hn1, Nat.mul_div_cancel_left _ (by decide)]; omega)).mono ?_
              rintro e u7 ⟨rfl, rfl⟩
              by_cases hfull : (most : Int) = (i : Int) + (k : Int)
              · have hfb : ((most : Int) == (i : Int) + (k : Int)) = true := by rw [beq_iff_eq]; exact hfull
                go_wp2_with fail
                refine (grow_noz o1 _ (hs.get 0 rfl) 1 (i + k) (by decide) hn1 (by rw [hm1.out]; omega)).mono ?_
                rintro e u8 ⟨rfl, rfl⟩
                go_wp2_with fail
                go_ret
                exact ⟨rfl, hs.bel⟩
              · have hfb : ((most : Int) == (i : Int) + (k : Int)) = false := by rw [beq_eq_false_iff_ne]; exact hfull
                go_wp2_with fail
                refine (pages_z o1 _ (hs.get 0 rfl) ((i : Int) + (k : Int)) (by rw [hn1, Nat.mul_div_cancel_left _ (by decide)]; omega)).mono ?_
                rintro e u8 ⟨rfl, rfl⟩
                go_wp2_with fail
                refine (grow_okz o1 _ (hs.get 0 rfl) _ (i + k) ((i : Int) + (k : Int)) (by omega) (by omega) hn1 (by rw [hm1.out]; omega)).mono ?_
                rintro e u9 ⟨rfl, q2, c2, hm, hk2, hq⟩
                replace hs := hs.grown 0 rfl hm hk2 hq
                go_wp2_with fail
                refine (grow_noz _ _ (hs.get 0 rfl) 1 (most : Int).toNat (by decide) (by show o1.n + 65536 * _ = _; rw [hn1]; omega) (by show ¬ _ ≤ ceilOf o1.most; rw [hm1.out]; omega)).mono ?_
                rintro e u10 ⟨rfl, rfl⟩
                go_wp2_with fail
                go_ret
                exact ⟨rfl, hs.bel⟩


set_option maxHeartbeats 2000000 in
set_option maxRecDepth 100000 in
theorem grows_b_no (K x : Nat) (most : Int) (w : World) (hK : K ≤ 16) (hx : x < 4294967296) (h0 : most = -1) (hin : ¬ (x : Int) + K ≤ 16) :
    Calls Try.prog 4 #[.int .i64 (K : Nat), .int .i64 most, .int .u32 (x : Nat)] w fun e w' => e = .returned (.bool true) ∧ Below w.heap.size w w' := by
  subst h0
  have hce : ceilOf (-1) = 16 := by unfold ceilOf; rfl
  have hN := fun W => new_ok K (-1) W hK (.inl rfl)
  have HN := Lib.hid hN
  have HC := Lib.hid hce
  clear hN hce
  go_enter Try.func4, Try.ntmps4
  go_wp2_with (go_at_call 12; (with_reducible refine (awake10 _).mono ?_); rintro e u ⟨rfl, hb⟩)
  refine (HN.out _).mono ?_
  rintro e u1 ⟨m0, rfl, hf⟩
  have hs : MS w [m0] u1 := ((MS.start w).below hb).fresh hf
  have hn0 := hf.hn
  have hm0 : ceilOf m0.most = 16 := by rw [hf.hmost]; exact HC.out
  replace hm0 := Lib.hid hm0
  clear hb hf HN HC
  go_wp2_with fail
  go_loopw [9] (fun iv wr => ∃ j : Nat, j ≤ K ∧ iv = .int .i64 (j : Int) ∧ ∃ β, MS w [withβ m0 β] wr ∧ ∀ i, i < j → β (65537 * i) = i + 1) (fun iv _ => ((K : Int) - intOf iv).toNat)
  case atStart => exact ⟨0, by omega, rfl, m0.β, hs, fun i hi => by omega⟩
  case round =>
    clear hs
    obtain ⟨j, hj, rfl, β, hs, hβ⟩ := hrel
    by_cases hjl : j < K
    · have hlt : decide ((j : Int) < (K : Int)) = true := decide_eq_true (by omega)
      go_wp2_with fail
      refine (store_z (withβ m0 β) wr (hs.get 0 rfl) _ 1 _ 0 (storeN β (65537 * j) (j + 1) 1) (by omega) (by decide) (by omega) (by show mayE m0.n _ 1 = 0; rw [hn0]; unfold mayE; rw [if_pos (by decide), if_pos (by omega)]) (by unfold storeB; rw [if_pos (by show mayE m0.n _ 1 = 0; rw [hn0]; unfold mayE; rw [if_pos (by decide), if_pos (by omega)])]; congr 1 <;> omega)).mono ?_
      rintro e u2 ⟨rfl, hm, hk⟩
      replace hs : MS w [withβ m0 (storeN β (65537 * j) (j + 1) 1)] u2 := hs.stored 0 rfl hk hm
      clear hm hk
      go_wp2_with fail
      refine ⟨⟨j + 1, by omega, by go_num, _, hs, fun i hi => ?_⟩, by simp only [intOf]; omega⟩
      rw [storeN_get]
      by_cases e : i = j
      · subst e
        rw [if_pos (by omega), Nat.sub_self, Nat.mul_zero, Nat.pow_zero, Nat.div_one, Nat.mod_eq_of_lt (by omega)]
      · rw [if_neg (by omega)]
        exact hβ i (by omega)
    · obtain rfl : j = K := by omega
      clear hjl
      have hlt : decide ((j : Int) < (j : Int)) = false := decide_eq_false (by omega)
      go_wp2_with fail
      refine (grow_noz (withβ m0 β) _ (hs.get 0 rfl) (x : Nat) j (by omega) hn0 (by show ¬ _ ≤ ceilOf m0.most; rw [hm0.out]; omega)).mono ?_
      rintro e u2 ⟨rfl, rfl⟩
      go_wp2_with fail
      refine (pages_z (withβ m0 β) _ (hs.get 0 rfl) (j : Nat) (by show ((m0.n / 65536 : Nat) : Int) = _; rw [hn0, Nat.mul_div_cancel_left _ (by decide)])).mono ?_
      rintro e u3 ⟨rfl, rfl⟩
      go_wp2_with fail
      go_ret
      exact ⟨rfl, hs.bel⟩


set_option maxHeartbeats 2000000 in
set_option maxRecDepth 100000 in
theorem grows_b_in (K x : Nat) (most : Int) (w : World) (hK : K ≤ 16) (hx : x < 4294967296) (h0 : most = -1) (hin : (x : Int) + K ≤ 16) :
    Calls Try.prog 4 #[.int .i64 (K : Nat), .int .i64 most, .int .u32 (x : Nat)] w fun e w' => e = .returned (.bool true) ∧ Below w.heap.size w w' := by
  subst h0
  have hce : ceilOf (-1) = 16 := by unfold ceilOf; rfl
  have hN := fun W => new_ok K (-1) W hK (.inl rfl)
  have HN := Lib.hid hN
  have HC := Lib.hid hce
  clear hN hce
  go_enter Try.func4, Try.ntmps4
  go_wp2_with (go_at_call 12; (with_reducible refine (awake10 _).mono ?_); rintro e u ⟨rfl, hb⟩)
  refine (HN.out _).mono ?_
  rintro e u1 ⟨m0, rfl, hf⟩
  have hs : MS w [m0] u1 := ((MS.start w).below hb).fresh hf
  have hn0 := hf.hn
  have hm0 : ceilOf m0.most = 16 := by rw [hf.hmost]; exact HC.out
  replace hm0 := Lib.hid hm0
  clear hb hf HN HC
  go_wp2_with fail
  go_loopw [9] (fun iv wr => ∃ j : Nat, j ≤ K ∧ iv = .int .i64 (j : Int) ∧ ∃ β, MS w [withβ m0 β] wr ∧ ∀ i, i < j → β (65537 * i) = i + 1) (fun iv _ => ((K : Int) - intOf iv).toNat)
  case atStart => exact ⟨0, by omega, rfl, m0.β, hs, fun i hi => by omega⟩
  case round =>
    clear hs
    obtain ⟨j, hj, rfl, β, hs, hβ⟩ := hrel
    by_cases hjl : j < K
    · have hlt : decide ((j : Int) < (K : Int)) = true := decide_eq_true (by omega)
      go_wp2_with fail
      refine (store_z (withβ m0 β) wr (hs.get 0 rfl) _ 1 _ 0 (storeN β (65537 * j) (j + 1) 1) (by omega) (by decide) (by omega) (by show mayE m0.n _ 1 = 0; rw [hn0]; unfold mayE; rw [if_pos (by decide), if_pos (by omega)]) (by unfold storeB; rw [if_pos (by show mayE m0.n _ 1 = 0; rw [hn0]; unfold mayE; rw [if_pos (by decide), if_pos (by omega)])]; congr 1 <;> omega)).mono ?_
      rintro e u2 ⟨rfl, hm, hk⟩
      replace hs : MS w [withβ m0 (storeN β (65537 * j) (j + 1) 1)] u2 := hs.stored 0 rfl hk hm
      clear hm hk
      go_wp2_with fail
      refine ⟨⟨j + 1, by omega, by go_num, _, hs, fun i hi => ?_⟩, by simp only [intOf]; omega⟩
      rw [storeN_get]
      by_cases e : i = j
      · subst e
        rw [if_pos (by omega), Nat.sub_self, Nat.mul_zero, Nat.pow_zero, Nat.div_one, Nat.mod_eq_of_lt (by omega)]
      · rw [if_neg (by omega)]
        exact hβ i (by omega)
    · obtain rfl : j = K := by omega
      clear hjl
      have hlt : decide ((j : Int) < (j : Int)) = false := decide_eq_false (by omega)
      go_wp2_with fail
      refine (grow_okz (withβ m0 β) _ (hs.get 0 rfl) (x : Nat) j _ rfl (by omega) hn0 (by show _ ≤ ceilOf m0.most; rw [hm0.out]; omega)).mono ?_
      rintro e u2 ⟨rfl, q1, c1, hm, hk, hq⟩
      replace hs : MS w [grownO (withβ m0 β) q1 c1 x] u2 := hs.grown 0 rfl hm hk hq
      have hn1 : (grownO (withβ m0 β) q1 c1 x).n = 65536 * (j + x) := by show m0.n + 65536 * x = _; rw [hn0]; omega
      have hm1 : ceilOf (grownO (withβ m0 β) q1 c1 x).most = 16 := hm0.out
      replace hm1 := Lib.hid hm1
      have hβ1 : ∀ i, i < j → (grownO (withβ m0 β) q1 c1 x).β (65537 * i) = i + 1 := fun i hi => by
        show joinB m0.n β (fun _ => 0) _ = _
        unfold joinB
        rw [hn0, if_pos (by omega), hβ i hi]
      have hz1 : ∀ i, 65536 * j ≤ i → (grownO (withβ m0 β) q1 c1 x).β i = 0 := fun i hi => by
        show joinB m0.n β (fun _ => 0) _ = _
        unfold joinB
        rw [hn0, if_neg (by omega)]
      have hp1 : m0.p = (grownO (withβ m0 β) q1 c1 x).p := rfl
      rw [hp1]
      clear hp1 hm hk hq hn0 hm0 hβ
      generalize grownO (withβ m0 β) q1 c1 x = o1 at *
      go_wp2_with fail
      refine (pages_z o1 _ (hs.get 0 rfl) ((j : Int) + (x : Int)) (by rw [hn1, Nat.mul_div_cancel_left _ (by decide)]; omega)).mono ?_
      rintro e u3 ⟨rfl, rfl⟩
      go_wp2_with fail
      go_loopw [12] (fun iv wr => ∃ i : Nat, i ≤ j ∧ iv = .int .i64 (i : Int) ∧ MS w [o1] wr) (fun iv _ => ((j : Int) - intOf iv).toNat)
      case atStart => exact ⟨0, by omega, rfl, hs⟩
      case round =>
        clear hs
        obtain ⟨i, hi, rfl, hs⟩ := hrel
        by_cases hil : i < j
        · have hlt2 : decide ((i : Int) < (j : Int)) = true := decide_eq_true (by omega)
          go_wp2_with fail
          refine (load_z o1 _ (hs.get 0 rfl) _ 1 0 (i + 1) (by omega) (by decide) (by rw [hn1]; unfold mayE; rw [if_pos (by decide), if_pos (by omega)]) (fun _ => by refine (loadN_one _ _).trans ?_; rw [← hβ1 i hil]; congr 1; omega) (fun h => absurd rfl h)).mono ?_
          rintro e u4 ⟨rfl, rfl⟩
          go_wp2_with fail
          refine ⟨?_, by first | (simp only [intOf]; omega) | (simp [intOf] <;> omega)⟩
          first | exact ⟨i + 1, by omega, by go_num, hs⟩ | ((repeat apply Exists.intro); exact ⟨⟨i + 1, by omega, by go_num, hs⟩, rfl⟩)
        · obtain rfl : i = j := by omega
          clear hil hβ1
          go_wp2_with fail
          go_loopw [15] (fun iv wr => ∃ k : Nat, k ≤ x ∧ iv = .int .i64 ((i : Int) + (k : Int)) ∧ MS w [o1] wr) (fun iv _ => ((i : Int) + (x : Int) - intOf iv).toNat)
          case atStart => exact ⟨0, by omega, by simp, hs⟩
          case round =>
            clear hs
            obtain ⟨k, hk, rfl, hs⟩ := hrel
            go_wp2_with fail
            refine (pages_z o1 _ (hs.get 0 rfl) ((i : Int) + (x : Int)) (by rw [hn1, Nat.mul_div_cancel_left _ (by decide)]; omega)).mono ?_
            rintro e u4 ⟨rfl, rfl⟩
            by_cases hkl : k < x
            · have hlt3 : decide ((i : Int) + (k : Int) < (i : Int) + (x : Int)) = true := decide_eq_true (by omega)
              go_wp2_with fail
              go_loopw [16] (fun iv wr => ∃ m : Nat, m ≤ 8 ∧ iv = .int .i64 (8192 * (m : Int)) ∧ MS w [o1] wr) (fun iv _ => (65536 - intOf iv).toNat)
              case atStart => exact ⟨0, by omega, by simp, hs⟩
              case round =>
                clear hs
                obtain ⟨m, hm, rfl, hs⟩ := hrel
                by_cases hml : m < 8
                · have hlt4 : decide (8192 * (m : Int) < 65536) = true := decide_eq_true (by omega)
                  go_wp2_with fail
                  refine (load_z o1 _ (hs.get 0 rfl) _ 8 0 0 (by omega) (by decide) (by rw [hn1]; unfold mayE; rw [if_pos (by decide), if_pos (by omega)]) (fun _ => loadN_zero _ _ _ fun n hn => hz1 _ (by omega)) (fun h => absurd rfl h)).mono ?_
                  rintro e u5 ⟨rfl, rfl⟩
                  go_wp2_with fail
                  refine ⟨?_, by first | (simp only [intOf]; omega) | (simp [intOf] <;> omega)⟩
                  first | exact ⟨m + 1, by omega, by go_num, hs⟩ | ((repeat apply Exists.intro); exact ⟨⟨m + 1, by omega, by go_num, hs⟩, rfl⟩)
                · obtain rfl : m = 8 := by omega
                  go_wp2_with fail
                  refine ⟨?_, by first | (simp only [intOf]; omega) | (simp [intOf] <;> omega)⟩
                  first | exact ⟨k + 1, by omega, by go_num, hs⟩ | ((repeat apply Exists.intro); exact ⟨⟨k + 1, by omega, by go_num, hs⟩, rfl⟩)
            · obtain rfl : k = x := by omega
              have hlt3 : decide ((i : Int) + (k : Int) < (i : Int) + (k : Int)) = false := decide_eq_false (by omega)
              go_wp2_with fail
              refine (pages_z o1 _ (hs.get 0 rfl) ((i : Int) + (k : Int)) (by rw [hn1, Nat.mul_div_cancel_left _ (by decide)]; omega)).mono ?_
              rintro e u5 ⟨rfl, rfl⟩
              go_wp2_with fail
              refine (load_z o1 _ (hs.get 0 rfl) _ 1 23 0 (by omega) (by decide) (by rw [hn1]; unfold mayE; rw [if_pos (by decide), if_neg (by omega)]) (fun h => absurd h (by decide)) (fun _ => rfl)).mono ?_
              rintro e u6 ⟨rfl, rfl⟩
              go_wp2_with fail
              refine (pages_z o1 _ (hs.get 0 rfl) ((i : Int) + (k : Int)) (by rw [hn1, Nat.mul_div_cancel_left _ (by decide)]; omega)).mono ?_
              rintro e u7 ⟨rfl, rfl⟩
              by_cases hfull : (16 : Int) = (i : Int) + (k : Int)
              · have hfb : ((16 : Int) == (i : Int) + (k : Int)) = true := by rw [beq_iff_eq]; exact hfull
                go_wp2_with fail
                refine (grow_noz o1 _ (hs.get 0 rfl) 1 (i + k) (by decide) hn1 (by rw [hm1.out]; omega)).mono ?_
                rintro e u8 ⟨rfl, rfl⟩
                go_wp2_with fail
                go_ret
                exact ⟨rfl, hs.bel⟩
              · have hfb : ((16 : Int) == (i : Int) + (k : Int)) = false := by rw [beq_eq_false_iff_ne]; exact hfull
                go_wp2_with fail
                refine (pages_z o1 _ (hs.get 0 rfl) ((i : Int) + (k : Int)) (by rw [hn1, Nat.mul_div_cancel_left _ (by decide)]; omega)).mono ?_
                rintro e u8 ⟨rfl, rfl⟩
                go_wp2_with fail
                refine (grow_okz o1 _ (hs.get 0 rfl) _ (i + k) ((i : Int) + (k : Int)) (by omega) (by omega) hn1 (by rw [hm1.out]; omega)).mono ?_
                rintro e u9 ⟨rfl, q2, c2, hm, hk2, hq⟩
                replace hs := hs.grown 0 rfl hm hk2 hq
                go_wp2_with fail
                refine (grow_noz _ _ (hs.get 0 rfl) 1 (16 : Int).toNat (by decide) (by show o1.n + 65536 * _ = _; rw [hn1]; omega) (by show ¬ _ ≤ ceilOf o1.most; rw [hm1.out]; omega)).mono ?_
                rintro e u10 ⟨rfl, rfl⟩
                go_wp2_with fail
                go_ret
                exact ⟨rfl, hs.bel⟩


set_option maxHeartbeats 2000000 in
set_option maxRecDepth 100000 in
theorem grows_c_no (K x : Nat) (most : Int) (w : World) (hK : K ≤ 16) (hx : x < 4294967296) (h0 : 16 ≤ most) (h1 : most ≤ 9223372036854775807) (hin : ¬ (x : Int) + K ≤ 16) :
    Calls Try.prog 4 #[.int .i64 (K : Nat), .int .i64 most, .int .u32 (x : Nat)] w fun e w' => e = .returned (.bool true) ∧ Below w.heap.size w w' := by
  have hce : ceilOf most = 16 := by unfold ceilOf; rw [if_pos (by omega)]; exact Int.min_eq_left h0
  have hN := fun W => new_ok K most W hK (.inr ⟨by omega, h1⟩)
  have HN := Lib.hid hN
  have HC := Lib.hid hce
  clear hN hce
  go_enter Try.func4, Try.ntmps4
  go_wp2_with (go_at_call 12; (with_reducible refine (awake10 _).mono ?_); rintro e u ⟨rfl, hb⟩)
  refine (HN.out _).mono ?_
  rintro e u1 ⟨m0, rfl, hf⟩
  have hs : MS w [m0] u1 := ((MS.start w).below hb).fresh hf
  have hn0 := hf.hn
  have hm0 : ceilOf m0.most = 16 := by rw [hf.hmost]; exact HC.out
  replace hm0 := Lib.hid hm0
  clear hb hf HN HC
  go_wp2_with fail
  go_loopw [9] (fun iv wr => ∃ j : Nat, j ≤ K ∧ iv = .int .i64 (j : Int) ∧ ∃ β, MS w [withβ m0 β] wr ∧ ∀ i, i < j → β (65537 * i) = i + 1) (fun iv _ => ((K : Int) - intOf iv).toNat)
  case atStart => exact ⟨0, by omega, rfl, m0.β, hs, fun i hi => by omega⟩
  case round =>
    clear hs
    obtain ⟨j, hj, rfl, β, hs, hβ⟩ := hrel
    by_cases hjl : j < K
    · have hlt : decide ((j : Int) < (K : Int)) = true := decide_eq_true (by omega)
      go_wp2_with fail
      refine (store_z (withβ m0 β) wr (hs.get 0 rfl) _ 1 _ 0 (storeN β (65537 * j) (j + 1) 1) (by omega) (by decide) (by omega) (by show mayE m0.n _ 1 = 0; rw [hn0]; unfold mayE; rw [if_pos (by decide), if_pos (by omega)]) (by unfold storeB; rw [if_pos (by show mayE m0.n _ 1 = 0; rw [hn0]; unfold mayE; rw [if_pos (by decide), if_pos (by omega)])]; congr 1 <;> omega)).mono ?_
      rintro e u2 ⟨rfl, hm, hk⟩
      replace hs : MS w [withβ m0 (storeN β (65537 * j) (j + 1) 1)] u2 := hs.stored 0 rfl hk hm
      clear hm hk
      go_wp2_with fail
      refine ⟨⟨j + 1, by omega, by go_num, _, hs, fun i hi => ?_⟩, by simp only [intOf]; omega⟩
      rw [storeN_get]
      by_cases e : i = j
      · subst e
        rw [if_pos (by omega), Nat.sub_self, Nat.mul_zero, Nat.pow_zero, Nat.div_one, Nat.mod_eq_of_lt (by omega)]
      · rw [if_neg (by omega)]
        exact hβ i (by omega)
    · obtain rfl : j = K := by omega
      clear hjl
      have hlt : decide ((j : Int) < (j : Int)) = false := decide_eq_false (by omega)
      go_wp2_with fail
      refine (grow_noz (withβ m0 β) _ (hs.get 0 rfl) (x : Nat) j (by omega) hn0 (by show ¬ _ ≤ ceilOf m0.most; rw [hm0.out]; omega)).mono ?_
      rintro e u2 ⟨rfl, rfl⟩
      go_wp2_with fail
      refine (pages_z (withβ m0 β) _ (hs.get 0 rfl) (j : Nat) (by show ((m0.n / 65536 : Nat) : Int) = _; rw [hn0, Nat.mul_div_cancel_left _ (by decide)])).mono ?_
      rintro e u3 ⟨rfl, rfl⟩
      go_wp2_with fail
      go_ret
      exact ⟨rfl, hs.bel⟩


set_option maxHeartbeats 2000000 in
set_option maxRecDepth 100000 in
theorem grows_c_in (K x : Nat) (most : Int) (w : World) (hK : K ≤ 16) (hx : x < 4294967296) (h0 : 16 ≤ most) (h1 : most ≤ 9223372036854775807) (hin : (x : Int) + K ≤ 16) :
    Calls Try.prog 4 #[.int .i64 (K : Nat), .int .i64 most, .int .u32 (x : Nat)] w fun e w' => e = .returned (.bool true) ∧ Below w.heap.size w w' := by
  have hce : ceilOf most = 16 := by unfold ceilOf; rw [if_pos (by omega)]; exact Int.min_eq_left h0
  have hN := fun W => new_ok K most W hK (.inr ⟨by omega, h1⟩)
  have HN := Lib.hid hN
  have HC := Lib.hid hce
  clear hN hce
  go_enter Try.func4, Try.ntmps4
  go_wp2_with (go_at_call 12; (with_reducible refine (awake10 _).mono ?_); rintro e u ⟨rfl, hb⟩)
  refine (HN.out _).mono ?_
  rintro e u1 ⟨m0, rfl, hf⟩
  have hs : MS w [m0] u1 := ((MS.start w).below hb).fresh hf
  have hn0 := hf.hn
  have hm0 : ceilOf m0.most = 16 := by rw [hf.hmost]; exact HC.out
  replace hm0 := Lib.hid hm0
  clear hb hf HN HC
  go_wp2_with fail
  go_loopw [9] (fun iv wr => ∃ j : Nat, j ≤ K ∧ iv = .int .i64 (j : Int) ∧ ∃ β, MS w [withβ m0 β] wr ∧ ∀ i, i < j → β (65537 * i) = i + 1) (fun iv _ => ((K : Int) - intOf iv).toNat)
  case atStart => exact ⟨0, by omega, rfl, m0.β, hs, fun i hi => by omega⟩
  case round =>
    clear hs
    obtain ⟨j, hj, rfl, β, hs, hβ⟩ := hrel
    by_cases hjl : j < K
    · have hlt : decide ((j : Int) < (K : Int)) = true := decide_eq_true (by omega)
      go_wp2_with fail
      refine (store_z (withβ m0 β) wr (hs.get 0 rfl) _ 1 _ 0 (storeN β (65537 * j) (j + 1) 1) (by omega) (by decide) (by omega) (by show mayE m0.n _ 1 = 0; rw [hn0]; unfold mayE; rw [if_pos (by decide), if_pos (by omega)]) (by unfold storeB; rw [if_pos (by show mayE m0.n _ 1 = 0; rw [hn0]; unfold mayE; rw [if_pos (by decide), if_pos (by omega)])]; congr 1 <;> omega)).mono ?_
      rintro e u2 ⟨rfl, hm, hk⟩
      replace hs : MS w [withβ m0 (storeN β (65537 * j) (j + 1) 1)] u2 := hs.stored 0 rfl hk hm
      clear hm hk
      go_wp2_with fail
      refine ⟨⟨j + 1, by omega, by go_num, _, hs, fun i hi => ?_⟩, by simp only [intOf]; omega⟩
      rw [storeN_get]
      by_cases e : i = j
      · subst e
        rw [if_pos (by omega), Nat.sub_self, Nat.mul_zero, Nat.pow_zero, Nat.div_one, Nat.mod_eq_of_lt (by omega)]
      · rw [if_neg (by omega)]
        exact hβ i (by omega)
    · obtain rfl : j = K := by omega
      clear hjl
      have hlt : decide ((j : Int) < (j : Int)) = false := decide_eq_false (by omega)
      go_wp2_with fail
      refine (grow_okz (withβ m0 β) _ (hs.get 0 rfl) (x : Nat) j _ rfl (by omega) hn0 (by show _ ≤ ceilOf m0.most; rw [hm0.out]; omega)).mono ?_
      rintro e u2 ⟨rfl, q1, c1, hm, hk, hq⟩
      replace hs : MS w [grownO (withβ m0 β) q1 c1 x] u2 := hs.grown 0 rfl hm hk hq
      have hn1 : (grownO (withβ m0 β) q1 c1 x).n = 65536 * (j + x) := by show m0.n + 65536 * x = _; rw [hn0]; omega
      have hm1 : ceilOf (grownO (withβ m0 β) q1 c1 x).most = 16 := hm0.out
      replace hm1 := Lib.hid hm1
      have hβ1 : ∀ i, i < j → (grownO (withβ m0 β) q1 c1 x).β (65537 * i) = i + 1 := fun i hi => by
        show joinB m0.n β (fun _ => 0) _ = _
        unfold joinB
        rw [hn0, if_pos (by omega), hβ i hi]
      have hz1 : ∀ i, 65536 * j ≤ i → (grownO (withβ m0 β) q1 c1 x).β i = 0 := fun i hi => by
        show joinB m0.n β (fun _ => 0) _ = _
        unfold joinB
        rw [hn0, if_neg (by omega)]
      have hp1 : m0.p = (grownO (withβ m0 β) q1 c1 x).p := rfl
      rw [hp1]
      clear hp1 hm hk hq hn0 hm0 hβ
      generalize grownO (withβ m0 β) q1 c1 x = o1 at *
      go_wp2_with fail
      refine (pages_z o1 _ (hs.get 0 rfl) ((j : Int) + (x : Int)) (by rw [hn1, Nat.mul_div_cancel_left _ (by decide)]; omega)).mono ?_
      rintro e u3 ⟨rfl, rfl⟩
      go_wp2_with fail
      go_loopw [12] (fun iv wr => ∃ i : Nat, i ≤ j ∧ iv = .int .i64 (i : Int) ∧ MS w [o1] wr) (fun iv _ => ((j : Int) - intOf iv).toNat)
      case atStart => exact ⟨0, by omega, rfl, hs⟩
      case round =>
        clear hs
        obtain ⟨i, hi, rfl, hs⟩ := hrel
        by_cases hil : i < j
        · have hlt2 : decide ((i : Int) < (j : Int)) = true := decide_eq_true (by omega)
          go_wp2_with fail
          refine (load_z o1 _ (hs.get 0 rfl) _ 1 0 (i + 1) (by omega) (by decide) (by rw [hn1]; unfold mayE; rw [if_pos (by decide), if_pos (by omega)]) (fun _ => by refine (loadN_one _ _).trans ?_; rw [← hβ1 i hil]; congr 1; omega) (fun h => absurd rfl h)).mono ?_
          rintro e u4 ⟨rfl, rfl⟩
          go_wp2_with fail
          refine ⟨?_, by first | (simp only [intOf]; omega) | (simp [intOf] <;> omega)⟩
          first | exact ⟨i + 1, by omega, by go_num, hs⟩ | ((repeat apply Exists.intro); exact ⟨⟨i + 1, by omega, by go_num, hs⟩, rfl⟩)
        · obtain rfl : i = j := by omega
          clear hil hβ1
          go_wp2_with fail
          go_loopw [15] (fun iv wr => ∃ k : Nat, k ≤ x ∧ iv = .int .i64 ((i : Int) + (k : Int)) ∧ MS w [o1] wr) (fun iv _ => ((i : Int) + (x : Int) - intOf iv).toNat)
          case atStart => exact ⟨0, by omega, by simp, hs⟩
          case round =>
            clear hs
            obtain ⟨k, hk, rfl, hs⟩ := hrel
            go_wp2_with fail
            refine (pages_z o1 _ (hs.get 0 rfl) ((i : Int) + (x : Int)) (by rw [hn1, Nat.mul_div_cancel_left _ (by decide)]; omega)).mono ?_
            rintro e u4 ⟨rfl, rfl⟩
            by_cases hkl : k < x
            · have hlt3 : decide ((i : Int) + (k : Int) < (i : Int) + (x : Int)) = true := decide_eq_true (by omega)
              go_wp2_with fail
              go_loopw [16] (fun iv wr => ∃ m : Nat, m ≤ 8 ∧ iv = .int .i64 (8192 * (m : Int)) ∧ MS w [o1] wr) (fun iv _ => (65536 - intOf iv).toNat)
              case atStart => exact ⟨0, by omega, by simp, hs⟩
              case round =>
                clear hs
                obtain ⟨m, hm, rfl, hs⟩ := hrel
                by_cases hml : m < 8
                · have hlt4 : decide (8192 * (m : Int) < 65536) = true := decide_eq_true (by omega)
                  go_wp2_with fail
                  refine (load_z o1 _ (hs.get 0 rfl) _ 8 0 0 (by omega) (by decide) (by rw [hn1]; unfold mayE; rw [if_pos (by decide), if_pos (by omega)]) (fun _ => loadN_zero _ _ _ fun n hn => hz1 _ (by omega)) (fun h => absurd rfl h)).mono ?_
                  rintro e u5 ⟨rfl, rfl⟩
                  go_wp2_with fail
                  refine ⟨?_, by first | (simp only [intOf]; omega) | (simp [intOf] <;> omega)⟩
                  first | exact ⟨m + 1, by omega, by go_num, hs⟩ | ((repeat apply Exists.intro); exact ⟨⟨m + 1, by omega, by go_num, hs⟩, rfl⟩)
                · obtain rfl : m = 8 := by omega
                  go_wp2_with fail
                  refine ⟨?_, by first | (simp only [intOf]; omega) | (simp [intOf] <;> omega)⟩
                  first | exact ⟨k + 1, by omega, by go_num, hs⟩ | ((repeat apply Exists.intro); exact ⟨⟨k + 1, by omega, by go_num, hs⟩, rfl⟩)
            · obtain rfl : k = x := by omega
              have hlt3 : decide ((i : Int) + (k : Int) < (i : Int) + (k : Int)) = false := decide_eq_false (by omega)
              go_wp2_with fail
              refine (pages_z o1 _ (hs.get 0 rfl) ((i : Int) + (k : Int)) (by rw [hn1, Nat.mul_div_cancel_left _ (by decide)]; omega)).mono ?_
              rintro e u5 ⟨rfl, rfl⟩
              go_wp2_with fail
              refine (load_z o1 _ (hs.get 0 rfl) _ 1 23 0 (by omega) (by decide) (by rw [hn1]; unfold mayE; rw [if_pos (by decide), if_neg (by omega)]) (fun h => absurd h (by decide)) (fun _ => rfl)).mono ?_
              rintro e u6 ⟨rfl, rfl⟩
              go_wp2_with fail
              refine (pages_z o1 _ (hs.get 0 rfl) ((i : Int) + (k : Int)) (by rw [hn1, Nat.mul_div_cancel_left _ (by decide)]; omega)).mono ?_
              rintro e u7 ⟨rfl, rfl⟩
              by_cases hfull : (16 : Int) = (i : Int) + (k : Int)
              · have hfb : ((16 : Int) == (i : Int) + (k : Int)) = true := by rw [beq_iff_eq]; exact hfull
                go_wp2_with fail
                refine (grow_noz o1 _ (hs.get 0 rfl) 1 (i + k) (by decide) hn1 (by rw [hm1.out]; omega)).mono ?_
                rintro e u8 ⟨rfl, rfl⟩
                go_wp2_with fail
                go_ret
                exact ⟨rfl, hs.bel⟩
              · have hfb : ((16 : Int) == (i : Int) + (k : Int)) = false := by rw [beq_eq_false_iff_ne]; exact hfull
                go_wp2_with fail
                refine (pages_z o1 _ (hs.get 0 rfl) ((i : Int) + (k : Int)) (by rw [hn1, Nat.mul_div_cancel_left _ (by decide)]; omega)).mono ?_
                rintro e u8 ⟨rfl, rfl⟩
                go_wp2_with fail
                refine (grow_okz o1 _ (hs.get 0 rfl) _ (i + k) ((i : Int) + (k : Int)) (by omega) (by omega) hn1 (by rw [hm1.out]; omega)).mono ?_
                rintro e u9 ⟨rfl, q2, c2, hm, hk2, hq⟩
                replace hs := hs.grown 0 rfl hm hk2 hq
                go_wp2_with fail
                refine (grow_noz _ _ (hs.get 0 rfl) 1 (16 : Int).toNat (by decide) (by show o1.n + 65536 * _ = _; rw [hn1]; omega) (by show ¬ _ ≤ ceilOf o1.most; rw [hm1.out]; omega)).mono ?_
                rintro e u10 ⟨rfl, rfl⟩
                go_wp2_with fail
                go_ret
                exact ⟨rfl, hs.bel⟩

theorem grows_walk (l m x : Int) (w : World) (hl : -9223372036854775808 ≤ l ∧ l ≤ 9223372036854775807) (hm : -9223372036854775808 ≤ m ∧ m ≤ 9223372036854775807) (hx : 0 ≤ x ∧ x < 4294967296) :
    Calls Try.prog 4 #[.int .i64 l, .int .i64 m, .int .u32 x] w fun e w' => e = .returned (.bool true) ∧ Below w.heap.size w w' := by
  by_cases he : newE l m = 0
  · have h : 0 ≤ l ∧ l ≤ 16 ∧ -1 ≤ m ∧ (m = -1 ∨ l ≤ m) := by
      unfold newE at he
      split at he
      · cases he
      · split at he
        · cases he
        · omega
    clear he
    obtain ⟨K, rfl⟩ := Int.eq_ofNat_of_zero_le h.1
    obtain ⟨y, rfl⟩ := Int.eq_ofNat_of_zero_le hx.1
    by_cases h0 : m = -1
    · by_cases hin : (y : Int) + K ≤ 16
      · exact grows_b_in K y m w (by omega) (by omega) h0 hin
      · exact grows_b_no K y m w (by omega) (by omega) h0 hin
    · by_cases h1 : m < 16
      · by_cases hin : (y : Int) + K ≤ m
        · exact grows_a_in K y m w (by omega) (by omega) (by omega) h1 (by omega) hin
        · exact grows_a_no K y m w (by omega) (by omega) (by omega) h1 (by omega) hin
      · by_cases hin : (y : Int) + K ≤ 16
        · exact grows_c_in K y m w (by omega) (by omega) (by omega) hm.2 hin
        · exact grows_c_no K y m w (by omega) (by omega) (by omega) hm.2 hin
  · exact grows_bad l m _ w hl hm he

end Go.Proofs.Ytlcndenbnokcjaa
