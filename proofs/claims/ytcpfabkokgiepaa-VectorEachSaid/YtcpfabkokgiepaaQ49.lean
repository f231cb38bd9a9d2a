/-
  Text CmpR2, CmpR3.
-/
import Derived.Test.YtcpfabkokgiepaaQ25
set_option linter.unusedSimpArgs false
set_option linter.unusedVariables false
set_option maxHeartbeats 8000000
open Pl
namespace Pl
open Go Go.RowKit
theorem qYEqc {p : Prop} (h : p := by
 first | exact ⟨i + 1, by omega, by go_num, hs.eqX HE2.out⟩ | ((repeat apply Exists.intro); exact ⟨⟨i + 1, by omega, by go_num, hs.eqX HE2.out⟩, rfl⟩)) : p := h
theorem n8Eqc {p : Prop} (h : p := by
 clear hs
 obtain ⟨rfl, hs⟩ := hrel
 go_wp2_with fail
 go_roundw
 case rel => exact qYEqc
 case measure => exact xL) : p := h
end Pl
section
namespace Go.Proofs.Ytcpfabkokgiepaa
open Go.RowKit Pl
set_option maxRecDepth 100000 in
theorem rcmp_row2 (c : Nat) (hc : c < 10) (a b : Vec) (w : World) :
 Calls Try.prog 80 #[.int .i64 (64823 + (c : Int)), .agg (mY a), .agg (mY b)] w fun e w' => e = .returned (.tuple #[.agg (mY (CV 32 c a b)), .int .i64 0]) ∧ Below w.heap.size w w' := by
 have e1 : IntKind.i64.wrap (64823 + (c : Int) - 64768) = 55 + (c : Int) := by rw [IntWalk.i64_in _ (by omega)]; omega
 go_enter Try.func80, Try.ntmps80
 go_wp2_with fail
 rw [← mU]
 obtain ⟨W0, hW⟩ : ∃ W0, W0 = ((w.alloc (.cells (mY a) 45)).alloc (.cells (mY b) 45)).alloc (.cells (mY 0) 45) := ⟨_, rfl⟩
 have hA0 : W0.heap[w.heap.size]? = some (.cells (mY a) 45 (0, 0)) := hW ▸ pB _ _ _ _
 have hB0 : W0.heap[w.heap.size + 1]? = some (.cells (mY b) 45 (0, 0)) := hW ▸ pC _ _ _ _
 have hR0 : W0.heap[w.heap.size + 2]? = some (.cells (mY 0) 45 (0, 0)) := hW ▸ pK _ _ _ _
 have hZ0 : Below w.heap.size w W0 := hW ▸ pL _ _ _ _
 have hN : W0.heap.size = w.heap.size + 3 := by rw [hW]; simp
 rw [← hW]
 clear hW
 go_loopw [9, 10, 11] (fun wv nv ov wr => ∃ i : Nat, i ≤ 3 ∧ ov = .int .i64 i ∧ (i ≤ 2 → wv = .int .i64 0 ∧ nv = .int .i64 0) ∧ (2 < i → wv = .int .i64 32 ∧ nv = .int .i64 c) ∧ W0 = wr) (fun _ _ ov _ => 3 - (intOf ov).toNat)
 case atStart => exact jZ
 case round =>
  obtain ⟨i, hi, rfl, hr1, hr2, rfl⟩ := hrel
  obtain rfl | rfl | rfl | rfl : i = 0 ∨ i = 1 ∨ i = 2 ∨ i = 3 := by omega
  ·exact nL
  ·as_aux_lemma =>
   obtain ⟨rfl, rfl⟩ := hr1 (by decide)
   clear hr1 hr2
   go_wp2_with fail
   go_roundw
   case rel => first | exact ⟨2, by decide, rfl, fun _ => ⟨rfl, rfl⟩, fun h => absurd h (by decide), (by first | trivial | rfl)⟩ | ((repeat apply Exists.intro); exact ⟨⟨2, by decide, rfl, fun _ => ⟨rfl, rfl⟩, fun h => absurd h (by decide), (by first | trivial | rfl)⟩, rfl⟩)
   case measure => exact xL
  ·as_aux_lemma =>
   obtain ⟨rfl, rfl⟩ := hr1 (by decide)
   clear hr1 hr2
   go_wp2_with fail
   go_loopw [9, 12] (fun wv jv wr => ∃ j : Nat, j ≤ 2 ∧ jv = .int .i64 j ∧ wv = .int .i64 ((8 * 2 ^ j : Nat) : Int) ∧ W0 = wr) (fun _ jv _ => 2 - (intOf jv).toNat)
   case atStart => exact gE
   case round =>
    obtain ⟨j, hj, rfl, rfl, rfl⟩ := hrel
    obtain rfl | rfl | rfl : j = 0 ∨ j = 1 ∨ j = 2 := by omega
    ·go_wp2_with fail
     go_roundw
     case rel => exact yX
     case measure => exact xL
    ·go_wp2_with fail
     go_roundw
     case rel => exact yV
     case measure => exact xL
    ·have e2 : IntKind.i64.wrap (55 + (c : Int) - 35) = 20 + (c : Int) := by rw [IntWalk.i64_in _ (by omega)]; omega
     have e3 : IntKind.i64.wrap (20 + (c : Int) - 20) = (c : Int) := by rw [IntWalk.i64_in _ (by omega)]; omega
     go_wp2_with fail
     go_roundw
     case rel => first | exact ⟨3, by decide, rfl, fun h => absurd h (by decide), fun _ => ⟨rfl, by first | rfl | simp | (congr 1; omega)⟩, (by first | trivial | rfl)⟩ | ((repeat apply Exists.intro); exact ⟨⟨3, by decide, rfl, fun h => absurd h (by decide), fun _ => ⟨rfl, by first | rfl | simp | (congr 1; omega)⟩, (by first | trivial | rfl)⟩, rfl⟩)
     case measure => exact xL
  ·obtain ⟨rfl, rfl⟩ := hr2 (by decide)
   clear hr1 hr2 e1
   go_wp2_with fail
   rw [← mU]
   try rw [hN]
   obtain ⟨W, hW⟩ : ∃ W1, W1 = W0.alloc (.cells (mY 0) 45) := ⟨_, rfl⟩
   have hA : W.heap[w.heap.size]? = some (.cells (mY a) 45 (0, 0)) := hW ▸ mE hA0 _
   have hB : W.heap[w.heap.size + 1]? = some (.cells (mY b) 45 (0, 0)) := hW ▸ mE hB0 _
   have hR : W.heap[w.heap.size + 2]? = some (.cells (mY 0) 45 (0, 0)) := hW ▸ mE hR0 _
   have hO : W.heap[w.heap.size + 3]? = some (.cells (mY 0) 45 (0, 0)) := by rw [hW, ← hN]; exact heap_alloc_new _ _
   have hZ : Below w.heap.size w W := hW ▸ hZ0.alloc (by omega) _
   rw [← hW]
   clear hW hA0 hB0 hR0 hZ0 hN
   obtain ⟨M, hM⟩ : ∃ M, M = vV 32 c a b := ⟨_, rfl⟩
   go_loopw [14] (fun iv wr => ∃ i : Nat, i ≤ 4 ∧ iv = .int .i64 i ∧ St W (w.heap.size + 3) (mJ 0 32 M i) wr) (fun iv _ => 4 - (intOf iv).toNat)
   case atStart => exact xE
   case round =>
    obtain ⟨i, hi, rfl, hs⟩ := hrel
    by_cases hlt : i < 4
    ·as_aux_lemma =>
      obtain ⟨s, hsx⟩ : ∃ s, s = sgn 32 (mT a 32 i) := ⟨_, rfl⟩
      obtain ⟨t, htx⟩ : ∃ t, t = sgn 32 (mT b 32 i) := ⟨_, rfl⟩
      have HGA := fun W => rY a i i W rfl hlt
      have HGB := fun W => rY b i i W rfl hlt
      rw [← hsx] at HGA
      rw [← htx] at HGB
      obtain ⟨x, hxx⟩ : ∃ x, x = mT a 32 i := ⟨_, rfl⟩
      obtain ⟨y, hyx⟩ : ∃ y, y = mT b 32 i := ⟨_, rfl⟩
      have HXA := fun W => vL a i i W rfl hlt
      have HXB := fun W => vL b i i W rfl hlt
      rw [← hxx] at HXA
      rw [← hyx] at HXB
      have HM : M i = if sel c (decide (s < t)) (decide (t < s)) (decide (x < y)) (decide (y < x)) = true then 18446744073709551615 else 0 := by rw [hM]; unfold vV; rw [← hsx, ← htx, holdC_sel c hc s t x y (by rw [hsx, htx, hxx, hyx]; exact fX 32 (by decide) a b i i) (by rw [hsx, htx, hxx, hyx]; exact fX 32 (by decide) b a i i)]
      obtain ⟨B1, l1⟩ : ∃ B, decide (s < t) = B := ⟨_, rfl⟩
      obtain ⟨B2, l2⟩ : ∃ B, decide (t < s) = B := ⟨_, rfl⟩
      obtain ⟨B3, l3⟩ : ∃ B, decide (x < y) = B := ⟨_, rfl⟩
      obtain ⟨B4, l4⟩ : ∃ B, decide (y < x) = B := ⟨_, rfl⟩
      rw [l1, l2, l3, l4] at HM
      replace HM := Lib.hid HM
      replace HGA := Lib.hid HGA
      replace HGB := Lib.hid HGB
      replace HXA := Lib.hid HXA
      replace HXB := Lib.hid HXB
      clear hsx htx hxx hyx hM
      rcases (by omega : (c = 0 ∨ c = 1) ∨ (c = 2 ∨ c = 8) ∨ (c = 4 ∨ c = 6) ∨ (c = 3 ∨ c = 9) ∨ (c = 5 ∨ c = 7)) with h | h | h | h | h
      case' inl => cases B1 <;> cases B2
      case' inr.inl => cases B1
      case' inr.inr.inl => cases B2
      case' inr.inr.inr.inl => cases B3
      case' inr.inr.inr.inr => cases B4
      all_goals rcases h with rfl | rfl
      all_goals
       as_aux_lemma =>
        go_wp2_with (first | (with_reducible refine mG rfl _ rfl _ rfl _ (hs.kb.get hA (by omega)) ?_) | (with_reducible refine mG rfl _ rfl _ rfl _ (hs.kb.get hB (by omega)) ?_) | (go_at_call 73; (with_reducible refine (HGA.out _).mono ?_); rintro e u2 ⟨rfl, hb⟩; replace hs := hs.below hb; clear hb) | (go_at_call 73; (with_reducible refine (HGB.out _).mono ?_); rintro e u2 ⟨rfl, hb⟩; replace hs := hs.below hb; clear hb))
        repeat (refine mN (St W (w.heap.size + 3) (mJ 0 32 M i)) 9 (by kernel_rfl) (by kernel_rfl) hs.drew ?_; simp only [zP, zN, zM, zL]; (repeat (first | (refine zK rfl _ rfl _ rfl _ (fun u hS => hS.kb.get hA (by omega)) ?_) | (refine zK rfl _ rfl _ rfl _ (fun u hS => hS.kb.get hB (by omega)) ?_) | (refine z8 ?_) | (refine zZ (.int .u64 (x : Nat)) 74 (c := fun u hS => by with_reducible exact HXA.out _) (r := ?_)) | (refine zZ (.int .u64 (y : Nat)) 74 (c := fun u hS => by with_reducible exact HXB.out _) (r := ?_)))); refine mH (fun wq hq => ?_); replace hs := hq; clear hq; go_wp2_with fail)
        first
        | have hm : M i = 0 := HM.out
          have HE2 := Lib.hid (msk_zero 32 M i hlt hm)
          clear hm HM
          go_loopw [20] (fun jv wr => jv = .int .i64 0 ∧ St W (w.heap.size + 3) (mJ 0 32 M i) wr) (fun jv _ => 0)
          case atStart => exact ⟨rfl, hs⟩
          case round => exact n8Eqc
        | have HM := Lib.hid (show M i = 18446744073709551615 from HM.out)
          go_loopw [20] (fun jv wr => ∃ j : Nat, j ≤ 4 ∧ jv = .int .i64 j ∧ St W (w.heap.size + 3) (pN (mJ 0 32 M i) (8 * (i * 4)) (8 * j) 18446744073709551615) wr) (fun jv _ => 4 - (intOf jv).toNat)
          case atStart => exact gM
          case round =>
           clear hs
           obtain ⟨j, hj, rfl, hs⟩ := hrel
           by_cases hjl : j < 4
           ·have q1 : IntKind.i64.wrap ((i : Int) * 32) = i * 32 := IntWalk.i64_in _ (by omega)
            have q2 : (i : Int) * 32 / 8 = ((i * 4 : Nat) : Int) := by omega
            have hq3 := Lib.hid (show (255 : Int) = ((18446744073709551615 / 2 ^ (8 * j) % 256 : Nat) : Int) by rw [ones_byte j (by omega)]; rfl)
            go_wp2_with (with_reducible refine mP rfl _ _ rfl (w.heap.size + 3) (i * 4 + j) _ (18446744073709551615 / 2 ^ (8 * j)) rfl rfl _ hs.this (by omega) hq3.out ?_; intro wq hq)
            go_roundw
            case rel =>
             first | refine ⟨j + 1, by omega, by go_num, ?_⟩ | ((repeat apply Exists.intro); refine ⟨⟨j + 1, by omega, by go_num, ?_⟩, rfl⟩)
             have := hs.sets hq
             rw [show 8 * (i * 4 + j) = 8 * (i * 4) + 8 * j by omega, v8 _ _ _ _ _ (by omega)] at this
             exact this
            case measure => exact xL
           ·obtain rfl : j = 4 := by omega
            have e2 : pN (mJ 0 32 M i) (8 * (i * 4)) (8 * 4) 18446744073709551615 = mJ 0 32 M (i + 1) := by
             rw [mJ, HM.out, show 8 * (i * 4) = 32 * i by omega]; rfl
            exact nZ
    ·obtain rfl : i = 4 := by omega
     rw [hM, show mJ 0 32 (vV 32 c a b) 4 = CV 32 c a b from rfl] at hs
     have hR' := hs.kb.get hR (by omega)
     clear hM hc
     go_wp2_with (first | (with_reducible refine mG rfl _ rfl _ rfl _ hs.this ?_) | (with_reducible refine mK rfl _ _ rfl (w.heap.size + 2) _ rfl rfl _ hR' ?_; intro wq hq))
     exact bodyPost_ret (mS rfl _ _ (w.heap.size + 2) _ _ rfl rfl hq.this) rfl ⟨rfl, (hs.kb.to_below hZ (by omega)).trans (hq.below.mono (by omega))⟩
end Go.Proofs.Ytcpfabkokgiepaa
end
section
namespace Go.Proofs.Ytcpfabkokgiepaa
open Go.RowKit Pl
set_option maxRecDepth 100000 in
theorem rcmp_64 (c j : Nat) (hj : (c = 0 ∧ j = 0) ∨ (c = 1 ∧ j = 1) ∨ (c = 2 ∧ j = 2) ∨ (c = 4 ∧ j = 3) ∨ (c = 6 ∧ j = 4) ∨ (c = 8 ∧ j = 5)) (a b : Vec) (w : World) :
 Calls Try.prog 80 #[.int .i64 (64982 + (j : Int)), .agg (mY a), .agg (mY b)] w fun e w' => e = .returned (.tuple #[.agg (mY (CV 64 c a b)), .int .i64 0]) ∧ Below w.heap.size w w' := by
 have hc : c < 10 := by omega
 go_enter Try.func80, Try.ntmps80
 rcases hj with ⟨hc0, rfl⟩ | ⟨hc0, rfl⟩ | ⟨hc0, rfl⟩ | ⟨hc0, rfl⟩ | ⟨hc0, rfl⟩ | ⟨hc0, rfl⟩
 all_goals
  as_aux_lemma =>
   go_wp2_with fail
   rw [← mU]
   obtain ⟨W0, hW⟩ : ∃ W0, W0 = ((w.alloc (.cells (mY a) 45)).alloc (.cells (mY b) 45)).alloc (.cells (mY 0) 45) := ⟨_, rfl⟩
   have hA0 : W0.heap[w.heap.size]? = some (.cells (mY a) 45 (0, 0)) := hW ▸ pB _ _ _ _
   have hB0 : W0.heap[w.heap.size + 1]? = some (.cells (mY b) 45 (0, 0)) := hW ▸ pC _ _ _ _
   have hR0 : W0.heap[w.heap.size + 2]? = some (.cells (mY 0) 45 (0, 0)) := hW ▸ pK _ _ _ _
   have hZ0 : Below w.heap.size w W0 := hW ▸ pL _ _ _ _
   have hN : W0.heap.size = w.heap.size + 3 := by rw [hW]; simp
   rw [← hW]
   clear hW
   go_loopw [9, 10, 11] (fun wv nv ov wr => ∃ i : Nat, i ≤ 3 ∧ ov = .int .i64 i ∧ wv = .int .i64 0 ∧ nv = .int .i64 0 ∧ W0 = wr) (fun _ _ ov _ => 3 - (intOf ov).toNat)
   case atStart => exact kQ
   case round =>
    obtain ⟨i, hi, rfl, rfl, rfl, rfl⟩ := hrel
    obtain rfl | rfl | rfl | rfl : i = 0 ∨ i = 1 ∨ i = 2 ∨ i = 3 := by omega
    ·exact mW
    ·exact mX
    ·exact mZ
    ·go_wp2_with fail
     rw [← mU]
     try rw [hN]
     obtain ⟨W, hW⟩ : ∃ W1, W1 = W0.alloc (.cells (mY 0) 45) := ⟨_, rfl⟩
     have hA : W.heap[w.heap.size]? = some (.cells (mY a) 45 (0, 0)) := hW ▸ mE hA0 _
     have hB : W.heap[w.heap.size + 1]? = some (.cells (mY b) 45 (0, 0)) := hW ▸ mE hB0 _
     have hR : W.heap[w.heap.size + 2]? = some (.cells (mY 0) 45 (0, 0)) := hW ▸ mE hR0 _
     have hO : W.heap[w.heap.size + 3]? = some (.cells (mY 0) 45 (0, 0)) := by rw [hW, ← hN]; exact heap_alloc_new _ _
     have hZ : Below w.heap.size w W := hW ▸ hZ0.alloc (by omega) _
     rw [← hW]
     clear hW hA0 hB0 hR0 hZ0 hN
     obtain ⟨M, hM⟩ : ∃ M, M = vV 64 c a b := ⟨_, rfl⟩
     go_loopw [14] (fun iv wr => ∃ i : Nat, i ≤ 2 ∧ iv = .int .i64 i ∧ St W (w.heap.size + 3) (mJ 0 64 M i) wr) (fun iv _ => 2 - (intOf iv).toNat)
     case atStart => exact xE
     case round =>
      obtain ⟨i, hi, rfl, hs⟩ := hrel
      by_cases hlt : i < 2
      ·as_aux_lemma =>
        obtain ⟨s, hsx⟩ : ∃ s, s = sgn 64 (mT a 64 i) := ⟨_, rfl⟩
        obtain ⟨t, htx⟩ : ∃ t, t = sgn 64 (mT b 64 i) := ⟨_, rfl⟩
        have HGA := fun W => uB a i i W rfl hlt
        have HGB := fun W => uB b i i W rfl hlt
        rw [← hsx] at HGA
        rw [← htx] at HGB
        obtain ⟨x, hxx⟩ : ∃ x, x = mT a 64 i := ⟨_, rfl⟩
        obtain ⟨y, hyx⟩ : ∃ y, y = mT b 64 i := ⟨_, rfl⟩
        have HXA := fun W => vU a i i W rfl hlt
        have HXB := fun W => vU b i i W rfl hlt
        rw [← hxx] at HXA
        rw [← hyx] at HXB
        have HM : M i = if sel c (decide (s < t)) (decide (t < s)) (decide (x < y)) (decide (y < x)) = true then 18446744073709551615 else 0 := by rw [hM]; unfold vV; rw [← hsx, ← htx, holdC_sel c hc s t x y (by rw [hsx, htx, hxx, hyx]; exact fX 64 (by decide) a b i i) (by rw [hsx, htx, hxx, hyx]; exact fX 64 (by decide) b a i i)]
        obtain ⟨B1, l1⟩ : ∃ B, decide (s < t) = B := ⟨_, rfl⟩
        obtain ⟨B2, l2⟩ : ∃ B, decide (t < s) = B := ⟨_, rfl⟩
        obtain ⟨B3, l3⟩ : ∃ B, decide (x < y) = B := ⟨_, rfl⟩
        obtain ⟨B4, l4⟩ : ∃ B, decide (y < x) = B := ⟨_, rfl⟩
        rw [l1, l2, l3, l4] at HM
        replace HM := Lib.hid HM
        replace HGA := Lib.hid HGA
        replace HGB := Lib.hid HGB
        replace HXA := Lib.hid HXA
        replace HXB := Lib.hid HXB
        clear hsx htx hxx hyx hM
        rcases (by omega : (c = 0 ∨ c = 1) ∨ (c = 2 ∨ c = 8) ∨ (c = 4 ∨ c = 6) ∨ (c = 3 ∨ c = 9) ∨ (c = 5 ∨ c = 7)) with h | h | h | h | h
        case' inl => cases B1 <;> cases B2
        case' inr.inl => cases B1
        case' inr.inr.inl => cases B2
        case' inr.inr.inr.inl => cases B3
        case' inr.inr.inr.inr => cases B4
        all_goals rcases h with rfl | rfl
        all_goals try omega
        all_goals
         as_aux_lemma =>
          go_wp2_with (first | (with_reducible refine mG rfl _ rfl _ rfl _ (hs.kb.get hA (by omega)) ?_) | (with_reducible refine mG rfl _ rfl _ rfl _ (hs.kb.get hB (by omega)) ?_) | (go_at_call 73; (with_reducible refine (HGA.out _).mono ?_); rintro e u2 ⟨rfl, hb⟩; replace hs := hs.below hb; clear hb) | (go_at_call 73; (with_reducible refine (HGB.out _).mono ?_); rintro e u2 ⟨rfl, hb⟩; replace hs := hs.below hb; clear hb))
          repeat (refine mN (St W (w.heap.size + 3) (mJ 0 64 M i)) 9 (by kernel_rfl) (by kernel_rfl) hs.drew ?_; simp only [zP, zN, zM, zL]; (repeat (first | (refine zK rfl _ rfl _ rfl _ (fun u hS => hS.kb.get hA (by omega)) ?_) | (refine zK rfl _ rfl _ rfl _ (fun u hS => hS.kb.get hB (by omega)) ?_) | (refine z8 ?_) | (refine zZ (.int .u64 (x : Nat)) 74 (c := fun u hS => by with_reducible exact HXA.out _) (r := ?_)) | (refine zZ (.int .u64 (y : Nat)) 74 (c := fun u hS => by with_reducible exact HXB.out _) (r := ?_)))); refine mH (fun wq hq => ?_); replace hs := hq; clear hq; go_wp2_with fail)
          first
          | have hm : M i = 0 := HM.out
            have HE2 := Lib.hid (msk_zero 64 M i hlt hm)
            clear hm HM
            go_loopw [20] (fun jv wr => jv = .int .i64 0 ∧ St W (w.heap.size + 3) (mJ 0 64 M i) wr) (fun jv _ => 0)
            case atStart => exact ⟨rfl, hs⟩
            case round => exact n8Eqc
          | have HM := Lib.hid (show M i = 18446744073709551615 from HM.out)
            go_loopw [20] (fun jv wr => ∃ j : Nat, j ≤ 8 ∧ jv = .int .i64 j ∧ St W (w.heap.size + 3) (pN (mJ 0 64 M i) (8 * (i * 8)) (8 * j) 18446744073709551615) wr) (fun jv _ => 8 - (intOf jv).toNat)
            case atStart => exact gM
            case round =>
             clear hs
             obtain ⟨j, hj, rfl, hs⟩ := hrel
             by_cases hjl : j < 8
             ·have q1 : IntKind.i64.wrap ((i : Int) * 64) = i * 64 := IntWalk.i64_in _ (by omega)
              have q2 : (i : Int) * 64 / 8 = ((i * 8 : Nat) : Int) := by omega
              have hq3 := Lib.hid (show (255 : Int) = ((18446744073709551615 / 2 ^ (8 * j) % 256 : Nat) : Int) by rw [ones_byte j (by omega)]; rfl)
              go_wp2_with (with_reducible refine mP rfl _ _ rfl (w.heap.size + 3) (i * 8 + j) _ (18446744073709551615 / 2 ^ (8 * j)) rfl rfl _ hs.this (by omega) hq3.out ?_; intro wq hq)
              go_roundw
              case rel =>
               first | refine ⟨j + 1, by omega, by go_num, ?_⟩ | ((repeat apply Exists.intro); refine ⟨⟨j + 1, by omega, by go_num, ?_⟩, rfl⟩)
               have := hs.sets hq
               rw [show 8 * (i * 8 + j) = 8 * (i * 8) + 8 * j by omega, v8 _ _ _ _ _ (by omega)] at this
               exact this
              case measure => exact xL
             ·obtain rfl : j = 8 := by omega
              have e2 : pN (mJ 0 64 M i) (8 * (i * 8)) (8 * 8) 18446744073709551615 = mJ 0 64 M (i + 1) := by
               rw [mJ, HM.out, show 8 * (i * 8) = 64 * i by omega]; rfl
              exact nZ
      ·obtain rfl : i = 2 := by omega
       rw [hM, show mJ 0 64 (vV 64 c a b) 2 = CV 64 c a b from rfl] at hs
       have hR' := hs.kb.get hR (by omega)
       clear hM hc
       go_wp2_with (first | (with_reducible refine mG rfl _ rfl _ rfl _ hs.this ?_) | (with_reducible refine mK rfl _ _ rfl (w.heap.size + 2) _ rfl rfl _ hR' ?_; intro wq hq))
       exact bodyPost_ret (mS rfl _ _ (w.heap.size + 2) _ _ rfl rfl hq.this) rfl ⟨rfl, (hs.kb.to_below hZ (by omega)).trans (hq.below.mono (by omega))⟩
end Go.Proofs.Ytcpfabkokgiepaa
end
