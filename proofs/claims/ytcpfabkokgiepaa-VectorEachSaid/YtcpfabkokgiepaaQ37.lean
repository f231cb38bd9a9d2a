/-
  Texts AriRB8.
-/
import Derived.Test.YtcpfabkokgiepaaQ32
set_option linter.unusedSimpArgs false
set_option linter.unusedVariables false
set_option maxHeartbeats 8000000
open Pl
namespace Go.Proofs.Ytcpfabkokgiepaa
open Go.RowKit Pl
set_option maxRecDepth 100000 in
theorem rbin_8 (op : Int) (k : Nat) (h : (op = 64878 ∧ k = 14) ∨ (op = 64879 ∧ k = 15) ∨ (op = 64880 ∧ k = 16) ∨ (op = 64881 ∧ k = 17) ∨ (op = 64882 ∧ k = 18) ∨ (op = 64883 ∧ k = 19) ∨ (op = 64886 ∧ k = 22) ∨ (op = 64887 ∧ k = 23) ∨ (op = 64888 ∧ k = 24) ∨ (op = 64889 ∧ k = 25) ∨ (op = 64891 ∧ k = 27)) (a b : Vec) (w : World) : Calls Try.prog 79 #[.int .i64 op, .agg (mY a), .agg (mY b)] w fun e w' => e = .returned (.tuple #[.agg (mY (vb 8 k a b)), .int .i64 0]) ∧ Below w.heap.size w w' := by
 have hs : HL w [(w.heap.size + 2, 0), (w.heap.size + 1, b), (w.heap.size, a)] _ := HL.three w a b 0
 rw [mU] at hs
 have hw : wF op = 8 := by rcases h with ⟨rfl, rfl⟩ | ⟨rfl, rfl⟩ | ⟨rfl, rfl⟩ | ⟨rfl, rfl⟩ | ⟨rfl, rfl⟩ | ⟨rfl, rfl⟩ | ⟨rfl, rfl⟩ | ⟨rfl, rfl⟩ | ⟨rfl, rfl⟩ | ⟨rfl, rfl⟩ | ⟨rfl, rfl⟩ <;> decide
 have T := Lib.hid (fun W => tY op W (by omega))
 rw [hw] at T
 have K := Lib.hid (fun W => tE op k W (by omega) (by rw [hw]; decide) (by omega))
 have hk14 : (14 : Int) ≤ (k : Int) := by omega
 have HH := Lib.hid h
 clear h hw
 go_enter Try.func79, Try.ntmps79
 go_wp2_with (first | (go_at_call 85; (with_reducible refine (T.out _).mono ?_); rintro e u ⟨rfl, hb⟩; replace hs := hs.below hb; clear hb) | (go_at_call 86; (with_reducible refine (K.out _).mono ?_); rintro e u ⟨rfl, hb⟩; replace hs := hs.below hb; clear hb))
 rw [← mU]
 obtain ⟨O, hOO⟩ : ∃ B, B = u.heap.size := ⟨_, rfl⟩
 have hlow := HL.low hs
 rw [← hOO] at hlow ⊢
 obtain ⟨W, hW⟩ : ∃ W, W = u.alloc (.cells (mY 0) 45) := ⟨_, rfl⟩
 have hA : W.heap[w.heap.size]? = some (.cells (mY a) 45 (0, 0)) := hW ▸ mE (hs.hold (_, a) (List.mem_cons_of_mem _ (List.mem_cons_of_mem _ List.mem_cons_self))) _
 have hB : W.heap[w.heap.size + 1]? = some (.cells (mY b) 45 (0, 0)) := hW ▸ mE (hs.hold (_, b) (List.mem_cons_of_mem _ List.mem_cons_self)) _
 have hR : W.heap[w.heap.size + 2]? = some (.cells (mY 0) 45 (0, 0)) := hW ▸ mE (hs.hold (_, 0) List.mem_cons_self) _
 have hO : W.heap[O]? = some (.cells (mY 0) 45 (0, 0)) := by rw [hW, hOO]; exact heap_alloc_new _ _
 have hZ : Below w.heap.size w W := hW ▸ hs.bel.alloc hs.bel.size _
 have nR : w.heap.size + 2 < O := hlow (_, 0) List.mem_cons_self
 have hWO : w.heap.size ≤ O := by omega
 rw [← hW]
 clear hW hOO hlow hs T K u hk14
 obtain ⟨LR, hLR⟩ : ∃ f, f = pU 8 k a b := ⟨_, rfl⟩
 go_loopw [11] (fun iv wr => ∃ i : Nat, i ≤ 16 ∧ iv = .int .i64 i ∧ St W O (mJ 0#128 8 LR i) wr) (fun iv _ => 16 - (intOf iv).toNat)
 case atStart => exact xE
 case round =>
  obtain ⟨i, hi, rfl, hs⟩ := hrel
  by_cases hlt : i < 16
  ·as_aux_lemma =>
   obtain ⟨x, hxx⟩ : ∃ x, x = mT a 8 i := ⟨_, rfl⟩
   obtain ⟨y, hyy⟩ : ∃ x, x = mT b 8 i := ⟨_, rfl⟩
   have bx : x < 256 := hxx ▸ mL a 8 i
   have b_y : y < 256 := hyy ▸ mL b 8 i
   obtain ⟨s, hss⟩ : ∃ s, s = sgn 8 x := ⟨_, rfl⟩
   obtain ⟨t, htt⟩ : ∃ s, s = sgn 8 y := ⟨_, rfl⟩
   have HGA := fun W => fC a i i W rfl hlt
   have HGB := fun W => fC b i i W rfl hlt
   have HSA := fun W => uD a i i W rfl hlt
   have HSB := fun W => uD b i i W rfl hlt
   rw [← hxx] at HGA HSA
   rw [← hyy] at HGB HSB
   rw [← hss] at HSA
   rw [← htt] at HSB
   replace HGA := Lib.hid HGA
   replace HGB := Lib.hid HGB
   replace HSA := Lib.hid HSA
   replace HSB := Lib.hid HSB
   have HL1 : LR i = Pl.u64 (t9 8 k x y s t) := by rw [hLR, hss, htt, hxx, hyy]; rfl
   have bs : -128 ≤ s ∧ s < 128 := by rw [hss]; unfold sgn; rw [show (2 : Nat) ^ (8 - 1) = 128 from rfl, show (2 : Int) ^ 8 = 256 from rfl]; split <;> omega
   have bt : -128 ≤ t ∧ t < 128 := by rw [htt]; unfold sgn; rw [show (2 : Nat) ^ (8 - 1) = 128 from rfl, show (2 : Int) ^ 8 = 256 from rfl]; split <;> omega
   have ex : x = (s % 256).toNat := by rw [hss]; unfold sgn; rw [show (2 : Nat) ^ (8 - 1) = 128 from rfl, show (2 : Int) ^ 8 = 256 from rfl]; split <;> omega
   have ey : y = (t % 256).toNat := by rw [htt]; unfold sgn; rw [show (2 : Nat) ^ (8 - 1) = 128 from rfl, show (2 : Int) ^ 8 = 256 from rfl]; split <;> omega
   clear hss htt hxx hyy hLR
   rcases HH.out with ⟨rfl, rfl⟩ | ⟨rfl, rfl⟩ | ⟨rfl, rfl⟩ | ⟨rfl, rfl⟩ | ⟨rfl, rfl⟩ | ⟨rfl, rfl⟩ | ⟨rfl, rfl⟩ | ⟨rfl, rfl⟩ | ⟨rfl, rfl⟩ | ⟨rfl, rfl⟩ | ⟨rfl, rfl⟩
   case' inl =>
    obtain ⟨Z, hZZ⟩ : ∃ Z, Z = Pl.u64 ((x : Int) + (y : Int)) := ⟨_, rfl⟩
    have HM : Z % 256 = LR i % 256 := by rw [HL1, hZZ]; rfl
    have q : IntKind.u64.wrap ((x : Int) + (y : Int)) = (Z : Int) := hZZ ▸ wrap_u64 _
    have HZL : Z < 2 ^ 64 := hZZ ▸ tR _
   case' inr.inl =>
    obtain ⟨Z, hZZ⟩ : ∃ Z, Z = Pl.u64 (min (max (s + t) (-128)) 127) := ⟨_, rfl⟩
    have HM : Z % 256 = LR i % 256 := by rw [HL1, hZZ]; rfl
    have q : IntKind.i64.wrap (s + t) = s + t := IntWalk.i64_in _ (by omega)
    have HR := Lib.hid (fun W => uQ (s + t) (-128) 127 W (by decide))
    rw [← hZZ] at HR
    have HZL : Z < 2 ^ 64 := hZZ ▸ tR _
   case' inr.inr.inl =>
    obtain ⟨Z, hZZ⟩ : ∃ Z, Z = Pl.u64 (min (max ((x : Int) + (y : Int)) 0) 255) := ⟨_, rfl⟩
    have HM : Z % 256 = LR i % 256 := by rw [hZZ, HL1, show t9 8 16 x y s t = min ((x : Int) + (y : Int)) 255 from rfl, show max ((x : Int) + (y : Int)) 0 = (x : Int) + (y : Int) by omega]
    have q : IntKind.u64.wrap ((x : Int) + (y : Int)) = (x : Int) + (y : Int) := IntWalk.u64_in _ (by omega)
    have q2 : IntKind.i64.wrap ((x : Int) + (y : Int)) = (x : Int) + (y : Int) := IntWalk.i64_in _ (by omega)
    have HR := Lib.hid (fun W => uQ ((x : Int) + (y : Int)) 0 255 W (by decide))
    rw [← hZZ] at HR
    have HZL : Z < 2 ^ 64 := hZZ ▸ tR _
   case' inr.inr.inr.inl =>
    obtain ⟨Z, hZZ⟩ : ∃ Z, Z = Pl.u64 ((x : Int) - (y : Int)) := ⟨_, rfl⟩
    have HM : Z % 256 = LR i % 256 := by rw [HL1, hZZ]; rfl
    have q : IntKind.u64.wrap ((x : Int) - (y : Int)) = (Z : Int) := hZZ ▸ wrap_u64 _
    have HZL : Z < 2 ^ 64 := hZZ ▸ tR _
   case' inr.inr.inr.inr.inl =>
    obtain ⟨Z, hZZ⟩ : ∃ Z, Z = Pl.u64 (min (max (s - t) (-128)) 127) := ⟨_, rfl⟩
    have HM : Z % 256 = LR i % 256 := by rw [HL1, hZZ]; rfl
    have q : IntKind.i64.wrap (s - t) = s - t := IntWalk.i64_in _ (by omega)
    have HR := Lib.hid (fun W => uQ (s - t) (-128) 127 W (by decide))
    rw [← hZZ] at HR
    have HZL : Z < 2 ^ 64 := hZZ ▸ tR _
   case' inr.inr.inr.inr.inr.inl =>
    obtain ⟨Z, hZZ⟩ : ∃ Z, Z = Pl.u64 (min (max ((x : Int) - (y : Int)) 0) 255) := ⟨_, rfl⟩
    have HM : Z % 256 = LR i % 256 := by rw [hZZ, HL1, show t9 8 19 x y s t = (x : Int) - ((min x y : Nat) : Int) from rfl, show min (max ((x : Int) - (y : Int)) 0) 255 = (x : Int) - ((min x y : Nat) : Int) by omega]
    have q : IntKind.i64.wrap (x : Int) = (x : Int) := IntWalk.i64_in _ (by omega)
    have q1 : IntKind.i64.wrap (y : Int) = (y : Int) := IntWalk.i64_in _ (by omega)
    have q2 : IntKind.i64.wrap ((x : Int) - (y : Int)) = (x : Int) - (y : Int) := IntWalk.i64_in _ (by omega)
    have HR := Lib.hid (fun W => uQ ((x : Int) - (y : Int)) 0 255 W (by decide))
    rw [← hZZ] at HR
    have HZL : Z < 2 ^ 64 := hZZ ▸ tR _
   case' inr.inr.inr.inr.inr.inr.inl =>
    obtain ⟨Z, q, hZZ⟩ : ∃ Z : Nat, (((decide (t < s)) = true ∧ Z = y) ∨ ((decide (t < s)) = false ∧ Z = x)) ∧ True := by by_cases hc : t < s; exact ⟨y, .inl ⟨decide_eq_true hc, rfl⟩, trivial⟩; exact ⟨x, .inr ⟨decide_eq_false hc, rfl⟩, trivial⟩
    have HM : Z % 256 = LR i % 256 := by rcases q with ⟨q, hq⟩ | ⟨q, hq⟩ <;> (first | replace q := of_decide_eq_true q | replace q := of_decide_eq_false q) <;> (rw [hq, HL1, show t9 8 22 x y s t = min s t from rfl]; unfold Pl.u64; omega)
    have HZL : Z < 2 ^ 64 := by rcases q with ⟨_, hq⟩ | ⟨_, hq⟩ <;> omega
    rcases q with ⟨q, rfl⟩ | ⟨q, rfl⟩
   case' inr.inr.inr.inr.inr.inr.inr.inl =>
    obtain ⟨Z, q, hZZ⟩ : ∃ Z : Nat, (((decide (y < x)) = true ∧ Z = y) ∨ ((decide (y < x)) = false ∧ Z = x)) ∧ True := by by_cases hc : y < x; exact ⟨y, .inl ⟨decide_eq_true hc, rfl⟩, trivial⟩; exact ⟨x, .inr ⟨decide_eq_false hc, rfl⟩, trivial⟩
    have HM : Z % 256 = LR i % 256 := by rcases q with ⟨q, hq⟩ | ⟨q, hq⟩ <;> (first | replace q := of_decide_eq_true q | replace q := of_decide_eq_false q) <;> (rw [hq, HL1, show t9 8 23 x y s t = min (x : Int) (y : Int) from rfl]; unfold Pl.u64; omega)
    have HZL : Z < 2 ^ 64 := by rcases q with ⟨_, hq⟩ | ⟨_, hq⟩ <;> omega
    rcases q with ⟨q, rfl⟩ | ⟨q, rfl⟩
   case' inr.inr.inr.inr.inr.inr.inr.inr.inl =>
    obtain ⟨Z, q, hZZ⟩ : ∃ Z : Nat, (((decide (s < t)) = true ∧ Z = y) ∨ ((decide (s < t)) = false ∧ Z = x)) ∧ True := by by_cases hc : s < t; exact ⟨y, .inl ⟨decide_eq_true hc, rfl⟩, trivial⟩; exact ⟨x, .inr ⟨decide_eq_false hc, rfl⟩, trivial⟩
    have HM : Z % 256 = LR i % 256 := by rcases q with ⟨q, hq⟩ | ⟨q, hq⟩ <;> (first | replace q := of_decide_eq_true q | replace q := of_decide_eq_false q) <;> (rw [hq, HL1, show t9 8 24 x y s t = max s t from rfl]; unfold Pl.u64; omega)
    have HZL : Z < 2 ^ 64 := by rcases q with ⟨_, hq⟩ | ⟨_, hq⟩ <;> omega
    rcases q with ⟨q, rfl⟩ | ⟨q, rfl⟩
   case' inr.inr.inr.inr.inr.inr.inr.inr.inr.inl =>
    obtain ⟨Z, q, hZZ⟩ : ∃ Z : Nat, (((decide (x < y)) = true ∧ Z = y) ∨ ((decide (x < y)) = false ∧ Z = x)) ∧ True := by by_cases hc : x < y; exact ⟨y, .inl ⟨decide_eq_true hc, rfl⟩, trivial⟩; exact ⟨x, .inr ⟨decide_eq_false hc, rfl⟩, trivial⟩
    have HM : Z % 256 = LR i % 256 := by rcases q with ⟨q, hq⟩ | ⟨q, hq⟩ <;> (first | replace q := of_decide_eq_true q | replace q := of_decide_eq_false q) <;> (rw [hq, HL1, show t9 8 25 x y s t = max (x : Int) (y : Int) from rfl]; unfold Pl.u64; omega)
    have HZL : Z < 2 ^ 64 := by rcases q with ⟨_, hq⟩ | ⟨_, hq⟩ <;> omega
    rcases q with ⟨q, rfl⟩ | ⟨q, rfl⟩
   case' inr.inr.inr.inr.inr.inr.inr.inr.inr.inr =>
    obtain ⟨Z, hZZ⟩ : ∃ Z, Z = (x + y + 1) / 2 := ⟨_, rfl⟩
    have HM : Z % 256 = LR i % 256 := by rw [HL1, show t9 8 27 x y s t = ((x : Int) + (y : Int) + 1) / 2 from rfl]; unfold Pl.u64; omega
    have q : IntKind.u64.wrap ((x : Int) + (y : Int)) = (x : Int) + (y : Int) := IntWalk.u64_in _ (by omega)
    have q1 : IntKind.u64.wrap ((x : Int) + (y : Int) + 1) = (x : Int) + (y : Int) + 1 := IntWalk.u64_in _ (by omega)
    have q2 : ((x : Int) + (y : Int) + 1) / 2 = (Z : Int) := by omega
    have q4 : ((x : Int) + (y : Int) + 1).tdiv 2 = (Z : Int) := by rw [Int.tdiv_eq_ediv_of_nonneg (by omega)]; exact q2
    have q3 : IntKind.u64.wrap (Z : Int) = (Z : Int) := IntWalk.u64_in _ (by omega)
    have HZL : Z < 2 ^ 64 := by omega
   all_goals
    as_aux_lemma =>
     have HE := Lib.hid (pJ 8 LR 0#128 i _ HM)
     have HZ2 := Lib.hid HZL
     clear HZL HM HL1 ex ey bs bt bx b_y
     (try clear hZZ)
     go_wp2_with (first | (go_at_call 82; ((with_reducible refine (v6 _).mono ?_); rintro e w' ⟨rfl, rfl⟩)) | (with_reducible refine mG rfl _ rfl _ rfl _ (hs.kb.get hA (by omega)) ?_) | (with_reducible refine mG rfl _ rfl _ rfl _ (hs.kb.get hB (by omega)) ?_) | (with_reducible refine mG rfl _ rfl _ rfl _ hs.this ?_) | (go_at_call 74; (with_reducible refine (HGA.out _).mono ?_); rintro e u ⟨rfl, hb⟩; replace hs := hs.below hb; clear hb) | (go_at_call 74; (with_reducible refine (HGB.out _).mono ?_); rintro e u ⟨rfl, hb⟩; replace hs := hs.below hb; clear hb) | (go_at_call 73; (with_reducible refine (HSA.out _).mono ?_); rintro e u ⟨rfl, hb⟩; replace hs := hs.below hb; clear hb) | (go_at_call 73; (with_reducible refine (HSB.out _).mono ?_); rintro e u ⟨rfl, hb⟩; replace hs := hs.below hb; clear hb) | (go_at_call 88; (with_reducible refine (HR.out _).mono ?_); rintro e u ⟨rfl, hb⟩; replace hs := hs.below hb; clear hb) | (go_at_call 68; (with_reducible refine (uA (mJ 0#128 8 LR i) _ _ i _ _ rfl rfl hlt HZ2.out).mono ?_); rintro e u ⟨rfl, hb⟩; replace hs := hs.below hb; clear hb) | (with_reducible refine mK rfl _ _ rfl O _ rfl rfl _ hs.this ?_; intro wq hq; replace hs := hs.sets hq; clear hq))
     go_roundw
     case rel => exact qU
     case measure => exact xL
  ·obtain rfl : i = 16 := by omega
   have hR' := hs.kb.get hR (by omega)
   rw [hLR, show mJ 0#128 8 (pU 8 k a b) 16 = vb 8 k a b from rfl] at hs
   clear hLR
   go_wp2_with (first | (go_at_call 82; ((with_reducible refine (v6 _).mono ?_); rintro e w' ⟨rfl, rfl⟩)) | (with_reducible refine mG rfl _ rfl _ rfl _ hs.this ?_) | (with_reducible refine mK rfl _ _ rfl (w.heap.size + 2) _ rfl rfl _ hR' ?_; intro wq hq))
   exact bodyPost_ret (mS rfl _ _ (w.heap.size + 2) _ _ rfl rfl hq.this) rfl ⟨rfl, (hs.kb.to_below hZ hWO).trans (hq.below.mono (by omega))⟩
end Go.Proofs.Ytcpfabkokgiepaa
