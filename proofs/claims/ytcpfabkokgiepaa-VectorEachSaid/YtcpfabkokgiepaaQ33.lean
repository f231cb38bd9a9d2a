/-
  Texts AriRU.
-/
import Derived.Test.YtcpfabkokgiepaaQ32
set_option linter.unusedSimpArgs false
set_option linter.unusedVariables false
set_option maxHeartbeats 8000000
open Pl
namespace Go.Proofs.Ytcpfabkokgiepaa
open Go.RowKit Pl
theorem St.eqY {W wr : World} {O : Nat} {X Y : Vec} (h : X = Y) (hs : St W O X wr) : St W O Y wr := h ▸ hs
theorem rJ (w : Nat) (f : Nat → Nat) (v : Vec) (hw : 0 < w ∧ w * (128 / w) = 128) : mJ 0 w f (128 / w) = mJ v w f (128 / w) :=
 rL w (128 / w) hw.1 hw.2 fun i hi => by
  rw [pX _ _ _ _ _ (Nat.le_refl _), pX _ _ _ _ _ (Nat.le_refl _), if_pos hi, if_pos hi]
structure Pop (P : Nat → Nat) : Prop where
 z : P 0 = 0
 st : ∀ x, x < 256 → P x = x % 2 + P (x / 2)
 le : ∀ x, x < 256 → P x ≤ 8
theorem pop_ones : Pop Go.Lib.onesCount :=
 ⟨by decide +kernel, fun x hx => (show ∀ y : Fin 256, Go.Lib.onesCount y.val = y.val % 2 + Go.Lib.onesCount (y.val / 2) by decide +kernel) ⟨x, hx⟩,
  fun x hx => (show ∀ y : Fin 256, Go.Lib.onesCount y.val ≤ 8 by decide +kernel) ⟨x, hx⟩⟩
set_option maxRecDepth 100000 in
theorem run_8_0 (v : Vec) (w : World) : Calls Try.prog 76 #[.int .i64 64864, .agg (mY v)] w fun e w' => e = .returned (.tuple #[.agg (mY (vu3 8 0 v)), .int .i64 0]) ∧ Below w.heap.size w w' := by
 have hs : HL w [(w.heap.size + 1, 0), (w.heap.size, v)] _ := HL.two w v 0
 rw [mU] at hs
 have T := Lib.hid (fun W => tY 64864 W (by decide))
 rw [show wF 64864 = 8 by decide] at T
 have K := Lib.hid (fun W => tE 64864 0 W (by decide) (by decide) (by decide))
 go_enter Try.func76, Try.ntmps76
 go_wp2_with (first | (go_at_call 85; (with_reducible refine (T.out _).mono ?_); rintro e u ⟨rfl, hb⟩; replace hs := hs.below hb; clear hb) | (go_at_call 86; (with_reducible refine (K.out _).mono ?_); rintro e u ⟨rfl, hb⟩; replace hs := hs.below hb; clear hb))
 rw [← mU]
 obtain ⟨O, W, hOO, hW, hA, hR, hO, hZ, nR, hWO⟩ := zH hs
 rw [← hOO]
 rw [← hW]
 clear hW hOO hs T K u
 go_loopw [9] (fun iv wr => ∃ i : Nat, i ≤ 16 ∧ iv = .int .i64 i ∧ St W O (mJ 0#128 8 (tC 8 0 v) i) wr) (fun iv _ => 16 - (intOf iv).toNat)
 case atStart => exact xE
 case round =>
  obtain ⟨i, hi, rfl, hs⟩ := hrel
  by_cases hlt : i < 16
  ·obtain ⟨x, hxx⟩ : ∃ x, x = mT v 8 i := ⟨_, rfl⟩
   have bx : x < 256 := hxx ▸ mL v 8 i
   have G := fun W => fC v i i W rfl hlt
   have S := fun W => uD v i i W rfl hlt
   rw [← hxx] at G S
   obtain ⟨s, hss⟩ : ∃ s, s = sgn 8 x := ⟨_, rfl⟩
   rw [← hss] at S
   have HG := Lib.hid G
   have HS := Lib.hid S
   clear G S
   by_cases hc : 0 ≤ s
   ·as_aux_lemma =>
    have hf : tC 8 0 v i = x := by
     show (if sgn 8 (mT v 8 i) < 0 then _ else _) = _
     exact kV
    have HE := Lib.hid (pJ 8 (tC 8 0 v) 0#128 i x (by rw [hf]))
    have HZ2 := Lib.hid (show x < 2 ^ 64 by first | exact tR _ | omega)
    have q : decide (0 ≤ s) = true := decide_eq_true hc
    have q2 : IntKind.u64.wrap (-(x : Int)) = ((Pl.u64 (-(x : Int)) : Nat) : Int) := wrap_u64 _
    clear hf hss hxx hc bx
    go_wp2_with (first | (go_at_call 82; ((with_reducible refine (v6 _).mono ?_); rintro e w' ⟨rfl, rfl⟩)) | (with_reducible refine mG rfl _ rfl _ rfl _ (hs.kb.get hA (by omega)) ?_) | ((with_reducible refine tF ?_ _ rfl _ rfl _ (hs.kb.get hA (by omega)) ?_); (focus rfl)) | (with_reducible refine mG rfl _ rfl _ rfl _ hs.this ?_) | (go_at_call 74; (with_reducible refine (HG.out _).mono ?_); rintro e u ⟨rfl, hb⟩; replace hs := hs.below hb; clear hb) | (go_at_call 73; (with_reducible refine (HS.out _).mono ?_); rintro e u ⟨rfl, hb⟩; replace hs := hs.below hb; clear hb) | (go_at_call 68; (with_reducible refine (uA (mJ 0#128 8 (tC 8 0 v) i) _ _ i x _ rfl rfl hlt HZ2.out).mono ?_); rintro e u ⟨rfl, hb⟩; replace hs := hs.below hb; clear hb) | (with_reducible refine mK rfl _ _ rfl O _ rfl rfl _ hs.this ?_; intro wq hq; replace hs := hs.sets hq; clear hq))
    go_roundw
    case rel => exact xH
    case measure => exact xL
   ·as_aux_lemma =>
    have hf : tC 8 0 v i = (Pl.u64 (-(x : Int))) := by
     show (if sgn 8 (mT v 8 i) < 0 then _ else _) = _
     exact kG
    have HE := Lib.hid (pJ 8 (tC 8 0 v) 0#128 i (Pl.u64 (-(x : Int))) (by rw [hf]))
    have HZ2 := Lib.hid (show (Pl.u64 (-(x : Int))) < 2 ^ 64 by first | exact tR _ | omega)
    have q : decide (0 ≤ s) = false := decide_eq_false hc
    have q2 : IntKind.u64.wrap (-(x : Int)) = ((Pl.u64 (-(x : Int)) : Nat) : Int) := wrap_u64 _
    clear hf hss hxx hc bx
    go_wp2_with (first | (go_at_call 82; ((with_reducible refine (v6 _).mono ?_); rintro e w' ⟨rfl, rfl⟩)) | (with_reducible refine mG rfl _ rfl _ rfl _ (hs.kb.get hA (by omega)) ?_) | ((with_reducible refine tF ?_ _ rfl _ rfl _ (hs.kb.get hA (by omega)) ?_); (focus rfl)) | (with_reducible refine mG rfl _ rfl _ rfl _ hs.this ?_) | (go_at_call 74; (with_reducible refine (HG.out _).mono ?_); rintro e u ⟨rfl, hb⟩; replace hs := hs.below hb; clear hb) | (go_at_call 73; (with_reducible refine (HS.out _).mono ?_); rintro e u ⟨rfl, hb⟩; replace hs := hs.below hb; clear hb) | (go_at_call 68; (with_reducible refine (uA (mJ 0#128 8 (tC 8 0 v) i) _ _ i (Pl.u64 (-(x : Int))) _ rfl rfl hlt HZ2.out).mono ?_); rintro e u ⟨rfl, hb⟩; replace hs := hs.below hb; clear hb) | (with_reducible refine mK rfl _ _ rfl O _ rfl rfl _ hs.this ?_; intro wq hq; replace hs := hs.sets hq; clear hq))
    go_roundw
    case rel => exact xH
    case measure => exact xL
  ·obtain rfl : i = 16 := by omega
   have hR' := hs.kb.get hR (by omega)
   go_wp2_with (first | (go_at_call 82; ((with_reducible refine (v6 _).mono ?_); rintro e w' ⟨rfl, rfl⟩)) | (with_reducible refine mG rfl _ rfl _ rfl _ hs.this ?_) | (with_reducible refine mK rfl _ _ rfl (w.heap.size + 1) _ rfl rfl _ hR' ?_; intro wq hq))
   refine bodyPost_ret (mS rfl _ _ (w.heap.size + 1) _ _ rfl rfl hq.this) rfl ⟨?_, (hs.kb.to_below hZ hWO).trans (hq.below.mono (by omega))⟩
   exact congrArg (fun z => Ending.returned (.tuple #[.agg (mY z), .int .i64 0])) (rJ 8 (tC 8 0 v) v (by decide))
set_option maxRecDepth 100000 in
theorem run_8_1 (v : Vec) (w : World) : Calls Try.prog 76 #[.int .i64 64865, .agg (mY v)] w fun e w' => e = .returned (.tuple #[.agg (mY (vu3 8 1 v)), .int .i64 0]) ∧ Below w.heap.size w w' := by
 have hs : HL w [(w.heap.size + 1, 0), (w.heap.size, v)] _ := HL.two w v 0
 rw [mU] at hs
 have T := Lib.hid (fun W => tY 64865 W (by decide))
 rw [show wF 64865 = 8 by decide] at T
 have K := Lib.hid (fun W => tE 64865 1 W (by decide) (by decide) (by decide))
 go_enter Try.func76, Try.ntmps76
 go_wp2_with (first | (go_at_call 85; (with_reducible refine (T.out _).mono ?_); rintro e u ⟨rfl, hb⟩; replace hs := hs.below hb; clear hb) | (go_at_call 86; (with_reducible refine (K.out _).mono ?_); rintro e u ⟨rfl, hb⟩; replace hs := hs.below hb; clear hb))
 rw [← mU]
 obtain ⟨O, W, hOO, hW, hA, hR, hO, hZ, nR, hWO⟩ := zH hs
 rw [← hOO]
 rw [← hW]
 clear hW hOO hs T K u
 go_loopw [9] (fun iv wr => ∃ i : Nat, i ≤ 16 ∧ iv = .int .i64 i ∧ St W O (mJ 0#128 8 (tC 8 1 v) i) wr) (fun iv _ => 16 - (intOf iv).toNat)
 case atStart => exact xE
 case round =>
  obtain ⟨i, hi, rfl, hs⟩ := hrel
  by_cases hlt : i < 16
  ·obtain ⟨x, hxx⟩ : ∃ x, x = mT v 8 i := ⟨_, rfl⟩
   have bx : x < 256 := hxx ▸ mL v 8 i
   have G := fun W => fC v i i W rfl hlt
   have S := fun W => uD v i i W rfl hlt
   rw [← hxx] at G S
   obtain ⟨s, hss⟩ : ∃ s, s = sgn 8 x := ⟨_, rfl⟩
   rw [← hss] at S
   have HG := Lib.hid G
   have HS := Lib.hid S
   clear G S
   have hf : tC 8 1 v i = (Pl.u64 (-(x : Int))) := by
    show Pl.u64 (-(mT v 8 i : Int)) = _
    rw [← hxx]
   have HE := Lib.hid (pJ 8 (tC 8 1 v) 0#128 i (Pl.u64 (-(x : Int))) (by rw [hf]))
   have HZ2 := Lib.hid (show (Pl.u64 (-(x : Int))) < 2 ^ 64 from tR _)
   have q2 : IntKind.u64.wrap (-(x : Int)) = ((Pl.u64 (-(x : Int)) : Nat) : Int) := wrap_u64 _
   clear hf hss hxx bx
   go_wp2_with (first | (go_at_call 82; ((with_reducible refine (v6 _).mono ?_); rintro e w' ⟨rfl, rfl⟩)) | (with_reducible refine mG rfl _ rfl _ rfl _ (hs.kb.get hA (by omega)) ?_) | ((with_reducible refine tF ?_ _ rfl _ rfl _ (hs.kb.get hA (by omega)) ?_); (focus rfl)) | (with_reducible refine mG rfl _ rfl _ rfl _ hs.this ?_) | (go_at_call 74; (with_reducible refine (HG.out _).mono ?_); rintro e u ⟨rfl, hb⟩; replace hs := hs.below hb; clear hb) | (go_at_call 73; (with_reducible refine (HS.out _).mono ?_); rintro e u ⟨rfl, hb⟩; replace hs := hs.below hb; clear hb) | (go_at_call 68; (with_reducible refine (uA (mJ 0#128 8 (tC 8 1 v) i) _ _ i (Pl.u64 (-(x : Int))) _ rfl rfl hlt HZ2.out).mono ?_); rintro e u ⟨rfl, hb⟩; replace hs := hs.below hb; clear hb) | (with_reducible refine mK rfl _ _ rfl O _ rfl rfl _ hs.this ?_; intro wq hq; replace hs := hs.sets hq; clear hq))
   go_roundw
   case rel => exact xH
   case measure => exact xL
  ·obtain rfl : i = 16 := by omega
   have hR' := hs.kb.get hR (by omega)
   go_wp2_with (first | (go_at_call 82; ((with_reducible refine (v6 _).mono ?_); rintro e w' ⟨rfl, rfl⟩)) | (with_reducible refine mG rfl _ rfl _ rfl _ hs.this ?_) | (with_reducible refine mK rfl _ _ rfl (w.heap.size + 1) _ rfl rfl _ hR' ?_; intro wq hq))
   refine bodyPost_ret (mS rfl _ _ (w.heap.size + 1) _ _ rfl rfl hq.this) rfl ⟨?_, (hs.kb.to_below hZ hWO).trans (hq.below.mono (by omega))⟩
   exact congrArg (fun z => Ending.returned (.tuple #[.agg (mY z), .int .i64 0])) (rJ 8 (tC 8 1 v) v (by decide))
set_option maxRecDepth 100000 in
theorem run_16_0 (v : Vec) (w : World) : Calls Try.prog 76 #[.int .i64 64896, .agg (mY v)] w fun e w' => e = .returned (.tuple #[.agg (mY (vu3 16 0 v)), .int .i64 0]) ∧ Below w.heap.size w w' := by
 have hs : HL w [(w.heap.size + 1, 0), (w.heap.size, v)] _ := HL.two w v 0
 rw [mU] at hs
 have T := Lib.hid (fun W => tY 64896 W (by decide))
 rw [show wF 64896 = 16 by decide] at T
 have K := Lib.hid (fun W => tE 64896 0 W (by decide) (by decide) (by decide))
 go_enter Try.func76, Try.ntmps76
 go_wp2_with (first | (go_at_call 85; (with_reducible refine (T.out _).mono ?_); rintro e u ⟨rfl, hb⟩; replace hs := hs.below hb; clear hb) | (go_at_call 86; (with_reducible refine (K.out _).mono ?_); rintro e u ⟨rfl, hb⟩; replace hs := hs.below hb; clear hb))
 rw [← mU]
 obtain ⟨O, W, hOO, hW, hA, hR, hO, hZ, nR, hWO⟩ := zH hs
 rw [← hOO]
 rw [← hW]
 clear hW hOO hs T K u
 go_loopw [9] (fun iv wr => ∃ i : Nat, i ≤ 8 ∧ iv = .int .i64 i ∧ St W O (mJ 0#128 16 (tC 16 0 v) i) wr) (fun iv _ => 8 - (intOf iv).toNat)
 case atStart => exact xE
 case round =>
  obtain ⟨i, hi, rfl, hs⟩ := hrel
  by_cases hlt : i < 8
  ·obtain ⟨x, hxx⟩ : ∃ x, x = mT v 16 i := ⟨_, rfl⟩
   have bx : x < 65536 := hxx ▸ mL v 16 i
   have G := fun W => vA v i i W rfl hlt
   have S := fun W => v3 v i i W rfl hlt
   rw [← hxx] at G S
   obtain ⟨s, hss⟩ : ∃ s, s = sgn 16 x := ⟨_, rfl⟩
   rw [← hss] at S
   have HG := Lib.hid G
   have HS := Lib.hid S
   clear G S
   by_cases hc : 0 ≤ s
   ·as_aux_lemma =>
    have hf : tC 16 0 v i = x := by
     show (if sgn 16 (mT v 16 i) < 0 then _ else _) = _
     exact kV
    have HE := Lib.hid (pJ 16 (tC 16 0 v) 0#128 i x (by rw [hf]))
    have HZ2 := Lib.hid (show x < 2 ^ 64 by first | exact tR _ | omega)
    have q : decide (0 ≤ s) = true := decide_eq_true hc
    have q2 : IntKind.u64.wrap (-(x : Int)) = ((Pl.u64 (-(x : Int)) : Nat) : Int) := wrap_u64 _
    clear hf hss hxx hc bx
    go_wp2_with (first | (go_at_call 82; ((with_reducible refine (pP _).mono ?_); rintro e w' ⟨rfl, rfl⟩)) | (with_reducible refine mG rfl _ rfl _ rfl _ (hs.kb.get hA (by omega)) ?_) | ((with_reducible refine tF ?_ _ rfl _ rfl _ (hs.kb.get hA (by omega)) ?_); (focus rfl)) | (with_reducible refine mG rfl _ rfl _ rfl _ hs.this ?_) | (go_at_call 74; (with_reducible refine (HG.out _).mono ?_); rintro e u ⟨rfl, hb⟩; replace hs := hs.below hb; clear hb) | (go_at_call 73; (with_reducible refine (HS.out _).mono ?_); rintro e u ⟨rfl, hb⟩; replace hs := hs.below hb; clear hb) | (go_at_call 68; (with_reducible refine (v4 (mJ 0#128 16 (tC 16 0 v) i) _ _ i x _ rfl rfl hlt HZ2.out).mono ?_); rintro e u ⟨rfl, hb⟩; replace hs := hs.below hb; clear hb) | (with_reducible refine mK rfl _ _ rfl O _ rfl rfl _ hs.this ?_; intro wq hq; replace hs := hs.sets hq; clear hq))
    go_roundw
    case rel => exact xH
    case measure => exact xL
   ·as_aux_lemma =>
    have hf : tC 16 0 v i = (Pl.u64 (-(x : Int))) := by
     show (if sgn 16 (mT v 16 i) < 0 then _ else _) = _
     exact kG
    have HE := Lib.hid (pJ 16 (tC 16 0 v) 0#128 i (Pl.u64 (-(x : Int))) (by rw [hf]))
    have HZ2 := Lib.hid (show (Pl.u64 (-(x : Int))) < 2 ^ 64 by first | exact tR _ | omega)
    have q : decide (0 ≤ s) = false := decide_eq_false hc
    have q2 : IntKind.u64.wrap (-(x : Int)) = ((Pl.u64 (-(x : Int)) : Nat) : Int) := wrap_u64 _
    clear hf hss hxx hc bx
    go_wp2_with (first | (go_at_call 82; ((with_reducible refine (pP _).mono ?_); rintro e w' ⟨rfl, rfl⟩)) | (with_reducible refine mG rfl _ rfl _ rfl _ (hs.kb.get hA (by omega)) ?_) | ((with_reducible refine tF ?_ _ rfl _ rfl _ (hs.kb.get hA (by omega)) ?_); (focus rfl)) | (with_reducible refine mG rfl _ rfl _ rfl _ hs.this ?_) | (go_at_call 74; (with_reducible refine (HG.out _).mono ?_); rintro e u ⟨rfl, hb⟩; replace hs := hs.below hb; clear hb) | (go_at_call 73; (with_reducible refine (HS.out _).mono ?_); rintro e u ⟨rfl, hb⟩; replace hs := hs.below hb; clear hb) | (go_at_call 68; (with_reducible refine (v4 (mJ 0#128 16 (tC 16 0 v) i) _ _ i (Pl.u64 (-(x : Int))) _ rfl rfl hlt HZ2.out).mono ?_); rintro e u ⟨rfl, hb⟩; replace hs := hs.below hb; clear hb) | (with_reducible refine mK rfl _ _ rfl O _ rfl rfl _ hs.this ?_; intro wq hq; replace hs := hs.sets hq; clear hq))
    go_roundw
    case rel => exact xH
    case measure => exact xL
  ·obtain rfl : i = 8 := by omega
   have hR' := hs.kb.get hR (by omega)
   go_wp2_with (first | (go_at_call 82; ((with_reducible refine (pP _).mono ?_); rintro e w' ⟨rfl, rfl⟩)) | (with_reducible refine mG rfl _ rfl _ rfl _ hs.this ?_) | (with_reducible refine mK rfl _ _ rfl (w.heap.size + 1) _ rfl rfl _ hR' ?_; intro wq hq))
   refine bodyPost_ret (mS rfl _ _ (w.heap.size + 1) _ _ rfl rfl hq.this) rfl ⟨?_, (hs.kb.to_below hZ hWO).trans (hq.below.mono (by omega))⟩
   exact congrArg (fun z => Ending.returned (.tuple #[.agg (mY z), .int .i64 0])) (rJ 16 (tC 16 0 v) v (by decide))
set_option maxRecDepth 100000 in
theorem run_16_1 (v : Vec) (w : World) : Calls Try.prog 76 #[.int .i64 64897, .agg (mY v)] w fun e w' => e = .returned (.tuple #[.agg (mY (vu3 16 1 v)), .int .i64 0]) ∧ Below w.heap.size w w' := by
 have hs : HL w [(w.heap.size + 1, 0), (w.heap.size, v)] _ := HL.two w v 0
 rw [mU] at hs
 have T := Lib.hid (fun W => tY 64897 W (by decide))
 rw [show wF 64897 = 16 by decide] at T
 have K := Lib.hid (fun W => tE 64897 1 W (by decide) (by decide) (by decide))
 go_enter Try.func76, Try.ntmps76
 go_wp2_with (first | (go_at_call 85; (with_reducible refine (T.out _).mono ?_); rintro e u ⟨rfl, hb⟩; replace hs := hs.below hb; clear hb) | (go_at_call 86; (with_reducible refine (K.out _).mono ?_); rintro e u ⟨rfl, hb⟩; replace hs := hs.below hb; clear hb))
 rw [← mU]
 obtain ⟨O, W, hOO, hW, hA, hR, hO, hZ, nR, hWO⟩ := zH hs
 rw [← hOO]
 rw [← hW]
 clear hW hOO hs T K u
 go_loopw [9] (fun iv wr => ∃ i : Nat, i ≤ 8 ∧ iv = .int .i64 i ∧ St W O (mJ 0#128 16 (tC 16 1 v) i) wr) (fun iv _ => 8 - (intOf iv).toNat)
 case atStart => exact xE
 case round =>
  obtain ⟨i, hi, rfl, hs⟩ := hrel
  by_cases hlt : i < 8
  ·obtain ⟨x, hxx⟩ : ∃ x, x = mT v 16 i := ⟨_, rfl⟩
   have bx : x < 65536 := hxx ▸ mL v 16 i
   have G := fun W => vA v i i W rfl hlt
   have S := fun W => v3 v i i W rfl hlt
   rw [← hxx] at G S
   obtain ⟨s, hss⟩ : ∃ s, s = sgn 16 x := ⟨_, rfl⟩
   rw [← hss] at S
   have HG := Lib.hid G
   have HS := Lib.hid S
   clear G S
   have hf : tC 16 1 v i = (Pl.u64 (-(x : Int))) := by
    show Pl.u64 (-(mT v 16 i : Int)) = _
    rw [← hxx]
   have HE := Lib.hid (pJ 16 (tC 16 1 v) 0#128 i (Pl.u64 (-(x : Int))) (by rw [hf]))
   have HZ2 := Lib.hid (show (Pl.u64 (-(x : Int))) < 2 ^ 64 from tR _)
   have q2 : IntKind.u64.wrap (-(x : Int)) = ((Pl.u64 (-(x : Int)) : Nat) : Int) := wrap_u64 _
   clear hf hss hxx bx
   go_wp2_with (first | (go_at_call 82; ((with_reducible refine (pP _).mono ?_); rintro e w' ⟨rfl, rfl⟩)) | (with_reducible refine mG rfl _ rfl _ rfl _ (hs.kb.get hA (by omega)) ?_) | ((with_reducible refine tF ?_ _ rfl _ rfl _ (hs.kb.get hA (by omega)) ?_); (focus rfl)) | (with_reducible refine mG rfl _ rfl _ rfl _ hs.this ?_) | (go_at_call 74; (with_reducible refine (HG.out _).mono ?_); rintro e u ⟨rfl, hb⟩; replace hs := hs.below hb; clear hb) | (go_at_call 73; (with_reducible refine (HS.out _).mono ?_); rintro e u ⟨rfl, hb⟩; replace hs := hs.below hb; clear hb) | (go_at_call 68; (with_reducible refine (v4 (mJ 0#128 16 (tC 16 1 v) i) _ _ i (Pl.u64 (-(x : Int))) _ rfl rfl hlt HZ2.out).mono ?_); rintro e u ⟨rfl, hb⟩; replace hs := hs.below hb; clear hb) | (with_reducible refine mK rfl _ _ rfl O _ rfl rfl _ hs.this ?_; intro wq hq; replace hs := hs.sets hq; clear hq))
   go_roundw
   case rel => exact xH
   case measure => exact xL
  ·obtain rfl : i = 8 := by omega
   have hR' := hs.kb.get hR (by omega)
   go_wp2_with (first | (go_at_call 82; ((with_reducible refine (pP _).mono ?_); rintro e w' ⟨rfl, rfl⟩)) | (with_reducible refine mG rfl _ rfl _ rfl _ hs.this ?_) | (with_reducible refine mK rfl _ _ rfl (w.heap.size + 1) _ rfl rfl _ hR' ?_; intro wq hq))
   refine bodyPost_ret (mS rfl _ _ (w.heap.size + 1) _ _ rfl rfl hq.this) rfl ⟨?_, (hs.kb.to_below hZ hWO).trans (hq.below.mono (by omega))⟩
   exact congrArg (fun z => Ending.returned (.tuple #[.agg (mY z), .int .i64 0])) (rJ 16 (tC 16 1 v) v (by decide))
set_option maxRecDepth 100000 in
theorem run_32_0 (v : Vec) (w : World) : Calls Try.prog 76 #[.int .i64 64928, .agg (mY v)] w fun e w' => e = .returned (.tuple #[.agg (mY (vu3 32 0 v)), .int .i64 0]) ∧ Below w.heap.size w w' := by
 have hs : HL w [(w.heap.size + 1, 0), (w.heap.size, v)] _ := HL.two w v 0
 rw [mU] at hs
 have T := Lib.hid (fun W => tY 64928 W (by decide))
 rw [show wF 64928 = 32 by decide] at T
 have K := Lib.hid (fun W => tE 64928 0 W (by decide) (by decide) (by decide))
 go_enter Try.func76, Try.ntmps76
 go_wp2_with (first | (go_at_call 85; (with_reducible refine (T.out _).mono ?_); rintro e u ⟨rfl, hb⟩; replace hs := hs.below hb; clear hb) | (go_at_call 86; (with_reducible refine (K.out _).mono ?_); rintro e u ⟨rfl, hb⟩; replace hs := hs.below hb; clear hb))
 rw [← mU]
 obtain ⟨O, W, hOO, hW, hA, hR, hO, hZ, nR, hWO⟩ := zH hs
 rw [← hOO]
 rw [← hW]
 clear hW hOO hs T K u
 go_loopw [9] (fun iv wr => ∃ i : Nat, i ≤ 4 ∧ iv = .int .i64 i ∧ St W O (mJ 0#128 32 (tC 32 0 v) i) wr) (fun iv _ => 4 - (intOf iv).toNat)
 case atStart => exact xE
 case round =>
  obtain ⟨i, hi, rfl, hs⟩ := hrel
  by_cases hlt : i < 4
  ·obtain ⟨x, hxx⟩ : ∃ x, x = mT v 32 i := ⟨_, rfl⟩
   have bx : x < 4294967296 := hxx ▸ mL v 32 i
   have G := fun W => vL v i i W rfl hlt
   have S := fun W => rY v i i W rfl hlt
   rw [← hxx] at G S
   obtain ⟨s, hss⟩ : ∃ s, s = sgn 32 x := ⟨_, rfl⟩
   rw [← hss] at S
   have HG := Lib.hid G
   have HS := Lib.hid S
   clear G S
   by_cases hc : 0 ≤ s
   ·as_aux_lemma =>
    have hf : tC 32 0 v i = x := by
     show (if sgn 32 (mT v 32 i) < 0 then _ else _) = _
     exact kV
    have HE := Lib.hid (pJ 32 (tC 32 0 v) 0#128 i x (by rw [hf]))
    have HZ2 := Lib.hid (show x < 2 ^ 64 by first | exact tR _ | omega)
    have q : decide (0 ≤ s) = true := decide_eq_true hc
    have q2 : IntKind.u64.wrap (-(x : Int)) = ((Pl.u64 (-(x : Int)) : Nat) : Int) := wrap_u64 _
    clear hf hss hxx hc bx
    go_wp2_with (first | (go_at_call 82; ((with_reducible refine (pR _).mono ?_); rintro e w' ⟨rfl, rfl⟩)) | (with_reducible refine mG rfl _ rfl _ rfl _ (hs.kb.get hA (by omega)) ?_) | ((with_reducible refine tF ?_ _ rfl _ rfl _ (hs.kb.get hA (by omega)) ?_); (focus rfl)) | (with_reducible refine mG rfl _ rfl _ rfl _ hs.this ?_) | (go_at_call 74; (with_reducible refine (HG.out _).mono ?_); rintro e u ⟨rfl, hb⟩; replace hs := hs.below hb; clear hb) | (go_at_call 73; (with_reducible refine (HS.out _).mono ?_); rintro e u ⟨rfl, hb⟩; replace hs := hs.below hb; clear hb) | (go_at_call 68; (with_reducible refine (vM (mJ 0#128 32 (tC 32 0 v) i) _ _ i x _ rfl rfl hlt HZ2.out).mono ?_); rintro e u ⟨rfl, hb⟩; replace hs := hs.below hb; clear hb) | (with_reducible refine mK rfl _ _ rfl O _ rfl rfl _ hs.this ?_; intro wq hq; replace hs := hs.sets hq; clear hq))
    go_roundw
    case rel => exact xH
    case measure => exact xL
   ·as_aux_lemma =>
    have hf : tC 32 0 v i = (Pl.u64 (-(x : Int))) := by
     show (if sgn 32 (mT v 32 i) < 0 then _ else _) = _
     exact kG
    have HE := Lib.hid (pJ 32 (tC 32 0 v) 0#128 i (Pl.u64 (-(x : Int))) (by rw [hf]))
    have HZ2 := Lib.hid (show (Pl.u64 (-(x : Int))) < 2 ^ 64 by first | exact tR _ | omega)
    have q : decide (0 ≤ s) = false := decide_eq_false hc
    have q2 : IntKind.u64.wrap (-(x : Int)) = ((Pl.u64 (-(x : Int)) : Nat) : Int) := wrap_u64 _
    clear hf hss hxx hc bx
    go_wp2_with (first | (go_at_call 82; ((with_reducible refine (pR _).mono ?_); rintro e w' ⟨rfl, rfl⟩)) | (with_reducible refine mG rfl _ rfl _ rfl _ (hs.kb.get hA (by omega)) ?_) | ((with_reducible refine tF ?_ _ rfl _ rfl _ (hs.kb.get hA (by omega)) ?_); (focus rfl)) | (with_reducible refine mG rfl _ rfl _ rfl _ hs.this ?_) | (go_at_call 74; (with_reducible refine (HG.out _).mono ?_); rintro e u ⟨rfl, hb⟩; replace hs := hs.below hb; clear hb) | (go_at_call 73; (with_reducible refine (HS.out _).mono ?_); rintro e u ⟨rfl, hb⟩; replace hs := hs.below hb; clear hb) | (go_at_call 68; (with_reducible refine (vM (mJ 0#128 32 (tC 32 0 v) i) _ _ i (Pl.u64 (-(x : Int))) _ rfl rfl hlt HZ2.out).mono ?_); rintro e u ⟨rfl, hb⟩; replace hs := hs.below hb; clear hb) | (with_reducible refine mK rfl _ _ rfl O _ rfl rfl _ hs.this ?_; intro wq hq; replace hs := hs.sets hq; clear hq))
    go_roundw
    case rel => exact xH
    case measure => exact xL
  ·obtain rfl : i = 4 := by omega
   have hR' := hs.kb.get hR (by omega)
   go_wp2_with (first | (go_at_call 82; ((with_reducible refine (pR _).mono ?_); rintro e w' ⟨rfl, rfl⟩)) | (with_reducible refine mG rfl _ rfl _ rfl _ hs.this ?_) | (with_reducible refine mK rfl _ _ rfl (w.heap.size + 1) _ rfl rfl _ hR' ?_; intro wq hq))
   refine bodyPost_ret (mS rfl _ _ (w.heap.size + 1) _ _ rfl rfl hq.this) rfl ⟨?_, (hs.kb.to_below hZ hWO).trans (hq.below.mono (by omega))⟩
   exact congrArg (fun z => Ending.returned (.tuple #[.agg (mY z), .int .i64 0])) (rJ 32 (tC 32 0 v) v (by decide))
set_option maxRecDepth 100000 in
theorem run_32_1 (v : Vec) (w : World) : Calls Try.prog 76 #[.int .i64 64929, .agg (mY v)] w fun e w' => e = .returned (.tuple #[.agg (mY (vu3 32 1 v)), .int .i64 0]) ∧ Below w.heap.size w w' := by
 have hs : HL w [(w.heap.size + 1, 0), (w.heap.size, v)] _ := HL.two w v 0
 rw [mU] at hs
 have T := Lib.hid (fun W => tY 64929 W (by decide))
 rw [show wF 64929 = 32 by decide] at T
 have K := Lib.hid (fun W => tE 64929 1 W (by decide) (by decide) (by decide))
 go_enter Try.func76, Try.ntmps76
 go_wp2_with (first | (go_at_call 85; (with_reducible refine (T.out _).mono ?_); rintro e u ⟨rfl, hb⟩; replace hs := hs.below hb; clear hb) | (go_at_call 86; (with_reducible refine (K.out _).mono ?_); rintro e u ⟨rfl, hb⟩; replace hs := hs.below hb; clear hb))
 rw [← mU]
 obtain ⟨O, W, hOO, hW, hA, hR, hO, hZ, nR, hWO⟩ := zH hs
 rw [← hOO]
 rw [← hW]
 clear hW hOO hs T K u
 go_loopw [9] (fun iv wr => ∃ i : Nat, i ≤ 4 ∧ iv = .int .i64 i ∧ St W O (mJ 0#128 32 (tC 32 1 v) i) wr) (fun iv _ => 4 - (intOf iv).toNat)
 case atStart => exact xE
 case round =>
  obtain ⟨i, hi, rfl, hs⟩ := hrel
  by_cases hlt : i < 4
  ·obtain ⟨x, hxx⟩ : ∃ x, x = mT v 32 i := ⟨_, rfl⟩
   have bx : x < 4294967296 := hxx ▸ mL v 32 i
   have G := fun W => vL v i i W rfl hlt
   have S := fun W => rY v i i W rfl hlt
   rw [← hxx] at G S
   obtain ⟨s, hss⟩ : ∃ s, s = sgn 32 x := ⟨_, rfl⟩
   rw [← hss] at S
   have HG := Lib.hid G
   have HS := Lib.hid S
   clear G S
   have hf : tC 32 1 v i = (Pl.u64 (-(x : Int))) := by
    show Pl.u64 (-(mT v 32 i : Int)) = _
    rw [← hxx]
   have HE := Lib.hid (pJ 32 (tC 32 1 v) 0#128 i (Pl.u64 (-(x : Int))) (by rw [hf]))
   have HZ2 := Lib.hid (show (Pl.u64 (-(x : Int))) < 2 ^ 64 from tR _)
   have q2 : IntKind.u64.wrap (-(x : Int)) = ((Pl.u64 (-(x : Int)) : Nat) : Int) := wrap_u64 _
   clear hf hss hxx bx
   go_wp2_with (first | (go_at_call 82; ((with_reducible refine (pR _).mono ?_); rintro e w' ⟨rfl, rfl⟩)) | (with_reducible refine mG rfl _ rfl _ rfl _ (hs.kb.get hA (by omega)) ?_) | ((with_reducible refine tF ?_ _ rfl _ rfl _ (hs.kb.get hA (by omega)) ?_); (focus rfl)) | (with_reducible refine mG rfl _ rfl _ rfl _ hs.this ?_) | (go_at_call 74; (with_reducible refine (HG.out _).mono ?_); rintro e u ⟨rfl, hb⟩; replace hs := hs.below hb; clear hb) | (go_at_call 73; (with_reducible refine (HS.out _).mono ?_); rintro e u ⟨rfl, hb⟩; replace hs := hs.below hb; clear hb) | (go_at_call 68; (with_reducible refine (vM (mJ 0#128 32 (tC 32 1 v) i) _ _ i (Pl.u64 (-(x : Int))) _ rfl rfl hlt HZ2.out).mono ?_); rintro e u ⟨rfl, hb⟩; replace hs := hs.below hb; clear hb) | (with_reducible refine mK rfl _ _ rfl O _ rfl rfl _ hs.this ?_; intro wq hq; replace hs := hs.sets hq; clear hq))
   go_roundw
   case rel => exact xH
   case measure => exact xL
  ·obtain rfl : i = 4 := by omega
   have hR' := hs.kb.get hR (by omega)
   go_wp2_with (first | (go_at_call 82; ((with_reducible refine (pR _).mono ?_); rintro e w' ⟨rfl, rfl⟩)) | (with_reducible refine mG rfl _ rfl _ rfl _ hs.this ?_) | (with_reducible refine mK rfl _ _ rfl (w.heap.size + 1) _ rfl rfl _ hR' ?_; intro wq hq))
   refine bodyPost_ret (mS rfl _ _ (w.heap.size + 1) _ _ rfl rfl hq.this) rfl ⟨?_, (hs.kb.to_below hZ hWO).trans (hq.below.mono (by omega))⟩
   exact congrArg (fun z => Ending.returned (.tuple #[.agg (mY z), .int .i64 0])) (rJ 32 (tC 32 1 v) v (by decide))
set_option maxRecDepth 100000 in
theorem run_64_0 (v : Vec) (w : World) : Calls Try.prog 76 #[.int .i64 64960, .agg (mY v)] w fun e w' => e = .returned (.tuple #[.agg (mY (vu3 64 0 v)), .int .i64 0]) ∧ Below w.heap.size w w' := by
 have hs : HL w [(w.heap.size + 1, 0), (w.heap.size, v)] _ := HL.two w v 0
 rw [mU] at hs
 have T := Lib.hid (fun W => tY 64960 W (by decide))
 rw [show wF 64960 = 64 by decide] at T
 have K := Lib.hid (fun W => tE 64960 0 W (by decide) (by decide) (by decide))
 go_enter Try.func76, Try.ntmps76
 go_wp2_with (first | (go_at_call 85; (with_reducible refine (T.out _).mono ?_); rintro e u ⟨rfl, hb⟩; replace hs := hs.below hb; clear hb) | (go_at_call 86; (with_reducible refine (K.out _).mono ?_); rintro e u ⟨rfl, hb⟩; replace hs := hs.below hb; clear hb))
 rw [← mU]
 obtain ⟨O, W, hOO, hW, hA, hR, hO, hZ, nR, hWO⟩ := zH hs
 rw [← hOO]
 rw [← hW]
 clear hW hOO hs T K u
 go_loopw [9] (fun iv wr => ∃ i : Nat, i ≤ 2 ∧ iv = .int .i64 i ∧ St W O (mJ 0#128 64 (tC 64 0 v) i) wr) (fun iv _ => 2 - (intOf iv).toNat)
 case atStart => exact xE
 case round =>
  obtain ⟨i, hi, rfl, hs⟩ := hrel
  by_cases hlt : i < 2
  ·obtain ⟨x, hxx⟩ : ∃ x, x = mT v 64 i := ⟨_, rfl⟩
   have bx : x < 18446744073709551616 := hxx ▸ mL v 64 i
   have G := fun W => vU v i i W rfl hlt
   have S := fun W => uB v i i W rfl hlt
   rw [← hxx] at G S
   obtain ⟨s, hss⟩ : ∃ s, s = sgn 64 x := ⟨_, rfl⟩
   rw [← hss] at S
   have HG := Lib.hid G
   have HS := Lib.hid S
   clear G S
   by_cases hc : 0 ≤ s
   ·as_aux_lemma =>
    have hf : tC 64 0 v i = x := by
     show (if sgn 64 (mT v 64 i) < 0 then _ else _) = _
     exact kV
    have HE := Lib.hid (pJ 64 (tC 64 0 v) 0#128 i x (by rw [hf]))
    have HZ2 := Lib.hid (show x < 2 ^ 64 by first | exact tR _ | omega)
    have q : decide (0 ≤ s) = true := decide_eq_true hc
    have q2 : IntKind.u64.wrap (-(x : Int)) = ((Pl.u64 (-(x : Int)) : Nat) : Int) := wrap_u64 _
    clear hf hss hxx hc bx
    go_wp2_with (first | (go_at_call 82; ((with_reducible refine (pH _).mono ?_); rintro e w' ⟨rfl, rfl⟩)) | (with_reducible refine mG rfl _ rfl _ rfl _ (hs.kb.get hA (by omega)) ?_) | ((with_reducible refine tF ?_ _ rfl _ rfl _ (hs.kb.get hA (by omega)) ?_); (focus rfl)) | (with_reducible refine mG rfl _ rfl _ rfl _ hs.this ?_) | (go_at_call 74; (with_reducible refine (HG.out _).mono ?_); rintro e u ⟨rfl, hb⟩; replace hs := hs.below hb; clear hb) | (go_at_call 73; (with_reducible refine (HS.out _).mono ?_); rintro e u ⟨rfl, hb⟩; replace hs := hs.below hb; clear hb) | (go_at_call 68; (with_reducible refine (vN (mJ 0#128 64 (tC 64 0 v) i) _ _ i x _ rfl rfl hlt HZ2.out).mono ?_); rintro e u ⟨rfl, hb⟩; replace hs := hs.below hb; clear hb) | (with_reducible refine mK rfl _ _ rfl O _ rfl rfl _ hs.this ?_; intro wq hq; replace hs := hs.sets hq; clear hq))
    go_roundw
    case rel => exact xH
    case measure => exact xL
   ·as_aux_lemma =>
    have hf : tC 64 0 v i = (Pl.u64 (-(x : Int))) := by
     show (if sgn 64 (mT v 64 i) < 0 then _ else _) = _
     exact kG
    have HE := Lib.hid (pJ 64 (tC 64 0 v) 0#128 i (Pl.u64 (-(x : Int))) (by rw [hf]))
    have HZ2 := Lib.hid (show (Pl.u64 (-(x : Int))) < 2 ^ 64 by first | exact tR _ | omega)
    have q : decide (0 ≤ s) = false := decide_eq_false hc
    have q2 : IntKind.u64.wrap (-(x : Int)) = ((Pl.u64 (-(x : Int)) : Nat) : Int) := wrap_u64 _
    clear hf hss hxx hc bx
    go_wp2_with (first | (go_at_call 82; ((with_reducible refine (pH _).mono ?_); rintro e w' ⟨rfl, rfl⟩)) | (with_reducible refine mG rfl _ rfl _ rfl _ (hs.kb.get hA (by omega)) ?_) | ((with_reducible refine tF ?_ _ rfl _ rfl _ (hs.kb.get hA (by omega)) ?_); (focus rfl)) | (with_reducible refine mG rfl _ rfl _ rfl _ hs.this ?_) | (go_at_call 74; (with_reducible refine (HG.out _).mono ?_); rintro e u ⟨rfl, hb⟩; replace hs := hs.below hb; clear hb) | (go_at_call 73; (with_reducible refine (HS.out _).mono ?_); rintro e u ⟨rfl, hb⟩; replace hs := hs.below hb; clear hb) | (go_at_call 68; (with_reducible refine (vN (mJ 0#128 64 (tC 64 0 v) i) _ _ i (Pl.u64 (-(x : Int))) _ rfl rfl hlt HZ2.out).mono ?_); rintro e u ⟨rfl, hb⟩; replace hs := hs.below hb; clear hb) | (with_reducible refine mK rfl _ _ rfl O _ rfl rfl _ hs.this ?_; intro wq hq; replace hs := hs.sets hq; clear hq))
    go_roundw
    case rel => exact xH
    case measure => exact xL
  ·obtain rfl : i = 2 := by omega
   have hR' := hs.kb.get hR (by omega)
   go_wp2_with (first | (go_at_call 82; ((with_reducible refine (pH _).mono ?_); rintro e w' ⟨rfl, rfl⟩)) | (with_reducible refine mG rfl _ rfl _ rfl _ hs.this ?_) | (with_reducible refine mK rfl _ _ rfl (w.heap.size + 1) _ rfl rfl _ hR' ?_; intro wq hq))
   refine bodyPost_ret (mS rfl _ _ (w.heap.size + 1) _ _ rfl rfl hq.this) rfl ⟨?_, (hs.kb.to_below hZ hWO).trans (hq.below.mono (by omega))⟩
   exact congrArg (fun z => Ending.returned (.tuple #[.agg (mY z), .int .i64 0])) (rJ 64 (tC 64 0 v) v (by decide))
set_option maxRecDepth 100000 in
theorem run_64_1 (v : Vec) (w : World) : Calls Try.prog 76 #[.int .i64 64961, .agg (mY v)] w fun e w' => e = .returned (.tuple #[.agg (mY (vu3 64 1 v)), .int .i64 0]) ∧ Below w.heap.size w w' := by
 have hs : HL w [(w.heap.size + 1, 0), (w.heap.size, v)] _ := HL.two w v 0
 rw [mU] at hs
 have T := Lib.hid (fun W => tY 64961 W (by decide))
 rw [show wF 64961 = 64 by decide] at T
 have K := Lib.hid (fun W => tE 64961 1 W (by decide) (by decide) (by decide))
 go_enter Try.func76, Try.ntmps76
 go_wp2_with (first | (go_at_call 85; (with_reducible refine (T.out _).mono ?_); rintro e u ⟨rfl, hb⟩; replace hs := hs.below hb; clear hb) | (go_at_call 86; (with_reducible refine (K.out _).mono ?_); rintro e u ⟨rfl, hb⟩; replace hs := hs.below hb; clear hb))
 rw [← mU]
 obtain ⟨O, W, hOO, hW, hA, hR, hO, hZ, nR, hWO⟩ := zH hs
 rw [← hOO]
 rw [← hW]
 clear hW hOO hs T K u
 go_loopw [9] (fun iv wr => ∃ i : Nat, i ≤ 2 ∧ iv = .int .i64 i ∧ St W O (mJ 0#128 64 (tC 64 1 v) i) wr) (fun iv _ => 2 - (intOf iv).toNat)
 case atStart => exact xE
 case round =>
  obtain ⟨i, hi, rfl, hs⟩ := hrel
  by_cases hlt : i < 2
  ·obtain ⟨x, hxx⟩ : ∃ x, x = mT v 64 i := ⟨_, rfl⟩
   have bx : x < 18446744073709551616 := hxx ▸ mL v 64 i
   have G := fun W => vU v i i W rfl hlt
   have S := fun W => uB v i i W rfl hlt
   rw [← hxx] at G S
   obtain ⟨s, hss⟩ : ∃ s, s = sgn 64 x := ⟨_, rfl⟩
   rw [← hss] at S
   have HG := Lib.hid G
   have HS := Lib.hid S
   clear G S
   have hf : tC 64 1 v i = (Pl.u64 (-(x : Int))) := by
    show Pl.u64 (-(mT v 64 i : Int)) = _
    rw [← hxx]
   have HE := Lib.hid (pJ 64 (tC 64 1 v) 0#128 i (Pl.u64 (-(x : Int))) (by rw [hf]))
   have HZ2 := Lib.hid (show (Pl.u64 (-(x : Int))) < 2 ^ 64 from tR _)
   have q2 : IntKind.u64.wrap (-(x : Int)) = ((Pl.u64 (-(x : Int)) : Nat) : Int) := wrap_u64 _
   clear hf hss hxx bx
   go_wp2_with (first | (go_at_call 82; ((with_reducible refine (pH _).mono ?_); rintro e w' ⟨rfl, rfl⟩)) | (with_reducible refine mG rfl _ rfl _ rfl _ (hs.kb.get hA (by omega)) ?_) | ((with_reducible refine tF ?_ _ rfl _ rfl _ (hs.kb.get hA (by omega)) ?_); (focus rfl)) | (with_reducible refine mG rfl _ rfl _ rfl _ hs.this ?_) | (go_at_call 74; (with_reducible refine (HG.out _).mono ?_); rintro e u ⟨rfl, hb⟩; replace hs := hs.below hb; clear hb) | (go_at_call 73; (with_reducible refine (HS.out _).mono ?_); rintro e u ⟨rfl, hb⟩; replace hs := hs.below hb; clear hb) | (go_at_call 68; (with_reducible refine (vN (mJ 0#128 64 (tC 64 1 v) i) _ _ i (Pl.u64 (-(x : Int))) _ rfl rfl hlt HZ2.out).mono ?_); rintro e u ⟨rfl, hb⟩; replace hs := hs.below hb; clear hb) | (with_reducible refine mK rfl _ _ rfl O _ rfl rfl _ hs.this ?_; intro wq hq; replace hs := hs.sets hq; clear hq))
   go_roundw
   case rel => exact xH
   case measure => exact xL
  ·obtain rfl : i = 2 := by omega
   have hR' := hs.kb.get hR (by omega)
   go_wp2_with (first | (go_at_call 82; ((with_reducible refine (pH _).mono ?_); rintro e w' ⟨rfl, rfl⟩)) | (with_reducible refine mG rfl _ rfl _ rfl _ hs.this ?_) | (with_reducible refine mK rfl _ _ rfl (w.heap.size + 1) _ rfl rfl _ hR' ?_; intro wq hq))
   refine bodyPost_ret (mS rfl _ _ (w.heap.size + 1) _ _ rfl rfl hq.this) rfl ⟨?_, (hs.kb.to_below hZ hWO).trans (hq.below.mono (by omega))⟩
   exact congrArg (fun z => Ending.returned (.tuple #[.agg (mY z), .int .i64 0])) (rJ 64 (tC 64 1 v) v (by decide))
end Go.Proofs.Ytcpfabkokgiepaa
