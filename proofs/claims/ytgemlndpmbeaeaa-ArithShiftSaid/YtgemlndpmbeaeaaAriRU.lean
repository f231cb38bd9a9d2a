/-
  plaitref05.Un by width and offset.
-/
import Derived.Test.YtgemlndpmbeaeaaAriRP
import Derived.Test.YtgemlndpmbeaeaaAriLo
set_option linter.unusedSimpArgs false
set_option linter.unusedVariables false
namespace Go.Proofs.Ytgemlndpmbeaeaa
open Go.RowKit Pl

theorem St.eqY {W wr : World} {O : Nat} {X Y : Vec} (h : X = Y) (hs : St W O X wr) : St W O Y wr := h ▸ hs
theorem on_any (w : Nat) (f : Nat → Nat) (v : Vec) (hw : 0 < w ∧ w * (128 / w) = 128) : buildOn 0 w f (128 / w) = buildOn v w f (128 / w) :=
  lanes_ext w (128 / w) hw.1 hw.2 fun i hi => by
    rw [getN_buildOn _ _ _ _ _ (Nat.le_refl _), getN_buildOn _ _ _ _ _ (Nat.le_refl _), if_pos hi, if_pos hi]
/-- A count of ones, as the loop takes it. -/
structure Pop (P : Nat → Nat) : Prop where
  z : P 0 = 0
  st : ∀ x, x < 256 → P x = x % 2 + P (x / 2)
  le : ∀ x, x < 256 → P x ≤ 8
theorem pop_ones : Pop Go.Lib.onesCount :=
  ⟨by decide +kernel, fun x hx => (show ∀ y : Fin 256, Go.Lib.onesCount y.val = y.val % 2 + Go.Lib.onesCount (y.val / 2) by decide +kernel) ⟨x, hx⟩,
   fun x hx => (show ∀ y : Fin 256, Go.Lib.onesCount y.val ≤ 8 by decide +kernel) ⟨x, hx⟩⟩
set_option maxRecDepth 100000 in
set_option maxHeartbeats 4000000 in
theorem run_8_0 (v : Vec) (w : World) : Calls Try.prog 29 #[.int .i64 64864, .agg (cells v)] w fun e w' => e = .returned (.tuple #[.agg (cells (vu3 8 0 v)), .int .i64 0]) ∧ Below w.heap.size w w' := by
  have hs : HL w [(w.heap.size + 1, 0), (w.heap.size, v)] _ := HL.two w v 0
  rw [cells_zero] at hs
  have T := Lib.hid (fun W => rwidth_any 64864 W (by decide))
  rw [show wF 64864 = 8 by decide] at T
  have K := Lib.hid (fun W => roff_some 64864 0 W (by decide) (by decide) (by decide))
  go_enter Try.func29, Try.ntmps29
  go_wp2_with (first | (go_at_call 30; (with_reducible refine (T.out _).mono ?_); rintro e u ⟨rfl, hb⟩; replace hs := hs.below hb; clear hb) | (go_at_call 33; (with_reducible refine (K.out _).mono ?_); rintro e u ⟨rfl, hb⟩; replace hs := hs.below hb; clear hb))
  rw [← cells_zero]
  obtain ⟨O, hOO⟩ : ∃ B, B = u.heap.size := ⟨_, rfl⟩
  have hlow := HL.low hs
  rw [← hOO] at hlow ⊢
  obtain ⟨W, hW⟩ : ∃ W, W = u.alloc (.cells (cells 0) 23) := ⟨_, rfl⟩
  have hA : W.heap[w.heap.size]? = some (.cells (cells v) 23 (0, 0)) := hW ▸ blk_alloc (hs.hold (_, v) (List.mem_cons_of_mem _ List.mem_cons_self)) _
  have hR : W.heap[w.heap.size + 1]? = some (.cells (cells 0) 23 (0, 0)) := hW ▸ blk_alloc (hs.hold (_, 0) List.mem_cons_self) _
  have hO : W.heap[O]? = some (.cells (cells 0) 23 (0, 0)) := by rw [hW, hOO]; exact heap_alloc_new _ _
  have hZ : Below w.heap.size w W := hW ▸ hs.bel.alloc hs.bel.size _
  have nR : w.heap.size + 1 < O := hlow (_, 0) List.mem_cons_self
  have hWO : w.heap.size ≤ O := by omega
  rw [← hW]
  clear hW hOO hlow hs T K u
  go_loopw [9] (fun iv wr => ∃ i : Nat, i ≤ 16 ∧ iv = .int .i64 i ∧ St W O (buildOn 0#128 8 (unR3 8 0 v) i) wr) (fun iv _ => 16 - (intOf iv).toNat)
  case atStart => exact ⟨0, Nat.zero_le _, rfl, St.start hO⟩
  case round =>
    obtain ⟨i, hi, rfl, hs⟩ := hrel
    by_cases hlt : i < 16
    · obtain ⟨x, hxx⟩ : ∃ x, x = getN v 8 i := ⟨_, rfl⟩
      have bx : x < 256 := hxx ▸ getN_lt v 8 i
      have G := fun W => rget8z v i i W rfl hlt
      have S := fun W => rsigned8z v i i W rfl hlt
      rw [← hxx] at G S
      obtain ⟨s, hss⟩ : ∃ s, s = sgn 8 x := ⟨_, rfl⟩
      rw [← hss] at S
      have HG := Lib.hid G
      have HS := Lib.hid S
      clear G S
      by_cases hc : 0 ≤ s
      · as_aux_lemma =>
        have hf : unR3 8 0 v i = x := by
          show (if sgn 8 (getN v 8 i) < 0 then _ else _) = _
          rw [← hxx, ← hss, if_neg (by omega)]
        have HE := Lib.hid (step_eq 8 (unR3 8 0 v) 0#128 i x (by rw [hf]))
        have HZ2 := Lib.hid (show x < 2 ^ 64 by first | exact u64_lt _ | omega)
        have q : decide (0 ≤ s) = true := decide_eq_true hc
        have q2 : IntKind.u64.wrap (-(x : Int)) = ((Pl.u64 (-(x : Int)) : Nat) : Int) := wrap_u64 _
        clear hf hss hxx hc bx
        go_wp2_with (first | (go_at_call 34; ((with_reducible refine (rlanes8 _).mono ?_); rintro e w' ⟨rfl, rfl⟩)) | (with_reducible refine load_vec rfl _ rfl _ rfl _ (hs.kb.get hA (by omega)) ?_) | ((with_reducible refine load_vec_g ?_ _ rfl _ rfl _ (hs.kb.get hA (by omega)) ?_); (focus rfl)) | (with_reducible refine load_vec rfl _ rfl _ rfl _ hs.this ?_) | (go_at_call 35; (with_reducible refine (HG.out _).mono ?_); rintro e u ⟨rfl, hb⟩; replace hs := hs.below hb; clear hb) | (go_at_call 44; (with_reducible refine (HS.out _).mono ?_); rintro e u ⟨rfl, hb⟩; replace hs := hs.below hb; clear hb) | (go_at_call 36; (with_reducible refine (rset8z (buildOn 0#128 8 (unR3 8 0 v) i) _ _ i x _ rfl rfl hlt HZ2.out).mono ?_); rintro e u ⟨rfl, hb⟩; replace hs := hs.below hb; clear hb) | (with_reducible refine store_vec rfl _ _ rfl O _ rfl rfl _ hs.this ?_; intro wq hq; replace hs := hs.sets hq; clear hq))
        go_roundw
        case rel => first | exact ⟨i + 1, by omega, by go_num, St.eqY HE.out hs⟩ | ((repeat apply Exists.intro); exact ⟨⟨i + 1, by omega, by go_num, St.eqY HE.out hs⟩, rfl⟩)
        case measure => (simp [intOf] <;> omega)
      · as_aux_lemma =>
        have hf : unR3 8 0 v i = (Pl.u64 (-(x : Int))) := by
          show (if sgn 8 (getN v 8 i) < 0 then _ else _) = _
          rw [← hxx, ← hss, if_pos (by omega)]
        have HE := Lib.hid (step_eq 8 (unR3 8 0 v) 0#128 i (Pl.u64 (-(x : Int))) (by rw [hf]))
        have HZ2 := Lib.hid (show (Pl.u64 (-(x : Int))) < 2 ^ 64 by first | exact u64_lt _ | omega)
        have q : decide (0 ≤ s) = false := decide_eq_false hc
        have q2 : IntKind.u64.wrap (-(x : Int)) = ((Pl.u64 (-(x : Int)) : Nat) : Int) := wrap_u64 _
        clear hf hss hxx hc bx
        go_wp2_with (first | (go_at_call 34; ((with_reducible refine (rlanes8 _).mono ?_); rintro e w' ⟨rfl, rfl⟩)) | (with_reducible refine load_vec rfl _ rfl _ rfl _ (hs.kb.get hA (by omega)) ?_) | ((with_reducible refine load_vec_g ?_ _ rfl _ rfl _ (hs.kb.get hA (by omega)) ?_); (focus rfl)) | (with_reducible refine load_vec rfl _ rfl _ rfl _ hs.this ?_) | (go_at_call 35; (with_reducible refine (HG.out _).mono ?_); rintro e u ⟨rfl, hb⟩; replace hs := hs.below hb; clear hb) | (go_at_call 44; (with_reducible refine (HS.out _).mono ?_); rintro e u ⟨rfl, hb⟩; replace hs := hs.below hb; clear hb) | (go_at_call 36; (with_reducible refine (rset8z (buildOn 0#128 8 (unR3 8 0 v) i) _ _ i (Pl.u64 (-(x : Int))) _ rfl rfl hlt HZ2.out).mono ?_); rintro e u ⟨rfl, hb⟩; replace hs := hs.below hb; clear hb) | (with_reducible refine store_vec rfl _ _ rfl O _ rfl rfl _ hs.this ?_; intro wq hq; replace hs := hs.sets hq; clear hq))
        go_roundw
        case rel => first | exact ⟨i + 1, by omega, by go_num, St.eqY HE.out hs⟩ | ((repeat apply Exists.intro); exact ⟨⟨i + 1, by omega, by go_num, St.eqY HE.out hs⟩, rfl⟩)
        case measure => (simp [intOf] <;> omega)
    · obtain rfl : i = 16 := by omega
      have hR' := hs.kb.get hR (by omega)
      go_wp2_with (first | (go_at_call 34; ((with_reducible refine (rlanes8 _).mono ?_); rintro e w' ⟨rfl, rfl⟩)) | (with_reducible refine load_vec rfl _ rfl _ rfl _ hs.this ?_) | (with_reducible refine store_vec rfl _ _ rfl (w.heap.size + 1) _ rfl rfl _ hR' ?_; intro wq hq))
      refine bodyPost_ret (results_vec_tmp rfl _ _ (w.heap.size + 1) _ _ rfl rfl hq.this) rfl ⟨?_, (hs.kb.to_below hZ hWO).trans (hq.below.mono (by omega))⟩
      exact congrArg (fun z => Ending.returned (.tuple #[.agg (cells z), .int .i64 0])) (on_any 8 (unR3 8 0 v) v (by decide))

set_option maxRecDepth 100000 in
set_option maxHeartbeats 4000000 in
theorem run_8_1 (v : Vec) (w : World) : Calls Try.prog 29 #[.int .i64 64865, .agg (cells v)] w fun e w' => e = .returned (.tuple #[.agg (cells (vu3 8 1 v)), .int .i64 0]) ∧ Below w.heap.size w w' := by
  have hs : HL w [(w.heap.size + 1, 0), (w.heap.size, v)] _ := HL.two w v 0
  rw [cells_zero] at hs
  have T := Lib.hid (fun W => rwidth_any 64865 W (by decide))
  rw [show wF 64865 = 8 by decide] at T
  have K := Lib.hid (fun W => roff_some 64865 1 W (by decide) (by decide) (by decide))
  go_enter Try.func29, Try.ntmps29
  go_wp2_with (first | (go_at_call 30; (with_reducible refine (T.out _).mono ?_); rintro e u ⟨rfl, hb⟩; replace hs := hs.below hb; clear hb) | (go_at_call 33; (with_reducible refine (K.out _).mono ?_); rintro e u ⟨rfl, hb⟩; replace hs := hs.below hb; clear hb))
  rw [← cells_zero]
  obtain ⟨O, hOO⟩ : ∃ B, B = u.heap.size := ⟨_, rfl⟩
  have hlow := HL.low hs
  rw [← hOO] at hlow ⊢
  obtain ⟨W, hW⟩ : ∃ W, W = u.alloc (.cells (cells 0) 23) := ⟨_, rfl⟩
  have hA : W.heap[w.heap.size]? = some (.cells (cells v) 23 (0, 0)) := hW ▸ blk_alloc (hs.hold (_, v) (List.mem_cons_of_mem _ List.mem_cons_self)) _
  have hR : W.heap[w.heap.size + 1]? = some (.cells (cells 0) 23 (0, 0)) := hW ▸ blk_alloc (hs.hold (_, 0) List.mem_cons_self) _
  have hO : W.heap[O]? = some (.cells (cells 0) 23 (0, 0)) := by rw [hW, hOO]; exact heap_alloc_new _ _
  have hZ : Below w.heap.size w W := hW ▸ hs.bel.alloc hs.bel.size _
  have nR : w.heap.size + 1 < O := hlow (_, 0) List.mem_cons_self
  have hWO : w.heap.size ≤ O := by omega
  rw [← hW]
  clear hW hOO hlow hs T K u
  go_loopw [9] (fun iv wr => ∃ i : Nat, i ≤ 16 ∧ iv = .int .i64 i ∧ St W O (buildOn 0#128 8 (unR3 8 1 v) i) wr) (fun iv _ => 16 - (intOf iv).toNat)
  case atStart => exact ⟨0, Nat.zero_le _, rfl, St.start hO⟩
  case round =>
    obtain ⟨i, hi, rfl, hs⟩ := hrel
    by_cases hlt : i < 16
    · obtain ⟨x, hxx⟩ : ∃ x, x = getN v 8 i := ⟨_, rfl⟩
      have bx : x < 256 := hxx ▸ getN_lt v 8 i
      have G := fun W => rget8z v i i W rfl hlt
      have S := fun W => rsigned8z v i i W rfl hlt
      rw [← hxx] at G S
      obtain ⟨s, hss⟩ : ∃ s, s = sgn 8 x := ⟨_, rfl⟩
      rw [← hss] at S
      have HG := Lib.hid G
      have HS := Lib.hid S
      clear G S
      have hf : unR3 8 1 v i = (Pl.u64 (-(x : Int))) := by
        show Pl.u64 (-(getN v 8 i : Int)) = _
        rw [← hxx]
      have HE := Lib.hid (step_eq 8 (unR3 8 1 v) 0#128 i (Pl.u64 (-(x : Int))) (by rw [hf]))
      have HZ2 := Lib.hid (show (Pl.u64 (-(x : Int))) < 2 ^ 64 from u64_lt _)
      have q2 : IntKind.u64.wrap (-(x : Int)) = ((Pl.u64 (-(x : Int)) : Nat) : Int) := wrap_u64 _
      clear hf hss hxx bx
      go_wp2_with (first | (go_at_call 34; ((with_reducible refine (rlanes8 _).mono ?_); rintro e w' ⟨rfl, rfl⟩)) | (with_reducible refine load_vec rfl _ rfl _ rfl _ (hs.kb.get hA (by omega)) ?_) | ((with_reducible refine load_vec_g ?_ _ rfl _ rfl _ (hs.kb.get hA (by omega)) ?_); (focus rfl)) | (with_reducible refine load_vec rfl _ rfl _ rfl _ hs.this ?_) | (go_at_call 35; (with_reducible refine (HG.out _).mono ?_); rintro e u ⟨rfl, hb⟩; replace hs := hs.below hb; clear hb) | (go_at_call 44; (with_reducible refine (HS.out _).mono ?_); rintro e u ⟨rfl, hb⟩; replace hs := hs.below hb; clear hb) | (go_at_call 36; (with_reducible refine (rset8z (buildOn 0#128 8 (unR3 8 1 v) i) _ _ i (Pl.u64 (-(x : Int))) _ rfl rfl hlt HZ2.out).mono ?_); rintro e u ⟨rfl, hb⟩; replace hs := hs.below hb; clear hb) | (with_reducible refine store_vec rfl _ _ rfl O _ rfl rfl _ hs.this ?_; intro wq hq; replace hs := hs.sets hq; clear hq))
      go_roundw
      case rel => first | exact ⟨i + 1, by omega, by go_num, St.eqY HE.out hs⟩ | ((repeat apply Exists.intro); exact ⟨⟨i + 1, by omega, by go_num, St.eqY HE.out hs⟩, rfl⟩)
      case measure => (simp [intOf] <;> omega)
    · obtain rfl : i = 16 := by omega
      have hR' := hs.kb.get hR (by omega)
      go_wp2_with (first | (go_at_call 34; ((with_reducible refine (rlanes8 _).mono ?_); rintro e w' ⟨rfl, rfl⟩)) | (with_reducible refine load_vec rfl _ rfl _ rfl _ hs.this ?_) | (with_reducible refine store_vec rfl _ _ rfl (w.heap.size + 1) _ rfl rfl _ hR' ?_; intro wq hq))
      refine bodyPost_ret (results_vec_tmp rfl _ _ (w.heap.size + 1) _ _ rfl rfl hq.this) rfl ⟨?_, (hs.kb.to_below hZ hWO).trans (hq.below.mono (by omega))⟩
      exact congrArg (fun z => Ending.returned (.tuple #[.agg (cells z), .int .i64 0])) (on_any 8 (unR3 8 1 v) v (by decide))

set_option maxRecDepth 100000 in
set_option maxHeartbeats 4000000 in
theorem run_16_0 (v : Vec) (w : World) : Calls Try.prog 29 #[.int .i64 64896, .agg (cells v)] w fun e w' => e = .returned (.tuple #[.agg (cells (vu3 16 0 v)), .int .i64 0]) ∧ Below w.heap.size w w' := by
  have hs : HL w [(w.heap.size + 1, 0), (w.heap.size, v)] _ := HL.two w v 0
  rw [cells_zero] at hs
  have T := Lib.hid (fun W => rwidth_any 64896 W (by decide))
  rw [show wF 64896 = 16 by decide] at T
  have K := Lib.hid (fun W => roff_some 64896 0 W (by decide) (by decide) (by decide))
  go_enter Try.func29, Try.ntmps29
  go_wp2_with (first | (go_at_call 30; (with_reducible refine (T.out _).mono ?_); rintro e u ⟨rfl, hb⟩; replace hs := hs.below hb; clear hb) | (go_at_call 33; (with_reducible refine (K.out _).mono ?_); rintro e u ⟨rfl, hb⟩; replace hs := hs.below hb; clear hb))
  rw [← cells_zero]
  obtain ⟨O, hOO⟩ : ∃ B, B = u.heap.size := ⟨_, rfl⟩
  have hlow := HL.low hs
  rw [← hOO] at hlow ⊢
  obtain ⟨W, hW⟩ : ∃ W, W = u.alloc (.cells (cells 0) 23) := ⟨_, rfl⟩
  have hA : W.heap[w.heap.size]? = some (.cells (cells v) 23 (0, 0)) := hW ▸ blk_alloc (hs.hold (_, v) (List.mem_cons_of_mem _ List.mem_cons_self)) _
  have hR : W.heap[w.heap.size + 1]? = some (.cells (cells 0) 23 (0, 0)) := hW ▸ blk_alloc (hs.hold (_, 0) List.mem_cons_self) _
  have hO : W.heap[O]? = some (.cells (cells 0) 23 (0, 0)) := by rw [hW, hOO]; exact heap_alloc_new _ _
  have hZ : Below w.heap.size w W := hW ▸ hs.bel.alloc hs.bel.size _
  have nR : w.heap.size + 1 < O := hlow (_, 0) List.mem_cons_self
  have hWO : w.heap.size ≤ O := by omega
  rw [← hW]
  clear hW hOO hlow hs T K u
  go_loopw [9] (fun iv wr => ∃ i : Nat, i ≤ 8 ∧ iv = .int .i64 i ∧ St W O (buildOn 0#128 16 (unR3 16 0 v) i) wr) (fun iv _ => 8 - (intOf iv).toNat)
  case atStart => exact ⟨0, Nat.zero_le _, rfl, St.start hO⟩
  case round =>
    obtain ⟨i, hi, rfl, hs⟩ := hrel
    by_cases hlt : i < 8
    · obtain ⟨x, hxx⟩ : ∃ x, x = getN v 16 i := ⟨_, rfl⟩
      have bx : x < 65536 := hxx ▸ getN_lt v 16 i
      have G := fun W => rget16z v i i W rfl hlt
      have S := fun W => rsigned16z v i i W rfl hlt
      rw [← hxx] at G S
      obtain ⟨s, hss⟩ : ∃ s, s = sgn 16 x := ⟨_, rfl⟩
      rw [← hss] at S
      have HG := Lib.hid G
      have HS := Lib.hid S
      clear G S
      by_cases hc : 0 ≤ s
      · as_aux_lemma =>
        have hf : unR3 16 0 v i = x := by
          show (if sgn 16 (getN v 16 i) < 0 then _ else _) = _
          rw [← hxx, ← hss, if_neg (by omega)]
        have HE := Lib.hid (step_eq 16 (unR3 16 0 v) 0#128 i x (by rw [hf]))
        have HZ2 := Lib.hid (show x < 2 ^ 64 by first | exact u64_lt _ | omega)
        have q : decide (0 ≤ s) = true := decide_eq_true hc
        have q2 : IntKind.u64.wrap (-(x : Int)) = ((Pl.u64 (-(x : Int)) : Nat) : Int) := wrap_u64 _
        clear hf hss hxx hc bx
        go_wp2_with (first | (go_at_call 34; ((with_reducible refine (rlanes16 _).mono ?_); rintro e w' ⟨rfl, rfl⟩)) | (with_reducible refine load_vec rfl _ rfl _ rfl _ (hs.kb.get hA (by omega)) ?_) | ((with_reducible refine load_vec_g ?_ _ rfl _ rfl _ (hs.kb.get hA (by omega)) ?_); (focus rfl)) | (with_reducible refine load_vec rfl _ rfl _ rfl _ hs.this ?_) | (go_at_call 35; (with_reducible refine (HG.out _).mono ?_); rintro e u ⟨rfl, hb⟩; replace hs := hs.below hb; clear hb) | (go_at_call 44; (with_reducible refine (HS.out _).mono ?_); rintro e u ⟨rfl, hb⟩; replace hs := hs.below hb; clear hb) | (go_at_call 36; (with_reducible refine (rset16z (buildOn 0#128 16 (unR3 16 0 v) i) _ _ i x _ rfl rfl hlt HZ2.out).mono ?_); rintro e u ⟨rfl, hb⟩; replace hs := hs.below hb; clear hb) | (with_reducible refine store_vec rfl _ _ rfl O _ rfl rfl _ hs.this ?_; intro wq hq; replace hs := hs.sets hq; clear hq))
        go_roundw
        case rel => first | exact ⟨i + 1, by omega, by go_num, St.eqY HE.out hs⟩ | ((repeat apply Exists.intro); exact ⟨⟨i + 1, by omega, by go_num, St.eqY HE.out hs⟩, rfl⟩)
        case measure => (simp [intOf] <;> omega)
      · as_aux_lemma =>
        have hf : unR3 16 0 v i = (Pl.u64 (-(x : Int))) := by
          show (if sgn 16 (getN v 16 i) < 0 then _ else _) = _
          rw [← hxx, ← hss, if_pos (by omega)]
        have HE := Lib.hid (step_eq 16 (unR3 16 0 v) 0#128 i (Pl.u64 (-(x : Int))) (by rw [hf]))
        have HZ2 := Lib.hid (show (Pl.u64 (-(x : Int))) < 2 ^ 64 by first | exact u64_lt _ | omega)
        have q : decide (0 ≤ s) = false := decide_eq_false hc
        have q2 : IntKind.u64.wrap (-(x : Int)) = ((Pl.u64 (-(x : Int)) : Nat) : Int) := wrap_u64 _
        clear hf hss hxx hc bx
        go_wp2_with (first | (go_at_call 34; ((with_reducible refine (rlanes16 _).mono ?_); rintro e w' ⟨rfl, rfl⟩)) | (with_reducible refine load_vec rfl _ rfl _ rfl _ (hs.kb.get hA (by omega)) ?_) | ((with_reducible refine load_vec_g ?_ _ rfl _ rfl _ (hs.kb.get hA (by omega)) ?_); (focus rfl)) | (with_reducible refine load_vec rfl _ rfl _ rfl _ hs.this ?_) | (go_at_call 35; (with_reducible refine (HG.out _).mono ?_); rintro e u ⟨rfl, hb⟩; replace hs := hs.below hb; clear hb) | (go_at_call 44; (with_reducible refine (HS.out _).mono ?_); rintro e u ⟨rfl, hb⟩; replace hs := hs.below hb; clear hb) | (go_at_call 36; (with_reducible refine (rset16z (buildOn 0#128 16 (unR3 16 0 v) i) _ _ i (Pl.u64 (-(x : Int))) _ rfl rfl hlt HZ2.out).mono ?_); rintro e u ⟨rfl, hb⟩; replace hs := hs.below hb; clear hb) | (with_reducible refine store_vec rfl _ _ rfl O _ rfl rfl _ hs.this ?_; intro wq hq; replace hs := hs.sets hq; clear hq))
        go_roundw
        case rel => first | exact ⟨i + 1, by omega, by go_num, St.eqY HE.out hs⟩ | ((repeat apply Exists.intro); exact ⟨⟨i + 1, by omega, by go_num, St.eqY HE.out hs⟩, rfl⟩)
        case measure => (simp [intOf] <;> omega)
    · obtain rfl : i = 8 := by omega
      have hR' := hs.kb.get hR (by omega)
      go_wp2_with (first | (go_at_call 34; ((with_reducible refine (rlanes16 _).mono ?_); rintro e w' ⟨rfl, rfl⟩)) | (with_reducible refine load_vec rfl _ rfl _ rfl _ hs.this ?_) | (with_reducible refine store_vec rfl _ _ rfl (w.heap.size + 1) _ rfl rfl _ hR' ?_; intro wq hq))
      refine bodyPost_ret (results_vec_tmp rfl _ _ (w.heap.size + 1) _ _ rfl rfl hq.this) rfl ⟨?_, (hs.kb.to_below hZ hWO).trans (hq.below.mono (by omega))⟩
      exact congrArg (fun z => Ending.returned (.tuple #[.agg (cells z), .int .i64 0])) (on_any 16 (unR3 16 0 v) v (by decide))

set_option maxRecDepth 100000 in
set_option maxHeartbeats 4000000 in
theorem run_16_1 (v : Vec) (w : World) : Calls Try.prog 29 #[.int .i64 64897, .agg (cells v)] w fun e w' => e = .returned (.tuple #[.agg (cells (vu3 16 1 v)), .int .i64 0]) ∧ Below w.heap.size w w' := by
  have hs : HL w [(w.heap.size + 1, 0), (w.heap.size, v)] _ := HL.two w v 0
  rw [cells_zero] at hs
  have T := Lib.hid (fun W => rwidth_any 64897 W (by decide))
  rw [show wF 64897 = 16 by decide] at T
  have K := Lib.hid (fun W => roff_some 64897 1 W (by decide) (by decide) (by decide))
  go_enter Try.func29, Try.ntmps29
  go_wp2_with (first | (go_at_call 30; (with_reducible refine (T.out _).mono ?_); rintro e u ⟨rfl, hb⟩; replace hs := hs.below hb; clear hb) | (go_at_call 33; (with_reducible refine (K.out _).mono ?_); rintro e u ⟨rfl, hb⟩; replace hs := hs.below hb; clear hb))
  rw [← cells_zero]
  obtain ⟨O, hOO⟩ : ∃ B, B = u.heap.size := ⟨_, rfl⟩
  have hlow := HL.low hs
  rw [← hOO] at hlow ⊢
  obtain ⟨W, hW⟩ : ∃ W, W = u.alloc (.cells (cells 0) 23) := ⟨_, rfl⟩
  have hA : W.heap[w.heap.size]? = some (.cells (cells v) 23 (0, 0)) := hW ▸ blk_alloc (hs.hold (_, v) (List.mem_cons_of_mem _ List.mem_cons_self)) _
  have hR : W.heap[w.heap.size + 1]? = some (.cells (cells 0) 23 (0, 0)) := hW ▸ blk_alloc (hs.hold (_, 0) List.mem_cons_self) _
  have hO : W.heap[O]? = some (.cells (cells 0) 23 (0, 0)) := by rw [hW, hOO]; exact heap_alloc_new _ _
  have hZ : Below w.heap.size w W := hW ▸ hs.bel.alloc hs.bel.size _
  have nR : w.heap.size + 1 < O := hlow (_, 0) List.mem_cons_self
  have hWO : w.heap.size ≤ O := by omega
  rw [← hW]
  clear hW hOO hlow hs T K u
  go_loopw [9] (fun iv wr => ∃ i : Nat, i ≤ 8 ∧ iv = .int .i64 i ∧ St W O (buildOn 0#128 16 (unR3 16 1 v) i) wr) (fun iv _ => 8 - (intOf iv).toNat)
  case atStart => exact ⟨0, Nat.zero_le _, rfl, St.start hO⟩
  case round =>
    obtain ⟨i, hi, rfl, hs⟩ := hrel
    by_cases hlt : i < 8
    · obtain ⟨x, hxx⟩ : ∃ x, x = getN v 16 i := ⟨_, rfl⟩
      have bx : x < 65536 := hxx ▸ getN_lt v 16 i
      have G := fun W => rget16z v i i W rfl hlt
      have S := fun W => rsigned16z v i i W rfl hlt
      rw [← hxx] at G S
      obtain ⟨s, hss⟩ : ∃ s, s = sgn 16 x := ⟨_, rfl⟩
      rw [← hss] at S
      have HG := Lib.hid G
      have HS := Lib.hid S
      clear G S
      have hf : unR3 16 1 v i = (Pl.u64 (-(x : Int))) := by
        show Pl.u64 (-(getN v 16 i : Int)) = _
        rw [← hxx]
      have HE := Lib.hid (step_eq 16 (unR3 16 1 v) 0#128 i (Pl.u64 (-(x : Int))) (by rw [hf]))
      have HZ2 := Lib.hid (show (Pl.u64 (-(x : Int))) < 2 ^ 64 from u64_lt _)
      have q2 : IntKind.u64.wrap (-(x : Int)) = ((Pl.u64 (-(x : Int)) : Nat) : Int) := wrap_u64 _
      clear hf hss hxx bx
      go_wp2_with (first | (go_at_call 34; ((with_reducible refine (rlanes16 _).mono ?_); rintro e w' ⟨rfl, rfl⟩)) | (with_reducible refine load_vec rfl _ rfl _ rfl _ (hs.kb.get hA (by omega)) ?_) | ((with_reducible refine load_vec_g ?_ _ rfl _ rfl _ (hs.kb.get hA (by omega)) ?_); (focus rfl)) | (with_reducible refine load_vec rfl _ rfl _ rfl _ hs.this ?_) | (go_at_call 35; (with_reducible refine (HG.out _).mono ?_); rintro e u ⟨rfl, hb⟩; replace hs := hs.below hb; clear hb) | (go_at_call 44; (with_reducible refine (HS.out _).mono ?_); rintro e u ⟨rfl, hb⟩; replace hs := hs.below hb; clear hb) | (go_at_call 36; (with_reducible refine (rset16z (buildOn 0#128 16 (unR3 16 1 v) i) _ _ i (Pl.u64 (-(x : Int))) _ rfl rfl hlt HZ2.out).mono ?_); rintro e u ⟨rfl, hb⟩; replace hs := hs.below hb; clear hb) | (with_reducible refine store_vec rfl _ _ rfl O _ rfl rfl _ hs.this ?_; intro wq hq; replace hs := hs.sets hq; clear hq))
      go_roundw
      case rel => first | exact ⟨i + 1, by omega, by go_num, St.eqY HE.out hs⟩ | ((repeat apply Exists.intro); exact ⟨⟨i + 1, by omega, by go_num, St.eqY HE.out hs⟩, rfl⟩)
      case measure => (simp [intOf] <;> omega)
    · obtain rfl : i = 8 := by omega
      have hR' := hs.kb.get hR (by omega)
      go_wp2_with (first | (go_at_call 34; ((with_reducible refine (rlanes16 _).mono ?_); rintro e w' ⟨rfl, rfl⟩)) | (with_reducible refine load_vec rfl _ rfl _ rfl _ hs.this ?_) | (with_reducible refine store_vec rfl _ _ rfl (w.heap.size + 1) _ rfl rfl _ hR' ?_; intro wq hq))
      refine bodyPost_ret (results_vec_tmp rfl _ _ (w.heap.size + 1) _ _ rfl rfl hq.this) rfl ⟨?_, (hs.kb.to_below hZ hWO).trans (hq.below.mono (by omega))⟩
      exact congrArg (fun z => Ending.returned (.tuple #[.agg (cells z), .int .i64 0])) (on_any 16 (unR3 16 1 v) v (by decide))

set_option maxRecDepth 100000 in
set_option maxHeartbeats 4000000 in
theorem run_32_0 (v : Vec) (w : World) : Calls Try.prog 29 #[.int .i64 64928, .agg (cells v)] w fun e w' => e = .returned (.tuple #[.agg (cells (vu3 32 0 v)), .int .i64 0]) ∧ Below w.heap.size w w' := by
  have hs : HL w [(w.heap.size + 1, 0), (w.heap.size, v)] _ := HL.two w v 0
  rw [cells_zero] at hs
  have T := Lib.hid (fun W => rwidth_any 64928 W (by decide))
  rw [show wF 64928 = 32 by decide] at T
  have K := Lib.hid (fun W => roff_some 64928 0 W (by decide) (by decide) (by decide))
  go_enter Try.func29, Try.ntmps29
  go_wp2_with (first | (go_at_call 30; (with_reducible refine (T.out _).mono ?_); rintro e u ⟨rfl, hb⟩; replace hs := hs.below hb; clear hb) | (go_at_call 33; (with_reducible refine (K.out _).mono ?_); rintro e u ⟨rfl, hb⟩; replace hs := hs.below hb; clear hb))
  rw [← cells_zero]
  obtain ⟨O, hOO⟩ : ∃ B, B = u.heap.size := ⟨_, rfl⟩
  have hlow := HL.low hs
  rw [← hOO] at hlow ⊢
  obtain ⟨W, hW⟩ : ∃ W, W = u.alloc (.cells (cells 0) 23) := ⟨_, rfl⟩
  have hA : W.heap[w.heap.size]? = some (.cells (cells v) 23 (0, 0)) := hW ▸ blk_alloc (hs.hold (_, v) (List.mem_cons_of_mem _ List.mem_cons_self)) _
  have hR : W.heap[w.heap.size + 1]? = some (.cells (cells 0) 23 (0, 0)) := hW ▸ blk_alloc (hs.hold (_, 0) List.mem_cons_self) _
  have hO : W.heap[O]? = some (.cells (cells 0) 23 (0, 0)) := by rw [hW, hOO]; exact heap_alloc_new _ _
  have hZ : Below w.heap.size w W := hW ▸ hs.bel.alloc hs.bel.size _
  have nR : w.heap.size + 1 < O := hlow (_, 0) List.mem_cons_self
  have hWO : w.heap.size ≤ O := by omega
  rw [← hW]
  clear hW hOO hlow hs T K u
  go_loopw [9] (fun iv wr => ∃ i : Nat, i ≤ 4 ∧ iv = .int .i64 i ∧ St W O (buildOn 0#128 32 (unR3 32 0 v) i) wr) (fun iv _ => 4 - (intOf iv).toNat)
  case atStart => exact ⟨0, Nat.zero_le _, rfl, St.start hO⟩
  case round =>
    obtain ⟨i, hi, rfl, hs⟩ := hrel
    by_cases hlt : i < 4
    · obtain ⟨x, hxx⟩ : ∃ x, x = getN v 32 i := ⟨_, rfl⟩
      have bx : x < 4294967296 := hxx ▸ getN_lt v 32 i
      have G := fun W => rget32z v i i W rfl hlt
      have S := fun W => rsigned32z v i i W rfl hlt
      rw [← hxx] at G S
      obtain ⟨s, hss⟩ : ∃ s, s = sgn 32 x := ⟨_, rfl⟩
      rw [← hss] at S
      have HG := Lib.hid G
      have HS := Lib.hid S
      clear G S
      by_cases hc : 0 ≤ s
      · as_aux_lemma =>
        have hf : unR3 32 0 v i = x := by
          show (if sgn 32 (getN v 32 i) < 0 then _ else _) = _
          rw [← hxx, ← hss, if_neg (by omega)]
        have HE := Lib.hid (step_eq 32 (unR3 32 0 v) 0#128 i x (by rw [hf]))
        have HZ2 := Lib.hid (show x < 2 ^ 64 by first | exact u64_lt _ | omega)
        have q : decide (0 ≤ s) = true := decide_eq_true hc
        have q2 : IntKind.u64.wrap (-(x : Int)) = ((Pl.u64 (-(x : Int)) : Nat) : Int) := wrap_u64 _
        clear hf hss hxx hc bx
        go_wp2_with (first | (go_at_call 34; ((with_reducible refine (rlanes32 _).mono ?_); rintro e w' ⟨rfl, rfl⟩)) | (with_reducible refine load_vec rfl _ rfl _ rfl _ (hs.kb.get hA (by omega)) ?_) | ((with_reducible refine load_vec_g ?_ _ rfl _ rfl _ (hs.kb.get hA (by omega)) ?_); (focus rfl)) | (with_reducible refine load_vec rfl _ rfl _ rfl _ hs.this ?_) | (go_at_call 35; (with_reducible refine (HG.out _).mono ?_); rintro e u ⟨rfl, hb⟩; replace hs := hs.below hb; clear hb) | (go_at_call 44; (with_reducible refine (HS.out _).mono ?_); rintro e u ⟨rfl, hb⟩; replace hs := hs.below hb; clear hb) | (go_at_call 36; (with_reducible refine (rset32z (buildOn 0#128 32 (unR3 32 0 v) i) _ _ i x _ rfl rfl hlt HZ2.out).mono ?_); rintro e u ⟨rfl, hb⟩; replace hs := hs.below hb; clear hb) | (with_reducible refine store_vec rfl _ _ rfl O _ rfl rfl _ hs.this ?_; intro wq hq; replace hs := hs.sets hq; clear hq))
        go_roundw
        case rel => first | exact ⟨i + 1, by omega, by go_num, St.eqY HE.out hs⟩ | ((repeat apply Exists.intro); exact ⟨⟨i + 1, by omega, by go_num, St.eqY HE.out hs⟩, rfl⟩)
        case measure => (simp [intOf] <;> omega)
      · as_aux_lemma =>
        have hf : unR3 32 0 v i = (Pl.u64 (-(x : Int))) := by
          show (if sgn 32 (getN v 32 i) < 0 then _ else _) = _
          rw [← hxx, ← hss, if_pos (by omega)]
        have HE := Lib.hid (step_eq 32 (unR3 32 0 v) 0#128 i (Pl.u64 (-(x : Int))) (by rw [hf]))
        have HZ2 := Lib.hid (show (Pl.u64 (-(x : Int))) < 2 ^ 64 by first | exact u64_lt _ | omega)
        have q : decide (0 ≤ s) = false := decide_eq_false hc
        have q2 : IntKind.u64.wrap (-(x : Int)) = ((Pl.u64 (-(x : Int)) : Nat) : Int) := wrap_u64 _
        clear hf hss hxx hc bx
        go_wp2_with (first | (go_at_call 34; ((with_reducible refine (rlanes32 _).mono ?_); rintro e w' ⟨rfl, rfl⟩)) | (with_reducible refine load_vec rfl _ rfl _ rfl _ (hs.kb.get hA (by omega)) ?_) | ((with_reducible refine load_vec_g ?_ _ rfl _ rfl _ (hs.kb.get hA (by omega)) ?_); (focus rfl)) | (with_reducible refine load_vec rfl _ rfl _ rfl _ hs.this ?_) | (go_at_call 35; (with_reducible refine (HG.out _).mono ?_); rintro e u ⟨rfl, hb⟩; replace hs := hs.below hb; clear hb) | (go_at_call 44; (with_reducible refine (HS.out _).mono ?_); rintro e u ⟨rfl, hb⟩; replace hs := hs.below hb; clear hb) | (go_at_call 36; (with_reducible refine (rset32z (buildOn 0#128 32 (unR3 32 0 v) i) _ _ i (Pl.u64 (-(x : Int))) _ rfl rfl hlt HZ2.out).mono ?_); rintro e u ⟨rfl, hb⟩; replace hs := hs.below hb; clear hb) | (with_reducible refine store_vec rfl _ _ rfl O _ rfl rfl _ hs.this ?_; intro wq hq; replace hs := hs.sets hq; clear hq))
        go_roundw
        case rel => first | exact ⟨i + 1, by omega, by go_num, St.eqY HE.out hs⟩ | ((repeat apply Exists.intro); exact ⟨⟨i + 1, by omega, by go_num, St.eqY HE.out hs⟩, rfl⟩)
        case measure => (simp [intOf] <;> omega)
    · obtain rfl : i = 4 := by omega
      have hR' := hs.kb.get hR (by omega)
      go_wp2_with (first | (go_at_call 34; ((with_reducible refine (rlanes32 _).mono ?_); rintro e w' ⟨rfl, rfl⟩)) | (with_reducible refine load_vec rfl _ rfl _ rfl _ hs.this ?_) | (with_reducible refine store_vec rfl _ _ rfl (w.heap.size + 1) _ rfl rfl _ hR' ?_; intro wq hq))
      refine bodyPost_ret (results_vec_tmp rfl _ _ (w.heap.size + 1) _ _ rfl rfl hq.this) rfl ⟨?_, (hs.kb.to_below hZ hWO).trans (hq.below.mono (by omega))⟩
      exact congrArg (fun z => Ending.returned (.tuple #[.agg (cells z), .int .i64 0])) (on_any 32 (unR3 32 0 v) v (by decide))

set_option maxRecDepth 100000 in
set_option maxHeartbeats 4000000 in
theorem run_32_1 (v : Vec) (w : World) : Calls Try.prog 29 #[.int .i64 64929, .agg (cells v)] w fun e w' => e = .returned (.tuple #[.agg (cells (vu3 32 1 v)), .int .i64 0]) ∧ Below w.heap.size w w' := by
  have hs : HL w [(w.heap.size + 1, 0), (w.heap.size, v)] _ := HL.two w v 0
  rw [cells_zero] at hs
  have T := Lib.hid (fun W => rwidth_any 64929 W (by decide))
  rw [show wF 64929 = 32 by decide] at T
  have K := Lib.hid (fun W => roff_some 64929 1 W (by decide) (by decide) (by decide))
  go_enter Try.func29, Try.ntmps29
  go_wp2_with (first | (go_at_call 30; (with_reducible refine (T.out _).mono ?_); rintro e u ⟨rfl, hb⟩; replace hs := hs.below hb; clear hb) | (go_at_call 33; (with_reducible refine (K.out _).mono ?_); rintro e u ⟨rfl, hb⟩; replace hs := hs.below hb; clear hb))
  rw [← cells_zero]
  obtain ⟨O, hOO⟩ : ∃ B, B = u.heap.size := ⟨_, rfl⟩
  have hlow := HL.low hs
  rw [← hOO] at hlow ⊢
  obtain ⟨W, hW⟩ : ∃ W, W = u.alloc (.cells (cells 0) 23) := ⟨_, rfl⟩
  have hA : W.heap[w.heap.size]? = some (.cells (cells v) 23 (0, 0)) := hW ▸ blk_alloc (hs.hold (_, v) (List.mem_cons_of_mem _ List.mem_cons_self)) _
  have hR : W.heap[w.heap.size + 1]? = some (.cells (cells 0) 23 (0, 0)) := hW ▸ blk_alloc (hs.hold (_, 0) List.mem_cons_self) _
  have hO : W.heap[O]? = some (.cells (cells 0) 23 (0, 0)) := by rw [hW, hOO]; exact heap_alloc_new _ _
  have hZ : Below w.heap.size w W := hW ▸ hs.bel.alloc hs.bel.size _
  have nR : w.heap.size + 1 < O := hlow (_, 0) List.mem_cons_self
  have hWO : w.heap.size ≤ O := by omega
  rw [← hW]
  clear hW hOO hlow hs T K u
  go_loopw [9] (fun iv wr => ∃ i : Nat, i ≤ 4 ∧ iv = .int .i64 i ∧ St W O (buildOn 0#128 32 (unR3 32 1 v) i) wr) (fun iv _ => 4 - (intOf iv).toNat)
  case atStart => exact ⟨0, Nat.zero_le _, rfl, St.start hO⟩
  case round =>
    obtain ⟨i, hi, rfl, hs⟩ := hrel
    by_cases hlt : i < 4
    · obtain ⟨x, hxx⟩ : ∃ x, x = getN v 32 i := ⟨_, rfl⟩
      have bx : x < 4294967296 := hxx ▸ getN_lt v 32 i
      have G := fun W => rget32z v i i W rfl hlt
      have S := fun W => rsigned32z v i i W rfl hlt
      rw [← hxx] at G S
      obtain ⟨s, hss⟩ : ∃ s, s = sgn 32 x := ⟨_, rfl⟩
      rw [← hss] at S
      have HG := Lib.hid G
      have HS := Lib.hid S
      clear G S
      have hf : unR3 32 1 v i = (Pl.u64 (-(x : Int))) := by
        show Pl.u64 (-(getN v 32 i : Int)) = _
        rw [← hxx]
      have HE := Lib.hid (step_eq 32 (unR3 32 1 v) 0#128 i (Pl.u64 (-(x : Int))) (by rw [hf]))
      have HZ2 := Lib.hid (show (Pl.u64 (-(x : Int))) < 2 ^ 64 from u64_lt _)
      have q2 : IntKind.u64.wrap (-(x : Int)) = ((Pl.u64 (-(x : Int)) : Nat) : Int) := wrap_u64 _
      clear hf hss hxx bx
      go_wp2_with (first | (go_at_call 34; ((with_reducible refine (rlanes32 _).mono ?_); rintro e w' ⟨rfl, rfl⟩)) | (with_reducible refine load_vec rfl _ rfl _ rfl _ (hs.kb.get hA (by omega)) ?_) | ((with_reducible refine load_vec_g ?_ _ rfl _ rfl _ (hs.kb.get hA (by omega)) ?_); (focus rfl)) | (with_reducible refine load_vec rfl _ rfl _ rfl _ hs.this ?_) | (go_at_call 35; (with_reducible refine (HG.out _).mono ?_); rintro e u ⟨rfl, hb⟩; replace hs := hs.below hb; clear hb) | (go_at_call 44; (with_reducible refine (HS.out _).mono ?_); rintro e u ⟨rfl, hb⟩; replace hs := hs.below hb; clear hb) | (go_at_call 36; (with_reducible refine (rset32z (buildOn 0#128 32 (unR3 32 1 v) i) _ _ i (Pl.u64 (-(x : Int))) _ rfl rfl hlt HZ2.out).mono ?_); rintro e u ⟨rfl, hb⟩; replace hs := hs.below hb; clear hb) | (with_reducible refine store_vec rfl _ _ rfl O _ rfl rfl _ hs.this ?_; intro wq hq; replace hs := hs.sets hq; clear hq))
      go_roundw
      case rel => first | exact ⟨i + 1, by omega, by go_num, St.eqY HE.out hs⟩ | ((repeat apply Exists.intro); exact ⟨⟨i + 1, by omega, by go_num, St.eqY HE.out hs⟩, rfl⟩)
      case measure => (simp [intOf] <;> omega)
    · obtain rfl : i = 4 := by omega
      have hR' := hs.kb.get hR (by omega)
      go_wp2_with (first | (go_at_call 34; ((with_reducible refine (rlanes32 _).mono ?_); rintro e w' ⟨rfl, rfl⟩)) | (with_reducible refine load_vec rfl _ rfl _ rfl _ hs.this ?_) | (with_reducible refine store_vec rfl _ _ rfl (w.heap.size + 1) _ rfl rfl _ hR' ?_; intro wq hq))
      refine bodyPost_ret (results_vec_tmp rfl _ _ (w.heap.size + 1) _ _ rfl rfl hq.this) rfl ⟨?_, (hs.kb.to_below hZ hWO).trans (hq.below.mono (by omega))⟩
      exact congrArg (fun z => Ending.returned (.tuple #[.agg (cells z), .int .i64 0])) (on_any 32 (unR3 32 1 v) v (by decide))

set_option maxRecDepth 100000 in
set_option maxHeartbeats 4000000 in
theorem run_64_0 (v : Vec) (w : World) : Calls Try.prog 29 #[.int .i64 64960, .agg (cells v)] w fun e w' => e = .returned (.tuple #[.agg (cells (vu3 64 0 v)), .int .i64 0]) ∧ Below w.heap.size w w' := by
  have hs : HL w [(w.heap.size + 1, 0), (w.heap.size, v)] _ := HL.two w v 0
  rw [cells_zero] at hs
  have T := Lib.hid (fun W => rwidth_any 64960 W (by decide))
  rw [show wF 64960 = 64 by decide] at T
  have K := Lib.hid (fun W => roff_some 64960 0 W (by decide) (by decide) (by decide))
  go_enter Try.func29, Try.ntmps29
  go_wp2_with (first | (go_at_call 30; (with_reducible refine (T.out _).mono ?_); rintro e u ⟨rfl, hb⟩; replace hs := hs.below hb; clear hb) | (go_at_call 33; (with_reducible refine (K.out _).mono ?_); rintro e u ⟨rfl, hb⟩; replace hs := hs.below hb; clear hb))
  rw [← cells_zero]
  obtain ⟨O, hOO⟩ : ∃ B, B = u.heap.size := ⟨_, rfl⟩
  have hlow := HL.low hs
  rw [← hOO] at hlow ⊢
  obtain ⟨W, hW⟩ : ∃ W, W = u.alloc (.cells (cells 0) 23) := ⟨_, rfl⟩
  have hA : W.heap[w.heap.size]? = some (.cells (cells v) 23 (0, 0)) := hW ▸ blk_alloc (hs.hold (_, v) (List.mem_cons_of_mem _ List.mem_cons_self)) _
  have hR : W.heap[w.heap.size + 1]? = some (.cells (cells 0) 23 (0, 0)) := hW ▸ blk_alloc (hs.hold (_, 0) List.mem_cons_self) _
  have hO : W.heap[O]? = some (.cells (cells 0) 23 (0, 0)) := by rw [hW, hOO]; exact heap_alloc_new _ _
  have hZ : Below w.heap.size w W := hW ▸ hs.bel.alloc hs.bel.size _
  have nR : w.heap.size + 1 < O := hlow (_, 0) List.mem_cons_self
  have hWO : w.heap.size ≤ O := by omega
  rw [← hW]
  clear hW hOO hlow hs T K u
  go_loopw [9] (fun iv wr => ∃ i : Nat, i ≤ 2 ∧ iv = .int .i64 i ∧ St W O (buildOn 0#128 64 (unR3 64 0 v) i) wr) (fun iv _ => 2 - (intOf iv).toNat)
  case atStart => exact ⟨0, Nat.zero_le _, rfl, St.start hO⟩
  case round =>
    obtain ⟨i, hi, rfl, hs⟩ := hrel
    by_cases hlt : i < 2
    · obtain ⟨x, hxx⟩ : ∃ x, x = getN v 64 i := ⟨_, rfl⟩
      have bx : x < 18446744073709551616 := hxx ▸ getN_lt v 64 i
      have G := fun W => rget64z v i i W rfl hlt
      have S := fun W => rsigned64z v i i W rfl hlt
      rw [← hxx] at G S
      obtain ⟨s, hss⟩ : ∃ s, s = sgn 64 x := ⟨_, rfl⟩
      rw [← hss] at S
      have HG := Lib.hid G
      have HS := Lib.hid S
      clear G S
      by_cases hc : 0 ≤ s
      · as_aux_lemma =>
        have hf : unR3 64 0 v i = x := by
          show (if sgn 64 (getN v 64 i) < 0 then _ else _) = _
          rw [← hxx, ← hss, if_neg (by omega)]
        have HE := Lib.hid (step_eq 64 (unR3 64 0 v) 0#128 i x (by rw [hf]))
        have HZ2 := Lib.hid (show x < 2 ^ 64 by first | exact u64_lt _ | omega)
        have q : decide (0 ≤ s) = true := decide_eq_true hc
        have q2 : IntKind.u64.wrap (-(x : Int)) = ((Pl.u64 (-(x : Int)) : Nat) : Int) := wrap_u64 _
        clear hf hss hxx hc bx
        go_wp2_with (first | (go_at_call 34; ((with_reducible refine (rlanes64 _).mono ?_); rintro e w' ⟨rfl, rfl⟩)) | (with_reducible refine load_vec rfl _ rfl _ rfl _ (hs.kb.get hA (by omega)) ?_) | ((with_reducible refine load_vec_g ?_ _ rfl _ rfl _ (hs.kb.get hA (by omega)) ?_); (focus rfl)) | (with_reducible refine load_vec rfl _ rfl _ rfl _ hs.this ?_) | (go_at_call 35; (with_reducible refine (HG.out _).mono ?_); rintro e u ⟨rfl, hb⟩; replace hs := hs.below hb; clear hb) | (go_at_call 44; (with_reducible refine (HS.out _).mono ?_); rintro e u ⟨rfl, hb⟩; replace hs := hs.below hb; clear hb) | (go_at_call 36; (with_reducible refine (rset64z (buildOn 0#128 64 (unR3 64 0 v) i) _ _ i x _ rfl rfl hlt HZ2.out).mono ?_); rintro e u ⟨rfl, hb⟩; replace hs := hs.below hb; clear hb) | (with_reducible refine store_vec rfl _ _ rfl O _ rfl rfl _ hs.this ?_; intro wq hq; replace hs := hs.sets hq; clear hq))
        go_roundw
        case rel => first | exact ⟨i + 1, by omega, by go_num, St.eqY HE.out hs⟩ | ((repeat apply Exists.intro); exact ⟨⟨i + 1, by omega, by go_num, St.eqY HE.out hs⟩, rfl⟩)
        case measure => (simp [intOf] <;> omega)
      · as_aux_lemma =>
        have hf : unR3 64 0 v i = (Pl.u64 (-(x : Int))) := by
          show (if sgn 64 (getN v 64 i) < 0 then _ else _) = _
          rw [← hxx, ← hss, if_pos (by omega)]
        have HE := Lib.hid (step_eq 64 (unR3 64 0 v) 0#128 i (Pl.u64 (-(x : Int))) (by rw [hf]))
        have HZ2 := Lib.hid (show (Pl.u64 (-(x : Int))) < 2 ^ 64 by first | exact u64_lt _ | omega)
        have q : decide (0 ≤ s) = false := decide_eq_false hc
        have q2 : IntKind.u64.wrap (-(x : Int)) = ((Pl.u64 (-(x : Int)) : Nat) : Int) := wrap_u64 _
        clear hf hss hxx hc bx
        go_wp2_with (first | (go_at_call 34; ((with_reducible refine (rlanes64 _).mono ?_); rintro e w' ⟨rfl, rfl⟩)) | (with_reducible refine load_vec rfl _ rfl _ rfl _ (hs.kb.get hA (by omega)) ?_) | ((with_reducible refine load_vec_g ?_ _ rfl _ rfl _ (hs.kb.get hA (by omega)) ?_); (focus rfl)) | (with_reducible refine load_vec rfl _ rfl _ rfl _ hs.this ?_) | (go_at_call 35; (with_reducible refine (HG.out _).mono ?_); rintro e u ⟨rfl, hb⟩; replace hs := hs.below hb; clear hb) | (go_at_call 44; (with_reducible refine (HS.out _).mono ?_); rintro e u ⟨rfl, hb⟩; replace hs := hs.below hb; clear hb) | (go_at_call 36; (with_reducible refine (rset64z (buildOn 0#128 64 (unR3 64 0 v) i) _ _ i (Pl.u64 (-(x : Int))) _ rfl rfl hlt HZ2.out).mono ?_); rintro e u ⟨rfl, hb⟩; replace hs := hs.below hb; clear hb) | (with_reducible refine store_vec rfl _ _ rfl O _ rfl rfl _ hs.this ?_; intro wq hq; replace hs := hs.sets hq; clear hq))
        go_roundw
        case rel => first | exact ⟨i + 1, by omega, by go_num, St.eqY HE.out hs⟩ | ((repeat apply Exists.intro); exact ⟨⟨i + 1, by omega, by go_num, St.eqY HE.out hs⟩, rfl⟩)
        case measure => (simp [intOf] <;> omega)
    · obtain rfl : i = 2 := by omega
      have hR' := hs.kb.get hR (by omega)
      go_wp2_with (first | (go_at_call 34; ((with_reducible refine (rlanes64 _).mono ?_); rintro e w' ⟨rfl, rfl⟩)) | (with_reducible refine load_vec rfl _ rfl _ rfl _ hs.this ?_) | (with_reducible refine store_vec rfl _ _ rfl (w.heap.size + 1) _ rfl rfl _ hR' ?_; intro wq hq))
      refine bodyPost_ret (results_vec_tmp rfl _ _ (w.heap.size + 1) _ _ rfl rfl hq.this) rfl ⟨?_, (hs.kb.to_below hZ hWO).trans (hq.below.mono (by omega))⟩
      exact congrArg (fun z => Ending.returned (.tuple #[.agg (cells z), .int .i64 0])) (on_any 64 (unR3 64 0 v) v (by decide))

set_option maxRecDepth 100000 in
set_option maxHeartbeats 4000000 in
theorem run_64_1 (v : Vec) (w : World) : Calls Try.prog 29 #[.int .i64 64961, .agg (cells v)] w fun e w' => e = .returned (.tuple #[.agg (cells (vu3 64 1 v)), .int .i64 0]) ∧ Below w.heap.size w w' := by
  have hs : HL w [(w.heap.size + 1, 0), (w.heap.size, v)] _ := HL.two w v 0
  rw [cells_zero] at hs
  have T := Lib.hid (fun W => rwidth_any 64961 W (by decide))
  rw [show wF 64961 = 64 by decide] at T
  have K := Lib.hid (fun W => roff_some 64961 1 W (by decide) (by decide) (by decide))
  go_enter Try.func29, Try.ntmps29
  go_wp2_with (first | (go_at_call 30; (with_reducible refine (T.out _).mono ?_); rintro e u ⟨rfl, hb⟩; replace hs := hs.below hb; clear hb) | (go_at_call 33; (with_reducible refine (K.out _).mono ?_); rintro e u ⟨rfl, hb⟩; replace hs := hs.below hb; clear hb))
  rw [← cells_zero]
  obtain ⟨O, hOO⟩ : ∃ B, B = u.heap.size := ⟨_, rfl⟩
  have hlow := HL.low hs
  rw [← hOO] at hlow ⊢
  obtain ⟨W, hW⟩ : ∃ W, W = u.alloc (.cells (cells 0) 23) := ⟨_, rfl⟩
  have hA : W.heap[w.heap.size]? = some (.cells (cells v) 23 (0, 0)) := hW ▸ blk_alloc (hs.hold (_, v) (List.mem_cons_of_mem _ List.mem_cons_self)) _
  have hR : W.heap[w.heap.size + 1]? = some (.cells (cells 0) 23 (0, 0)) := hW ▸ blk_alloc (hs.hold (_, 0) List.mem_cons_self) _
  have hO : W.heap[O]? = some (.cells (cells 0) 23 (0, 0)) := by rw [hW, hOO]; exact heap_alloc_new _ _
  have hZ : Below w.heap.size w W := hW ▸ hs.bel.alloc hs.bel.size _
  have nR : w.heap.size + 1 < O := hlow (_, 0) List.mem_cons_self
  have hWO : w.heap.size ≤ O := by omega
  rw [← hW]
  clear hW hOO hlow hs T K u
  go_loopw [9] (fun iv wr => ∃ i : Nat, i ≤ 2 ∧ iv = .int .i64 i ∧ St W O (buildOn 0#128 64 (unR3 64 1 v) i) wr) (fun iv _ => 2 - (intOf iv).toNat)
  case atStart => exact ⟨0, Nat.zero_le _, rfl, St.start hO⟩
  case round =>
    obtain ⟨i, hi, rfl, hs⟩ := hrel
    by_cases hlt : i < 2
    · obtain ⟨x, hxx⟩ : ∃ x, x = getN v 64 i := ⟨_, rfl⟩
      have bx : x < 18446744073709551616 := hxx ▸ getN_lt v 64 i
      have G := fun W => rget64z v i i W rfl hlt
      have S := fun W => rsigned64z v i i W rfl hlt
      rw [← hxx] at G S
      obtain ⟨s, hss⟩ : ∃ s, s = sgn 64 x := ⟨_, rfl⟩
      rw [← hss] at S
      have HG := Lib.hid G
      have HS := Lib.hid S
      clear G S
      have hf : unR3 64 1 v i = (Pl.u64 (-(x : Int))) := by
        show Pl.u64 (-(getN v 64 i : Int)) = _
        rw [← hxx]
      have HE := Lib.hid (step_eq 64 (unR3 64 1 v) 0#128 i (Pl.u64 (-(x : Int))) (by rw [hf]))
      have HZ2 := Lib.hid (show (Pl.u64 (-(x : Int))) < 2 ^ 64 from u64_lt _)
      have q2 : IntKind.u64.wrap (-(x : Int)) = ((Pl.u64 (-(x : Int)) : Nat) : Int) := wrap_u64 _
      clear hf hss hxx bx
      go_wp2_with (first | (go_at_call 34; ((with_reducible refine (rlanes64 _).mono ?_); rintro e w' ⟨rfl, rfl⟩)) | (with_reducible refine load_vec rfl _ rfl _ rfl _ (hs.kb.get hA (by omega)) ?_) | ((with_reducible refine load_vec_g ?_ _ rfl _ rfl _ (hs.kb.get hA (by omega)) ?_); (focus rfl)) | (with_reducible refine load_vec rfl _ rfl _ rfl _ hs.this ?_) | (go_at_call 35; (with_reducible refine (HG.out _).mono ?_); rintro e u ⟨rfl, hb⟩; replace hs := hs.below hb; clear hb) | (go_at_call 44; (with_reducible refine (HS.out _).mono ?_); rintro e u ⟨rfl, hb⟩; replace hs := hs.below hb; clear hb) | (go_at_call 36; (with_reducible refine (rset64z (buildOn 0#128 64 (unR3 64 1 v) i) _ _ i (Pl.u64 (-(x : Int))) _ rfl rfl hlt HZ2.out).mono ?_); rintro e u ⟨rfl, hb⟩; replace hs := hs.below hb; clear hb) | (with_reducible refine store_vec rfl _ _ rfl O _ rfl rfl _ hs.this ?_; intro wq hq; replace hs := hs.sets hq; clear hq))
      go_roundw
      case rel => first | exact ⟨i + 1, by omega, by go_num, St.eqY HE.out hs⟩ | ((repeat apply Exists.intro); exact ⟨⟨i + 1, by omega, by go_num, St.eqY HE.out hs⟩, rfl⟩)
      case measure => (simp [intOf] <;> omega)
    · obtain rfl : i = 2 := by omega
      have hR' := hs.kb.get hR (by omega)
      go_wp2_with (first | (go_at_call 34; ((with_reducible refine (rlanes64 _).mono ?_); rintro e w' ⟨rfl, rfl⟩)) | (with_reducible refine load_vec rfl _ rfl _ rfl _ hs.this ?_) | (with_reducible refine store_vec rfl _ _ rfl (w.heap.size + 1) _ rfl rfl _ hR' ?_; intro wq hq))
      refine bodyPost_ret (results_vec_tmp rfl _ _ (w.heap.size + 1) _ _ rfl rfl hq.this) rfl ⟨?_, (hs.kb.to_below hZ hWO).trans (hq.below.mono (by omega))⟩
      exact congrArg (fun z => Ending.returned (.tuple #[.agg (cells z), .int .i64 0])) (on_any 64 (unR3 64 1 v) v (by decide))

end Go.Proofs.Ytgemlndpmbeaeaa
