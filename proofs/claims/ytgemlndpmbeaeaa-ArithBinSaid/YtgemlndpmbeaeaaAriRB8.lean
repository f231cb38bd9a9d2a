/-
  plaitref05.Bin at width 8.
-/
import Derived.Test.YtgemlndpmbeaeaaAriRP
import Derived.Test.YtgemlndpmbeaeaaAriLo
set_option linter.unusedSimpArgs false
set_option linter.unusedVariables false
namespace Go.Proofs.Ytgemlndpmbeaeaa
open Go.RowKit Pl

set_option maxRecDepth 100000 in
set_option maxHeartbeats 4000000 in
theorem rbin_8_14 (a b : Vec) (w : World) : Calls Try.prog 31 #[.int .i64 64878, .agg (cells a), .agg (cells b)] w fun e w' => e = .returned (.tuple #[.agg (cells (vb 8 14 a b)), .int .i64 0]) ∧ Below w.heap.size w w' := by
  have hs : HL w [(w.heap.size + 2, 0), (w.heap.size + 1, b), (w.heap.size, a)] _ := HL.three w a b 0
  rw [cells_zero] at hs
  have T := Lib.hid (fun W => rwidth_any 64878 W (by decide))
  rw [show wF 64878 = 8 by decide] at T
  have K := Lib.hid (fun W => roff_some 64878 14 W (by decide) (by decide) (by decide))
  go_enter Try.func31, Try.ntmps31
  go_wp2_with (first | (go_at_call 30; (with_reducible refine (T.out _).mono ?_); rintro e u ⟨rfl, hb⟩; replace hs := hs.below hb; clear hb) | (go_at_call 33; (with_reducible refine (K.out _).mono ?_); rintro e u ⟨rfl, hb⟩; replace hs := hs.below hb; clear hb))
  rw [← cells_zero]
  obtain ⟨O, hOO⟩ : ∃ B, B = u.heap.size := ⟨_, rfl⟩
  have hlow := HL.low hs
  rw [← hOO] at hlow ⊢
  obtain ⟨W, hW⟩ : ∃ W, W = u.alloc (.cells (cells 0) 23) := ⟨_, rfl⟩
  have hA : W.heap[w.heap.size]? = some (.cells (cells a) 23 (0, 0)) := hW ▸ blk_alloc (hs.hold (_, a) (List.mem_cons_of_mem _ (List.mem_cons_of_mem _ List.mem_cons_self))) _
  have hB : W.heap[w.heap.size + 1]? = some (.cells (cells b) 23 (0, 0)) := hW ▸ blk_alloc (hs.hold (_, b) (List.mem_cons_of_mem _ List.mem_cons_self)) _
  have hR : W.heap[w.heap.size + 2]? = some (.cells (cells 0) 23 (0, 0)) := hW ▸ blk_alloc (hs.hold (_, 0) List.mem_cons_self) _
  have hO : W.heap[O]? = some (.cells (cells 0) 23 (0, 0)) := by rw [hW, hOO]; exact heap_alloc_new _ _
  have hZ : Below w.heap.size w W := hW ▸ hs.bel.alloc hs.bel.size _
  have nR : w.heap.size + 2 < O := hlow (_, 0) List.mem_cons_self
  have hWO : w.heap.size ≤ O := by omega
  rw [← hW]
  clear hW hOO hlow hs T K u
  go_loopw [11] (fun iv wr => ∃ i : Nat, i ≤ 16 ∧ iv = .int .i64 i ∧ St W O (buildOn 0#128 8 (laneR 8 14 a b) i) wr) (fun iv _ => 16 - (intOf iv).toNat)
  case atStart => exact ⟨0, Nat.zero_le _, rfl, St.start hO⟩
  case round =>
    obtain ⟨i, hi, rfl, hs⟩ := hrel
    by_cases hlt : i < 16
    · obtain ⟨x, hxx⟩ : ∃ x, x = getN a 8 i := ⟨_, rfl⟩
      obtain ⟨y, hyy⟩ : ∃ x, x = getN b 8 i := ⟨_, rfl⟩
      have bx : x < 256 := hxx ▸ getN_lt a 8 i
      have b_y : y < 256 := hyy ▸ getN_lt b 8 i
      obtain ⟨s, hss⟩ : ∃ s, s = sgn 8 x := ⟨_, rfl⟩
      obtain ⟨t, htt⟩ : ∃ s, s = sgn 8 y := ⟨_, rfl⟩
      have GA := fun W => rget8z a i i W rfl hlt
      have GB := fun W => rget8z b i i W rfl hlt
      have SA := fun W => rsigned8z a i i W rfl hlt
      have SB := fun W => rsigned8z b i i W rfl hlt
      rw [← hxx] at GA SA
      rw [← hyy] at GB SB
      rw [← hss] at SA
      rw [← htt] at SB
      have HGA := Lib.hid GA
      have HGB := Lib.hid GB
      have HSA := Lib.hid SA
      have HSB := Lib.hid SB
      clear GA GB SA SB
      have HL1 : laneR 8 14 a b i = Pl.u64 (laneZ 8 14 x y s t) := by rw [hss, htt, hxx, hyy]; rfl
      have bs : -128 ≤ s ∧ s < 128 := by rw [hss]; unfold sgn; rw [show (2 : Nat) ^ (8 - 1) = 128 from rfl, show (2 : Int) ^ 8 = 256 from rfl]; split <;> omega
      have bt : -128 ≤ t ∧ t < 128 := by rw [htt]; unfold sgn; rw [show (2 : Nat) ^ (8 - 1) = 128 from rfl, show (2 : Int) ^ 8 = 256 from rfl]; split <;> omega
      have ex : x = (s % 256).toNat := by rw [hss]; unfold sgn; rw [show (2 : Nat) ^ (8 - 1) = 128 from rfl, show (2 : Int) ^ 8 = 256 from rfl]; split <;> omega
      have ey : y = (t % 256).toNat := by rw [htt]; unfold sgn; rw [show (2 : Nat) ^ (8 - 1) = 128 from rfl, show (2 : Int) ^ 8 = 256 from rfl]; split <;> omega
      clear hss htt hxx hyy
      have HM : (Pl.u64 ((x : Int) + (y : Int))) % 256 = laneR 8 14 a b i % 256 := by
        rw [HL1]; rfl
      have HE := Lib.hid (step_eq 8 (laneR 8 14 a b) 0#128 i (Pl.u64 ((x : Int) + (y : Int))) HM)
      have HZL : (Pl.u64 ((x : Int) + (y : Int))) < 2 ^ 64 := by first | exact u64_lt _ | omega
      have HZ2 := Lib.hid HZL
      clear HZL HM HL1
      have q : IntKind.u64.wrap ((x : Int) + (y : Int)) = ((Pl.u64 ((x : Int) + (y : Int)) : Nat) : Int) := wrap_u64 _
      clear ex ey bs bt bx b_y
      go_wp2_with (first | (go_at_call 34; ((with_reducible refine (rlanes8 _).mono ?_); rintro e w' ⟨rfl, rfl⟩)) | (with_reducible refine load_vec rfl _ rfl _ rfl _ (hs.kb.get hA (by omega)) ?_) | (with_reducible refine load_vec rfl _ rfl _ rfl _ (hs.kb.get hB (by omega)) ?_) | (with_reducible refine load_vec rfl _ rfl _ rfl _ hs.this ?_) | (go_at_call 35; (with_reducible refine (HGA.out _).mono ?_); rintro e u ⟨rfl, hb⟩; replace hs := hs.below hb; clear hb) | (go_at_call 35; (with_reducible refine (HGB.out _).mono ?_); rintro e u ⟨rfl, hb⟩; replace hs := hs.below hb; clear hb) | (go_at_call 44; (with_reducible refine (HSA.out _).mono ?_); rintro e u ⟨rfl, hb⟩; replace hs := hs.below hb; clear hb) | (go_at_call 44; (with_reducible refine (HSB.out _).mono ?_); rintro e u ⟨rfl, hb⟩; replace hs := hs.below hb; clear hb) | (go_at_call 45; (with_reducible refine (rhold_any _ _ _ _ (by decide)).mono ?_); rintro e u ⟨rfl, hb⟩; replace hs := hs.below hb; clear hb) | (go_at_call 36; (with_reducible refine (rset8z (buildOn 0#128 8 (laneR 8 14 a b) i) _ _ i (Pl.u64 ((x : Int) + (y : Int))) _ rfl rfl hlt HZ2.out).mono ?_); rintro e u ⟨rfl, hb⟩; replace hs := hs.below hb; clear hb) | (with_reducible refine store_vec rfl _ _ rfl O _ rfl rfl _ hs.this ?_; intro wq hq; replace hs := hs.sets hq; clear hq))
      go_roundw
      case rel => first | exact ⟨i + 1, by omega, by go_num, HE.out ▸ hs⟩ | ((repeat apply Exists.intro); exact ⟨⟨i + 1, by omega, by go_num, HE.out ▸ hs⟩, rfl⟩)
      case measure => (simp [intOf] <;> omega)
    · obtain rfl : i = 16 := by omega
      have hR' := hs.kb.get hR (by omega)
      go_wp2_with (first | (go_at_call 34; ((with_reducible refine (rlanes8 _).mono ?_); rintro e w' ⟨rfl, rfl⟩)) | (with_reducible refine load_vec rfl _ rfl _ rfl _ hs.this ?_) | (with_reducible refine store_vec rfl _ _ rfl (w.heap.size + 2) _ rfl rfl _ hR' ?_; intro wq hq))
      exact bodyPost_ret (results_vec_tmp rfl _ _ (w.heap.size + 2) _ _ rfl rfl hq.this) rfl ⟨rfl, (hs.kb.to_below hZ hWO).trans (hq.below.mono (by omega))⟩

set_option maxRecDepth 100000 in
set_option maxHeartbeats 4000000 in
theorem rbin_8_15 (a b : Vec) (w : World) : Calls Try.prog 31 #[.int .i64 64879, .agg (cells a), .agg (cells b)] w fun e w' => e = .returned (.tuple #[.agg (cells (vb 8 15 a b)), .int .i64 0]) ∧ Below w.heap.size w w' := by
  have hs : HL w [(w.heap.size + 2, 0), (w.heap.size + 1, b), (w.heap.size, a)] _ := HL.three w a b 0
  rw [cells_zero] at hs
  have T := Lib.hid (fun W => rwidth_any 64879 W (by decide))
  rw [show wF 64879 = 8 by decide] at T
  have K := Lib.hid (fun W => roff_some 64879 15 W (by decide) (by decide) (by decide))
  go_enter Try.func31, Try.ntmps31
  go_wp2_with (first | (go_at_call 30; (with_reducible refine (T.out _).mono ?_); rintro e u ⟨rfl, hb⟩; replace hs := hs.below hb; clear hb) | (go_at_call 33; (with_reducible refine (K.out _).mono ?_); rintro e u ⟨rfl, hb⟩; replace hs := hs.below hb; clear hb))
  rw [← cells_zero]
  obtain ⟨O, hOO⟩ : ∃ B, B = u.heap.size := ⟨_, rfl⟩
  have hlow := HL.low hs
  rw [← hOO] at hlow ⊢
  obtain ⟨W, hW⟩ : ∃ W, W = u.alloc (.cells (cells 0) 23) := ⟨_, rfl⟩
  have hA : W.heap[w.heap.size]? = some (.cells (cells a) 23 (0, 0)) := hW ▸ blk_alloc (hs.hold (_, a) (List.mem_cons_of_mem _ (List.mem_cons_of_mem _ List.mem_cons_self))) _
  have hB : W.heap[w.heap.size + 1]? = some (.cells (cells b) 23 (0, 0)) := hW ▸ blk_alloc (hs.hold (_, b) (List.mem_cons_of_mem _ List.mem_cons_self)) _
  have hR : W.heap[w.heap.size + 2]? = some (.cells (cells 0) 23 (0, 0)) := hW ▸ blk_alloc (hs.hold (_, 0) List.mem_cons_self) _
  have hO : W.heap[O]? = some (.cells (cells 0) 23 (0, 0)) := by rw [hW, hOO]; exact heap_alloc_new _ _
  have hZ : Below w.heap.size w W := hW ▸ hs.bel.alloc hs.bel.size _
  have nR : w.heap.size + 2 < O := hlow (_, 0) List.mem_cons_self
  have hWO : w.heap.size ≤ O := by omega
  rw [← hW]
  clear hW hOO hlow hs T K u
  go_loopw [11] (fun iv wr => ∃ i : Nat, i ≤ 16 ∧ iv = .int .i64 i ∧ St W O (buildOn 0#128 8 (laneR 8 15 a b) i) wr) (fun iv _ => 16 - (intOf iv).toNat)
  case atStart => exact ⟨0, Nat.zero_le _, rfl, St.start hO⟩
  case round =>
    obtain ⟨i, hi, rfl, hs⟩ := hrel
    by_cases hlt : i < 16
    · obtain ⟨x, hxx⟩ : ∃ x, x = getN a 8 i := ⟨_, rfl⟩
      obtain ⟨y, hyy⟩ : ∃ x, x = getN b 8 i := ⟨_, rfl⟩
      have bx : x < 256 := hxx ▸ getN_lt a 8 i
      have b_y : y < 256 := hyy ▸ getN_lt b 8 i
      obtain ⟨s, hss⟩ : ∃ s, s = sgn 8 x := ⟨_, rfl⟩
      obtain ⟨t, htt⟩ : ∃ s, s = sgn 8 y := ⟨_, rfl⟩
      have GA := fun W => rget8z a i i W rfl hlt
      have GB := fun W => rget8z b i i W rfl hlt
      have SA := fun W => rsigned8z a i i W rfl hlt
      have SB := fun W => rsigned8z b i i W rfl hlt
      rw [← hxx] at GA SA
      rw [← hyy] at GB SB
      rw [← hss] at SA
      rw [← htt] at SB
      have HGA := Lib.hid GA
      have HGB := Lib.hid GB
      have HSA := Lib.hid SA
      have HSB := Lib.hid SB
      clear GA GB SA SB
      have HL1 : laneR 8 15 a b i = Pl.u64 (laneZ 8 15 x y s t) := by rw [hss, htt, hxx, hyy]; rfl
      have bs : -128 ≤ s ∧ s < 128 := by rw [hss]; unfold sgn; rw [show (2 : Nat) ^ (8 - 1) = 128 from rfl, show (2 : Int) ^ 8 = 256 from rfl]; split <;> omega
      have bt : -128 ≤ t ∧ t < 128 := by rw [htt]; unfold sgn; rw [show (2 : Nat) ^ (8 - 1) = 128 from rfl, show (2 : Int) ^ 8 = 256 from rfl]; split <;> omega
      have ex : x = (s % 256).toNat := by rw [hss]; unfold sgn; rw [show (2 : Nat) ^ (8 - 1) = 128 from rfl, show (2 : Int) ^ 8 = 256 from rfl]; split <;> omega
      have ey : y = (t % 256).toNat := by rw [htt]; unfold sgn; rw [show (2 : Nat) ^ (8 - 1) = 128 from rfl, show (2 : Int) ^ 8 = 256 from rfl]; split <;> omega
      clear hss htt hxx hyy
      have HM : (Pl.u64 (min (max (s + t) (-128)) 127)) % 256 = laneR 8 15 a b i % 256 := by
        rw [HL1]; rfl
      have HE := Lib.hid (step_eq 8 (laneR 8 15 a b) 0#128 i (Pl.u64 (min (max (s + t) (-128)) 127)) HM)
      have HZL : (Pl.u64 (min (max (s + t) (-128)) 127)) < 2 ^ 64 := by first | exact u64_lt _ | omega
      have HZ2 := Lib.hid HZL
      clear HZL HM HL1
      have q : IntKind.i64.wrap (s + t) = s + t := IntWalk.i64_in _ (by omega)
      clear ex ey bs bt bx b_y
      go_wp2_with (first | (go_at_call 34; ((with_reducible refine (rlanes8 _).mono ?_); rintro e w' ⟨rfl, rfl⟩)) | (with_reducible refine load_vec rfl _ rfl _ rfl _ (hs.kb.get hA (by omega)) ?_) | (with_reducible refine load_vec rfl _ rfl _ rfl _ (hs.kb.get hB (by omega)) ?_) | (with_reducible refine load_vec rfl _ rfl _ rfl _ hs.this ?_) | (go_at_call 35; (with_reducible refine (HGA.out _).mono ?_); rintro e u ⟨rfl, hb⟩; replace hs := hs.below hb; clear hb) | (go_at_call 35; (with_reducible refine (HGB.out _).mono ?_); rintro e u ⟨rfl, hb⟩; replace hs := hs.below hb; clear hb) | (go_at_call 44; (with_reducible refine (HSA.out _).mono ?_); rintro e u ⟨rfl, hb⟩; replace hs := hs.below hb; clear hb) | (go_at_call 44; (with_reducible refine (HSB.out _).mono ?_); rintro e u ⟨rfl, hb⟩; replace hs := hs.below hb; clear hb) | (go_at_call 45; (with_reducible refine (rhold_any _ _ _ _ (by decide)).mono ?_); rintro e u ⟨rfl, hb⟩; replace hs := hs.below hb; clear hb) | (go_at_call 36; (with_reducible refine (rset8z (buildOn 0#128 8 (laneR 8 15 a b) i) _ _ i (Pl.u64 (min (max (s + t) (-128)) 127)) _ rfl rfl hlt HZ2.out).mono ?_); rintro e u ⟨rfl, hb⟩; replace hs := hs.below hb; clear hb) | (with_reducible refine store_vec rfl _ _ rfl O _ rfl rfl _ hs.this ?_; intro wq hq; replace hs := hs.sets hq; clear hq))
      go_roundw
      case rel => first | exact ⟨i + 1, by omega, by go_num, HE.out ▸ hs⟩ | ((repeat apply Exists.intro); exact ⟨⟨i + 1, by omega, by go_num, HE.out ▸ hs⟩, rfl⟩)
      case measure => (simp [intOf] <;> omega)
    · obtain rfl : i = 16 := by omega
      have hR' := hs.kb.get hR (by omega)
      go_wp2_with (first | (go_at_call 34; ((with_reducible refine (rlanes8 _).mono ?_); rintro e w' ⟨rfl, rfl⟩)) | (with_reducible refine load_vec rfl _ rfl _ rfl _ hs.this ?_) | (with_reducible refine store_vec rfl _ _ rfl (w.heap.size + 2) _ rfl rfl _ hR' ?_; intro wq hq))
      exact bodyPost_ret (results_vec_tmp rfl _ _ (w.heap.size + 2) _ _ rfl rfl hq.this) rfl ⟨rfl, (hs.kb.to_below hZ hWO).trans (hq.below.mono (by omega))⟩

set_option maxRecDepth 100000 in
set_option maxHeartbeats 4000000 in
theorem rbin_8_16 (a b : Vec) (w : World) : Calls Try.prog 31 #[.int .i64 64880, .agg (cells a), .agg (cells b)] w fun e w' => e = .returned (.tuple #[.agg (cells (vb 8 16 a b)), .int .i64 0]) ∧ Below w.heap.size w w' := by
  have hs : HL w [(w.heap.size + 2, 0), (w.heap.size + 1, b), (w.heap.size, a)] _ := HL.three w a b 0
  rw [cells_zero] at hs
  have T := Lib.hid (fun W => rwidth_any 64880 W (by decide))
  rw [show wF 64880 = 8 by decide] at T
  have K := Lib.hid (fun W => roff_some 64880 16 W (by decide) (by decide) (by decide))
  go_enter Try.func31, Try.ntmps31
  go_wp2_with (first | (go_at_call 30; (with_reducible refine (T.out _).mono ?_); rintro e u ⟨rfl, hb⟩; replace hs := hs.below hb; clear hb) | (go_at_call 33; (with_reducible refine (K.out _).mono ?_); rintro e u ⟨rfl, hb⟩; replace hs := hs.below hb; clear hb))
  rw [← cells_zero]
  obtain ⟨O, hOO⟩ : ∃ B, B = u.heap.size := ⟨_, rfl⟩
  have hlow := HL.low hs
  rw [← hOO] at hlow ⊢
  obtain ⟨W, hW⟩ : ∃ W, W = u.alloc (.cells (cells 0) 23) := ⟨_, rfl⟩
  have hA : W.heap[w.heap.size]? = some (.cells (cells a) 23 (0, 0)) := hW ▸ blk_alloc (hs.hold (_, a) (List.mem_cons_of_mem _ (List.mem_cons_of_mem _ List.mem_cons_self))) _
  have hB : W.heap[w.heap.size + 1]? = some (.cells (cells b) 23 (0, 0)) := hW ▸ blk_alloc (hs.hold (_, b) (List.mem_cons_of_mem _ List.mem_cons_self)) _
  have hR : W.heap[w.heap.size + 2]? = some (.cells (cells 0) 23 (0, 0)) := hW ▸ blk_alloc (hs.hold (_, 0) List.mem_cons_self) _
  have hO : W.heap[O]? = some (.cells (cells 0) 23 (0, 0)) := by rw [hW, hOO]; exact heap_alloc_new _ _
  have hZ : Below w.heap.size w W := hW ▸ hs.bel.alloc hs.bel.size _
  have nR : w.heap.size + 2 < O := hlow (_, 0) List.mem_cons_self
  have hWO : w.heap.size ≤ O := by omega
  rw [← hW]
  clear hW hOO hlow hs T K u
  go_loopw [11] (fun iv wr => ∃ i : Nat, i ≤ 16 ∧ iv = .int .i64 i ∧ St W O (buildOn 0#128 8 (laneR 8 16 a b) i) wr) (fun iv _ => 16 - (intOf iv).toNat)
  case atStart => exact ⟨0, Nat.zero_le _, rfl, St.start hO⟩
  case round =>
    obtain ⟨i, hi, rfl, hs⟩ := hrel
    by_cases hlt : i < 16
    · obtain ⟨x, hxx⟩ : ∃ x, x = getN a 8 i := ⟨_, rfl⟩
      obtain ⟨y, hyy⟩ : ∃ x, x = getN b 8 i := ⟨_, rfl⟩
      have bx : x < 256 := hxx ▸ getN_lt a 8 i
      have b_y : y < 256 := hyy ▸ getN_lt b 8 i
      obtain ⟨s, hss⟩ : ∃ s, s = sgn 8 x := ⟨_, rfl⟩
      obtain ⟨t, htt⟩ : ∃ s, s = sgn 8 y := ⟨_, rfl⟩
      have GA := fun W => rget8z a i i W rfl hlt
      have GB := fun W => rget8z b i i W rfl hlt
      have SA := fun W => rsigned8z a i i W rfl hlt
      have SB := fun W => rsigned8z b i i W rfl hlt
      rw [← hxx] at GA SA
      rw [← hyy] at GB SB
      rw [← hss] at SA
      rw [← htt] at SB
      have HGA := Lib.hid GA
      have HGB := Lib.hid GB
      have HSA := Lib.hid SA
      have HSB := Lib.hid SB
      clear GA GB SA SB
      have HL1 : laneR 8 16 a b i = Pl.u64 (laneZ 8 16 x y s t) := by rw [hss, htt, hxx, hyy]; rfl
      have bs : -128 ≤ s ∧ s < 128 := by rw [hss]; unfold sgn; rw [show (2 : Nat) ^ (8 - 1) = 128 from rfl, show (2 : Int) ^ 8 = 256 from rfl]; split <;> omega
      have bt : -128 ≤ t ∧ t < 128 := by rw [htt]; unfold sgn; rw [show (2 : Nat) ^ (8 - 1) = 128 from rfl, show (2 : Int) ^ 8 = 256 from rfl]; split <;> omega
      have ex : x = (s % 256).toNat := by rw [hss]; unfold sgn; rw [show (2 : Nat) ^ (8 - 1) = 128 from rfl, show (2 : Int) ^ 8 = 256 from rfl]; split <;> omega
      have ey : y = (t % 256).toNat := by rw [htt]; unfold sgn; rw [show (2 : Nat) ^ (8 - 1) = 128 from rfl, show (2 : Int) ^ 8 = 256 from rfl]; split <;> omega
      clear hss htt hxx hyy
      have HM : (Pl.u64 (min (max ((x : Int) + (y : Int)) 0) 255)) % 256 = laneR 8 16 a b i % 256 := by
        rw [HL1, show laneZ 8 16 x y s t = min ((x : Int) + (y : Int)) 255 from rfl, show max ((x : Int) + (y : Int)) 0 = (x : Int) + (y : Int) by omega]
      have HE := Lib.hid (step_eq 8 (laneR 8 16 a b) 0#128 i (Pl.u64 (min (max ((x : Int) + (y : Int)) 0) 255)) HM)
      have HZL : (Pl.u64 (min (max ((x : Int) + (y : Int)) 0) 255)) < 2 ^ 64 := by first | exact u64_lt _ | omega
      have HZ2 := Lib.hid HZL
      clear HZL HM HL1
      have q : IntKind.u64.wrap ((x : Int) + (y : Int)) = (x : Int) + (y : Int) := IntWalk.u64_in _ (by omega)
      have q2 : IntKind.i64.wrap ((x : Int) + (y : Int)) = (x : Int) + (y : Int) := IntWalk.i64_in _ (by omega)
      clear ex ey bs bt bx b_y
      go_wp2_with (first | (go_at_call 34; ((with_reducible refine (rlanes8 _).mono ?_); rintro e w' ⟨rfl, rfl⟩)) | (with_reducible refine load_vec rfl _ rfl _ rfl _ (hs.kb.get hA (by omega)) ?_) | (with_reducible refine load_vec rfl _ rfl _ rfl _ (hs.kb.get hB (by omega)) ?_) | (with_reducible refine load_vec rfl _ rfl _ rfl _ hs.this ?_) | (go_at_call 35; (with_reducible refine (HGA.out _).mono ?_); rintro e u ⟨rfl, hb⟩; replace hs := hs.below hb; clear hb) | (go_at_call 35; (with_reducible refine (HGB.out _).mono ?_); rintro e u ⟨rfl, hb⟩; replace hs := hs.below hb; clear hb) | (go_at_call 44; (with_reducible refine (HSA.out _).mono ?_); rintro e u ⟨rfl, hb⟩; replace hs := hs.below hb; clear hb) | (go_at_call 44; (with_reducible refine (HSB.out _).mono ?_); rintro e u ⟨rfl, hb⟩; replace hs := hs.below hb; clear hb) | (go_at_call 45; (with_reducible refine (rhold_any _ _ _ _ (by decide)).mono ?_); rintro e u ⟨rfl, hb⟩; replace hs := hs.below hb; clear hb) | (go_at_call 36; (with_reducible refine (rset8z (buildOn 0#128 8 (laneR 8 16 a b) i) _ _ i (Pl.u64 (min (max ((x : Int) + (y : Int)) 0) 255)) _ rfl rfl hlt HZ2.out).mono ?_); rintro e u ⟨rfl, hb⟩; replace hs := hs.below hb; clear hb) | (with_reducible refine store_vec rfl _ _ rfl O _ rfl rfl _ hs.this ?_; intro wq hq; replace hs := hs.sets hq; clear hq))
      go_roundw
      case rel => first | exact ⟨i + 1, by omega, by go_num, HE.out ▸ hs⟩ | ((repeat apply Exists.intro); exact ⟨⟨i + 1, by omega, by go_num, HE.out ▸ hs⟩, rfl⟩)
      case measure => (simp [intOf] <;> omega)
    · obtain rfl : i = 16 := by omega
      have hR' := hs.kb.get hR (by omega)
      go_wp2_with (first | (go_at_call 34; ((with_reducible refine (rlanes8 _).mono ?_); rintro e w' ⟨rfl, rfl⟩)) | (with_reducible refine load_vec rfl _ rfl _ rfl _ hs.this ?_) | (with_reducible refine store_vec rfl _ _ rfl (w.heap.size + 2) _ rfl rfl _ hR' ?_; intro wq hq))
      exact bodyPost_ret (results_vec_tmp rfl _ _ (w.heap.size + 2) _ _ rfl rfl hq.this) rfl ⟨rfl, (hs.kb.to_below hZ hWO).trans (hq.below.mono (by omega))⟩

set_option maxRecDepth 100000 in
set_option maxHeartbeats 4000000 in
theorem rbin_8_17 (a b : Vec) (w : World) : Calls Try.prog 31 #[.int .i64 64881, .agg (cells a), .agg (cells b)] w fun e w' => e = .returned (.tuple #[.agg (cells (vb 8 17 a b)), .int .i64 0]) ∧ Below w.heap.size w w' := by
  have hs : HL w [(w.heap.size + 2, 0), (w.heap.size + 1, b), (w.heap.size, a)] _ := HL.three w a b 0
  rw [cells_zero] at hs
  have T := Lib.hid (fun W => rwidth_any 64881 W (by decide))
  rw [show wF 64881 = 8 by decide] at T
  have K := Lib.hid (fun W => roff_some 64881 17 W (by decide) (by decide) (by decide))
  go_enter Try.func31, Try.ntmps31
  go_wp2_with (first | (go_at_call 30; (with_reducible refine (T.out _).mono ?_); rintro e u ⟨rfl, hb⟩; replace hs := hs.below hb; clear hb) | (go_at_call 33; (with_reducible refine (K.out _).mono ?_); rintro e u ⟨rfl, hb⟩; replace hs := hs.below hb; clear hb))
  rw [← cells_zero]
  obtain ⟨O, hOO⟩ : ∃ B, B = u.heap.size := ⟨_, rfl⟩
  have hlow := HL.low hs
  rw [← hOO] at hlow ⊢
  obtain ⟨W, hW⟩ : ∃ W, W = u.alloc (.cells (cells 0) 23) := ⟨_, rfl⟩
  have hA : W.heap[w.heap.size]? = some (.cells (cells a) 23 (0, 0)) := hW ▸ blk_alloc (hs.hold (_, a) (List.mem_cons_of_mem _ (List.mem_cons_of_mem _ List.mem_cons_self))) _
  have hB : W.heap[w.heap.size + 1]? = some (.cells (cells b) 23 (0, 0)) := hW ▸ blk_alloc (hs.hold (_, b) (List.mem_cons_of_mem _ List.mem_cons_self)) _
  have hR : W.heap[w.heap.size + 2]? = some (.cells (cells 0) 23 (0, 0)) := hW ▸ blk_alloc (hs.hold (_, 0) List.mem_cons_self) _
  have hO : W.heap[O]? = some (.cells (cells 0) 23 (0, 0)) := by rw [hW, hOO]; exact heap_alloc_new _ _
  have hZ : Below w.heap.size w W := hW ▸ hs.bel.alloc hs.bel.size _
  have nR : w.heap.size + 2 < O := hlow (_, 0) List.mem_cons_self
  have hWO : w.heap.size ≤ O := by omega
  rw [← hW]
  clear hW hOO hlow hs T K u
  go_loopw [11] (fun iv wr => ∃ i : Nat, i ≤ 16 ∧ iv = .int .i64 i ∧ St W O (buildOn 0#128 8 (laneR 8 17 a b) i) wr) (fun iv _ => 16 - (intOf iv).toNat)
  case atStart => exact ⟨0, Nat.zero_le _, rfl, St.start hO⟩
  case round =>
    obtain ⟨i, hi, rfl, hs⟩ := hrel
    by_cases hlt : i < 16
    · obtain ⟨x, hxx⟩ : ∃ x, x = getN a 8 i := ⟨_, rfl⟩
      obtain ⟨y, hyy⟩ : ∃ x, x = getN b 8 i := ⟨_, rfl⟩
      have bx : x < 256 := hxx ▸ getN_lt a 8 i
      have b_y : y < 256 := hyy ▸ getN_lt b 8 i
      obtain ⟨s, hss⟩ : ∃ s, s = sgn 8 x := ⟨_, rfl⟩
      obtain ⟨t, htt⟩ : ∃ s, s = sgn 8 y := ⟨_, rfl⟩
      have GA := fun W => rget8z a i i W rfl hlt
      have GB := fun W => rget8z b i i W rfl hlt
      have SA := fun W => rsigned8z a i i W rfl hlt
      have SB := fun W => rsigned8z b i i W rfl hlt
      rw [← hxx] at GA SA
      rw [← hyy] at GB SB
      rw [← hss] at SA
      rw [← htt] at SB
      have HGA := Lib.hid GA
      have HGB := Lib.hid GB
      have HSA := Lib.hid SA
      have HSB := Lib.hid SB
      clear GA GB SA SB
      have HL1 : laneR 8 17 a b i = Pl.u64 (laneZ 8 17 x y s t) := by rw [hss, htt, hxx, hyy]; rfl
      have bs : -128 ≤ s ∧ s < 128 := by rw [hss]; unfold sgn; rw [show (2 : Nat) ^ (8 - 1) = 128 from rfl, show (2 : Int) ^ 8 = 256 from rfl]; split <;> omega
      have bt : -128 ≤ t ∧ t < 128 := by rw [htt]; unfold sgn; rw [show (2 : Nat) ^ (8 - 1) = 128 from rfl, show (2 : Int) ^ 8 = 256 from rfl]; split <;> omega
      have ex : x = (s % 256).toNat := by rw [hss]; unfold sgn; rw [show (2 : Nat) ^ (8 - 1) = 128 from rfl, show (2 : Int) ^ 8 = 256 from rfl]; split <;> omega
      have ey : y = (t % 256).toNat := by rw [htt]; unfold sgn; rw [show (2 : Nat) ^ (8 - 1) = 128 from rfl, show (2 : Int) ^ 8 = 256 from rfl]; split <;> omega
      clear hss htt hxx hyy
      have HM : (Pl.u64 ((x : Int) - (y : Int))) % 256 = laneR 8 17 a b i % 256 := by
        rw [HL1]; rfl
      have HE := Lib.hid (step_eq 8 (laneR 8 17 a b) 0#128 i (Pl.u64 ((x : Int) - (y : Int))) HM)
      have HZL : (Pl.u64 ((x : Int) - (y : Int))) < 2 ^ 64 := by first | exact u64_lt _ | omega
      have HZ2 := Lib.hid HZL
      clear HZL HM HL1
      have q : IntKind.u64.wrap ((x : Int) - (y : Int)) = ((Pl.u64 ((x : Int) - (y : Int)) : Nat) : Int) := wrap_u64 _
      clear ex ey bs bt bx b_y
      go_wp2_with (first | (go_at_call 34; ((with_reducible refine (rlanes8 _).mono ?_); rintro e w' ⟨rfl, rfl⟩)) | (with_reducible refine load_vec rfl _ rfl _ rfl _ (hs.kb.get hA (by omega)) ?_) | (with_reducible refine load_vec rfl _ rfl _ rfl _ (hs.kb.get hB (by omega)) ?_) | (with_reducible refine load_vec rfl _ rfl _ rfl _ hs.this ?_) | (go_at_call 35; (with_reducible refine (HGA.out _).mono ?_); rintro e u ⟨rfl, hb⟩; replace hs := hs.below hb; clear hb) | (go_at_call 35; (with_reducible refine (HGB.out _).mono ?_); rintro e u ⟨rfl, hb⟩; replace hs := hs.below hb; clear hb) | (go_at_call 44; (with_reducible refine (HSA.out _).mono ?_); rintro e u ⟨rfl, hb⟩; replace hs := hs.below hb; clear hb) | (go_at_call 44; (with_reducible refine (HSB.out _).mono ?_); rintro e u ⟨rfl, hb⟩; replace hs := hs.below hb; clear hb) | (go_at_call 45; (with_reducible refine (rhold_any _ _ _ _ (by decide)).mono ?_); rintro e u ⟨rfl, hb⟩; replace hs := hs.below hb; clear hb) | (go_at_call 36; (with_reducible refine (rset8z (buildOn 0#128 8 (laneR 8 17 a b) i) _ _ i (Pl.u64 ((x : Int) - (y : Int))) _ rfl rfl hlt HZ2.out).mono ?_); rintro e u ⟨rfl, hb⟩; replace hs := hs.below hb; clear hb) | (with_reducible refine store_vec rfl _ _ rfl O _ rfl rfl _ hs.this ?_; intro wq hq; replace hs := hs.sets hq; clear hq))
      go_roundw
      case rel => first | exact ⟨i + 1, by omega, by go_num, HE.out ▸ hs⟩ | ((repeat apply Exists.intro); exact ⟨⟨i + 1, by omega, by go_num, HE.out ▸ hs⟩, rfl⟩)
      case measure => (simp [intOf] <;> omega)
    · obtain rfl : i = 16 := by omega
      have hR' := hs.kb.get hR (by omega)
      go_wp2_with (first | (go_at_call 34; ((with_reducible refine (rlanes8 _).mono ?_); rintro e w' ⟨rfl, rfl⟩)) | (with_reducible refine load_vec rfl _ rfl _ rfl _ hs.this ?_) | (with_reducible refine store_vec rfl _ _ rfl (w.heap.size + 2) _ rfl rfl _ hR' ?_; intro wq hq))
      exact bodyPost_ret (results_vec_tmp rfl _ _ (w.heap.size + 2) _ _ rfl rfl hq.this) rfl ⟨rfl, (hs.kb.to_below hZ hWO).trans (hq.below.mono (by omega))⟩

set_option maxRecDepth 100000 in
set_option maxHeartbeats 4000000 in
theorem rbin_8_18 (a b : Vec) (w : World) : Calls Try.prog 31 #[.int .i64 64882, .agg (cells a), .agg (cells b)] w fun e w' => e = .returned (.tuple #[.agg (cells (vb 8 18 a b)), .int .i64 0]) ∧ Below w.heap.size w w' := by
  have hs : HL w [(w.heap.size + 2, 0), (w.heap.size + 1, b), (w.heap.size, a)] _ := HL.three w a b 0
  rw [cells_zero] at hs
  have T := Lib.hid (fun W => rwidth_any 64882 W (by decide))
  rw [show wF 64882 = 8 by decide] at T
  have K := Lib.hid (fun W => roff_some 64882 18 W (by decide) (by decide) (by decide))
  go_enter Try.func31, Try.ntmps31
  go_wp2_with (first | (go_at_call 30; (with_reducible refine (T.out _).mono ?_); rintro e u ⟨rfl, hb⟩; replace hs := hs.below hb; clear hb) | (go_at_call 33; (with_reducible refine (K.out _).mono ?_); rintro e u ⟨rfl, hb⟩; replace hs := hs.below hb; clear hb))
  rw [← cells_zero]
  obtain ⟨O, hOO⟩ : ∃ B, B = u.heap.size := ⟨_, rfl⟩
  have hlow := HL.low hs
  rw [← hOO] at hlow ⊢
  obtain ⟨W, hW⟩ : ∃ W, W = u.alloc (.cells (cells 0) 23) := ⟨_, rfl⟩
  have hA : W.heap[w.heap.size]? = some (.cells (cells a) 23 (0, 0)) := hW ▸ blk_alloc (hs.hold (_, a) (List.mem_cons_of_mem _ (List.mem_cons_of_mem _ List.mem_cons_self))) _
  have hB : W.heap[w.heap.size + 1]? = some (.cells (cells b) 23 (0, 0)) := hW ▸ blk_alloc (hs.hold (_, b) (List.mem_cons_of_mem _ List.mem_cons_self)) _
  have hR : W.heap[w.heap.size + 2]? = some (.cells (cells 0) 23 (0, 0)) := hW ▸ blk_alloc (hs.hold (_, 0) List.mem_cons_self) _
  have hO : W.heap[O]? = some (.cells (cells 0) 23 (0, 0)) := by rw [hW, hOO]; exact heap_alloc_new _ _
  have hZ : Below w.heap.size w W := hW ▸ hs.bel.alloc hs.bel.size _
  have nR : w.heap.size + 2 < O := hlow (_, 0) List.mem_cons_self
  have hWO : w.heap.size ≤ O := by omega
  rw [← hW]
  clear hW hOO hlow hs T K u
  go_loopw [11] (fun iv wr => ∃ i : Nat, i ≤ 16 ∧ iv = .int .i64 i ∧ St W O (buildOn 0#128 8 (laneR 8 18 a b) i) wr) (fun iv _ => 16 - (intOf iv).toNat)
  case atStart => exact ⟨0, Nat.zero_le _, rfl, St.start hO⟩
  case round =>
    obtain ⟨i, hi, rfl, hs⟩ := hrel
    by_cases hlt : i < 16
    · obtain ⟨x, hxx⟩ : ∃ x, x = getN a 8 i := ⟨_, rfl⟩
      obtain ⟨y, hyy⟩ : ∃ x, x = getN b 8 i := ⟨_, rfl⟩
      have bx : x < 256 := hxx ▸ getN_lt a 8 i
      have b_y : y < 256 := hyy ▸ getN_lt b 8 i
      obtain ⟨s, hss⟩ : ∃ s, s = sgn 8 x := ⟨_, rfl⟩
      obtain ⟨t, htt⟩ : ∃ s, s = sgn 8 y := ⟨_, rfl⟩
      have GA := fun W => rget8z a i i W rfl hlt
      have GB := fun W => rget8z b i i W rfl hlt
      have SA := fun W => rsigned8z a i i W rfl hlt
      have SB := fun W => rsigned8z b i i W rfl hlt
      rw [← hxx] at GA SA
      rw [← hyy] at GB SB
      rw [← hss] at SA
      rw [← htt] at SB
      have HGA := Lib.hid GA
      have HGB := Lib.hid GB
      have HSA := Lib.hid SA
      have HSB := Lib.hid SB
      clear GA GB SA SB
      have HL1 : laneR 8 18 a b i = Pl.u64 (laneZ 8 18 x y s t) := by rw [hss, htt, hxx, hyy]; rfl
      have bs : -128 ≤ s ∧ s < 128 := by rw [hss]; unfold sgn; rw [show (2 : Nat) ^ (8 - 1) = 128 from rfl, show (2 : Int) ^ 8 = 256 from rfl]; split <;> omega
      have bt : -128 ≤ t ∧ t < 128 := by rw [htt]; unfold sgn; rw [show (2 : Nat) ^ (8 - 1) = 128 from rfl, show (2 : Int) ^ 8 = 256 from rfl]; split <;> omega
      have ex : x = (s % 256).toNat := by rw [hss]; unfold sgn; rw [show (2 : Nat) ^ (8 - 1) = 128 from rfl, show (2 : Int) ^ 8 = 256 from rfl]; split <;> omega
      have ey : y = (t % 256).toNat := by rw [htt]; unfold sgn; rw [show (2 : Nat) ^ (8 - 1) = 128 from rfl, show (2 : Int) ^ 8 = 256 from rfl]; split <;> omega
      clear hss htt hxx hyy
      have HM : (Pl.u64 (min (max (s - t) (-128)) 127)) % 256 = laneR 8 18 a b i % 256 := by
        rw [HL1]; rfl
      have HE := Lib.hid (step_eq 8 (laneR 8 18 a b) 0#128 i (Pl.u64 (min (max (s - t) (-128)) 127)) HM)
      have HZL : (Pl.u64 (min (max (s - t) (-128)) 127)) < 2 ^ 64 := by first | exact u64_lt _ | omega
      have HZ2 := Lib.hid HZL
      clear HZL HM HL1
      have q : IntKind.i64.wrap (s - t) = s - t := IntWalk.i64_in _ (by omega)
      clear ex ey bs bt bx b_y
      go_wp2_with (first | (go_at_call 34; ((with_reducible refine (rlanes8 _).mono ?_); rintro e w' ⟨rfl, rfl⟩)) | (with_reducible refine load_vec rfl _ rfl _ rfl _ (hs.kb.get hA (by omega)) ?_) | (with_reducible refine load_vec rfl _ rfl _ rfl _ (hs.kb.get hB (by omega)) ?_) | (with_reducible refine load_vec rfl _ rfl _ rfl _ hs.this ?_) | (go_at_call 35; (with_reducible refine (HGA.out _).mono ?_); rintro e u ⟨rfl, hb⟩; replace hs := hs.below hb; clear hb) | (go_at_call 35; (with_reducible refine (HGB.out _).mono ?_); rintro e u ⟨rfl, hb⟩; replace hs := hs.below hb; clear hb) | (go_at_call 44; (with_reducible refine (HSA.out _).mono ?_); rintro e u ⟨rfl, hb⟩; replace hs := hs.below hb; clear hb) | (go_at_call 44; (with_reducible refine (HSB.out _).mono ?_); rintro e u ⟨rfl, hb⟩; replace hs := hs.below hb; clear hb) | (go_at_call 45; (with_reducible refine (rhold_any _ _ _ _ (by decide)).mono ?_); rintro e u ⟨rfl, hb⟩; replace hs := hs.below hb; clear hb) | (go_at_call 36; (with_reducible refine (rset8z (buildOn 0#128 8 (laneR 8 18 a b) i) _ _ i (Pl.u64 (min (max (s - t) (-128)) 127)) _ rfl rfl hlt HZ2.out).mono ?_); rintro e u ⟨rfl, hb⟩; replace hs := hs.below hb; clear hb) | (with_reducible refine store_vec rfl _ _ rfl O _ rfl rfl _ hs.this ?_; intro wq hq; replace hs := hs.sets hq; clear hq))
      go_roundw
      case rel => first | exact ⟨i + 1, by omega, by go_num, HE.out ▸ hs⟩ | ((repeat apply Exists.intro); exact ⟨⟨i + 1, by omega, by go_num, HE.out ▸ hs⟩, rfl⟩)
      case measure => (simp [intOf] <;> omega)
    · obtain rfl : i = 16 := by omega
      have hR' := hs.kb.get hR (by omega)
      go_wp2_with (first | (go_at_call 34; ((with_reducible refine (rlanes8 _).mono ?_); rintro e w' ⟨rfl, rfl⟩)) | (with_reducible refine load_vec rfl _ rfl _ rfl _ hs.this ?_) | (with_reducible refine store_vec rfl _ _ rfl (w.heap.size + 2) _ rfl rfl _ hR' ?_; intro wq hq))
      exact bodyPost_ret (results_vec_tmp rfl _ _ (w.heap.size + 2) _ _ rfl rfl hq.this) rfl ⟨rfl, (hs.kb.to_below hZ hWO).trans (hq.below.mono (by omega))⟩

set_option maxRecDepth 100000 in
set_option maxHeartbeats 4000000 in
theorem rbin_8_19 (a b : Vec) (w : World) : Calls Try.prog 31 #[.int .i64 64883, .agg (cells a), .agg (cells b)] w fun e w' => e = .returned (.tuple #[.agg (cells (vb 8 19 a b)), .int .i64 0]) ∧ Below w.heap.size w w' := by
  have hs : HL w [(w.heap.size + 2, 0), (w.heap.size + 1, b), (w.heap.size, a)] _ := HL.three w a b 0
  rw [cells_zero] at hs
  have T := Lib.hid (fun W => rwidth_any 64883 W (by decide))
  rw [show wF 64883 = 8 by decide] at T
  have K := Lib.hid (fun W => roff_some 64883 19 W (by decide) (by decide) (by decide))
  go_enter Try.func31, Try.ntmps31
  go_wp2_with (first | (go_at_call 30; (with_reducible refine (T.out _).mono ?_); rintro e u ⟨rfl, hb⟩; replace hs := hs.below hb; clear hb) | (go_at_call 33; (with_reducible refine (K.out _).mono ?_); rintro e u ⟨rfl, hb⟩; replace hs := hs.below hb; clear hb))
  rw [← cells_zero]
  obtain ⟨O, hOO⟩ : ∃ B, B = u.heap.size := ⟨_, rfl⟩
  have hlow := HL.low hs
  rw [← hOO] at hlow ⊢
  obtain ⟨W, hW⟩ : ∃ W, W = u.alloc (.cells (cells 0) 23) := ⟨_, rfl⟩
  have hA : W.heap[w.heap.size]? = some (.cells (cells a) 23 (0, 0)) := hW ▸ blk_alloc (hs.hold (_, a) (List.mem_cons_of_mem _ (List.mem_cons_of_mem _ List.mem_cons_self))) _
  have hB : W.heap[w.heap.size + 1]? = some (.cells (cells b) 23 (0, 0)) := hW ▸ blk_alloc (hs.hold (_, b) (List.mem_cons_of_mem _ List.mem_cons_self)) _
  have hR : W.heap[w.heap.size + 2]? = some (.cells (cells 0) 23 (0, 0)) := hW ▸ blk_alloc (hs.hold (_, 0) List.mem_cons_self) _
  have hO : W.heap[O]? = some (.cells (cells 0) 23 (0, 0)) := by rw [hW, hOO]; exact heap_alloc_new _ _
  have hZ : Below w.heap.size w W := hW ▸ hs.bel.alloc hs.bel.size _
  have nR : w.heap.size + 2 < O := hlow (_, 0) List.mem_cons_self
  have hWO : w.heap.size ≤ O := by omega
  rw [← hW]
  clear hW hOO hlow hs T K u
  go_loopw [11] (fun iv wr => ∃ i : Nat, i ≤ 16 ∧ iv = .int .i64 i ∧ St W O (buildOn 0#128 8 (laneR 8 19 a b) i) wr) (fun iv _ => 16 - (intOf iv).toNat)
  case atStart => exact ⟨0, Nat.zero_le _, rfl, St.start hO⟩
  case round =>
    obtain ⟨i, hi, rfl, hs⟩ := hrel
    by_cases hlt : i < 16
    · obtain ⟨x, hxx⟩ : ∃ x, x = getN a 8 i := ⟨_, rfl⟩
      obtain ⟨y, hyy⟩ : ∃ x, x = getN b 8 i := ⟨_, rfl⟩
      have bx : x < 256 := hxx ▸ getN_lt a 8 i
      have b_y : y < 256 := hyy ▸ getN_lt b 8 i
      obtain ⟨s, hss⟩ : ∃ s, s = sgn 8 x := ⟨_, rfl⟩
      obtain ⟨t, htt⟩ : ∃ s, s = sgn 8 y := ⟨_, rfl⟩
      have GA := fun W => rget8z a i i W rfl hlt
      have GB := fun W => rget8z b i i W rfl hlt
      have SA := fun W => rsigned8z a i i W rfl hlt
      have SB := fun W => rsigned8z b i i W rfl hlt
      rw [← hxx] at GA SA
      rw [← hyy] at GB SB
      rw [← hss] at SA
      rw [← htt] at SB
      have HGA := Lib.hid GA
      have HGB := Lib.hid GB
      have HSA := Lib.hid SA
      have HSB := Lib.hid SB
      clear GA GB SA SB
      have HL1 : laneR 8 19 a b i = Pl.u64 (laneZ 8 19 x y s t) := by rw [hss, htt, hxx, hyy]; rfl
      have bs : -128 ≤ s ∧ s < 128 := by rw [hss]; unfold sgn; rw [show (2 : Nat) ^ (8 - 1) = 128 from rfl, show (2 : Int) ^ 8 = 256 from rfl]; split <;> omega
      have bt : -128 ≤ t ∧ t < 128 := by rw [htt]; unfold sgn; rw [show (2 : Nat) ^ (8 - 1) = 128 from rfl, show (2 : Int) ^ 8 = 256 from rfl]; split <;> omega
      have ex : x = (s % 256).toNat := by rw [hss]; unfold sgn; rw [show (2 : Nat) ^ (8 - 1) = 128 from rfl, show (2 : Int) ^ 8 = 256 from rfl]; split <;> omega
      have ey : y = (t % 256).toNat := by rw [htt]; unfold sgn; rw [show (2 : Nat) ^ (8 - 1) = 128 from rfl, show (2 : Int) ^ 8 = 256 from rfl]; split <;> omega
      clear hss htt hxx hyy
      have HM : (Pl.u64 (min (max ((x : Int) - (y : Int)) 0) 255)) % 256 = laneR 8 19 a b i % 256 := by
        rw [HL1, show laneZ 8 19 x y s t = (x : Int) - ((min x y : Nat) : Int) from rfl, show min (max ((x : Int) - (y : Int)) 0) 255 = (x : Int) - ((min x y : Nat) : Int) by omega]
      have HE := Lib.hid (step_eq 8 (laneR 8 19 a b) 0#128 i (Pl.u64 (min (max ((x : Int) - (y : Int)) 0) 255)) HM)
      have HZL : (Pl.u64 (min (max ((x : Int) - (y : Int)) 0) 255)) < 2 ^ 64 := by first | exact u64_lt _ | omega
      have HZ2 := Lib.hid HZL
      clear HZL HM HL1
      have q : IntKind.i64.wrap (x : Int) = (x : Int) := IntWalk.i64_in _ (by omega)
      have q1 : IntKind.i64.wrap (y : Int) = (y : Int) := IntWalk.i64_in _ (by omega)
      have q2 : IntKind.i64.wrap ((x : Int) - (y : Int)) = (x : Int) - (y : Int) := IntWalk.i64_in _ (by omega)
      clear ex ey bs bt bx b_y
      go_wp2_with (first | (go_at_call 34; ((with_reducible refine (rlanes8 _).mono ?_); rintro e w' ⟨rfl, rfl⟩)) | (with_reducible refine load_vec rfl _ rfl _ rfl _ (hs.kb.get hA (by omega)) ?_) | (with_reducible refine load_vec rfl _ rfl _ rfl _ (hs.kb.get hB (by omega)) ?_) | (with_reducible refine load_vec rfl _ rfl _ rfl _ hs.this ?_) | (go_at_call 35; (with_reducible refine (HGA.out _).mono ?_); rintro e u ⟨rfl, hb⟩; replace hs := hs.below hb; clear hb) | (go_at_call 35; (with_reducible refine (HGB.out _).mono ?_); rintro e u ⟨rfl, hb⟩; replace hs := hs.below hb; clear hb) | (go_at_call 44; (with_reducible refine (HSA.out _).mono ?_); rintro e u ⟨rfl, hb⟩; replace hs := hs.below hb; clear hb) | (go_at_call 44; (with_reducible refine (HSB.out _).mono ?_); rintro e u ⟨rfl, hb⟩; replace hs := hs.below hb; clear hb) | (go_at_call 45; (with_reducible refine (rhold_any _ _ _ _ (by decide)).mono ?_); rintro e u ⟨rfl, hb⟩; replace hs := hs.below hb; clear hb) | (go_at_call 36; (with_reducible refine (rset8z (buildOn 0#128 8 (laneR 8 19 a b) i) _ _ i (Pl.u64 (min (max ((x : Int) - (y : Int)) 0) 255)) _ rfl rfl hlt HZ2.out).mono ?_); rintro e u ⟨rfl, hb⟩; replace hs := hs.below hb; clear hb) | (with_reducible refine store_vec rfl _ _ rfl O _ rfl rfl _ hs.this ?_; intro wq hq; replace hs := hs.sets hq; clear hq))
      go_roundw
      case rel => first | exact ⟨i + 1, by omega, by go_num, HE.out ▸ hs⟩ | ((repeat apply Exists.intro); exact ⟨⟨i + 1, by omega, by go_num, HE.out ▸ hs⟩, rfl⟩)
      case measure => (simp [intOf] <;> omega)
    · obtain rfl : i = 16 := by omega
      have hR' := hs.kb.get hR (by omega)
      go_wp2_with (first | (go_at_call 34; ((with_reducible refine (rlanes8 _).mono ?_); rintro e w' ⟨rfl, rfl⟩)) | (with_reducible refine load_vec rfl _ rfl _ rfl _ hs.this ?_) | (with_reducible refine store_vec rfl _ _ rfl (w.heap.size + 2) _ rfl rfl _ hR' ?_; intro wq hq))
      exact bodyPost_ret (results_vec_tmp rfl _ _ (w.heap.size + 2) _ _ rfl rfl hq.this) rfl ⟨rfl, (hs.kb.to_below hZ hWO).trans (hq.below.mono (by omega))⟩

set_option maxRecDepth 100000 in
set_option maxHeartbeats 4000000 in
theorem rbin_8_22 (a b : Vec) (w : World) : Calls Try.prog 31 #[.int .i64 64886, .agg (cells a), .agg (cells b)] w fun e w' => e = .returned (.tuple #[.agg (cells (vb 8 22 a b)), .int .i64 0]) ∧ Below w.heap.size w w' := by
  have hs : HL w [(w.heap.size + 2, 0), (w.heap.size + 1, b), (w.heap.size, a)] _ := HL.three w a b 0
  rw [cells_zero] at hs
  have T := Lib.hid (fun W => rwidth_any 64886 W (by decide))
  rw [show wF 64886 = 8 by decide] at T
  have K := Lib.hid (fun W => roff_some 64886 22 W (by decide) (by decide) (by decide))
  go_enter Try.func31, Try.ntmps31
  go_wp2_with (first | (go_at_call 30; (with_reducible refine (T.out _).mono ?_); rintro e u ⟨rfl, hb⟩; replace hs := hs.below hb; clear hb) | (go_at_call 33; (with_reducible refine (K.out _).mono ?_); rintro e u ⟨rfl, hb⟩; replace hs := hs.below hb; clear hb))
  rw [← cells_zero]
  obtain ⟨O, hOO⟩ : ∃ B, B = u.heap.size := ⟨_, rfl⟩
  have hlow := HL.low hs
  rw [← hOO] at hlow ⊢
  obtain ⟨W, hW⟩ : ∃ W, W = u.alloc (.cells (cells 0) 23) := ⟨_, rfl⟩
  have hA : W.heap[w.heap.size]? = some (.cells (cells a) 23 (0, 0)) := hW ▸ blk_alloc (hs.hold (_, a) (List.mem_cons_of_mem _ (List.mem_cons_of_mem _ List.mem_cons_self))) _
  have hB : W.heap[w.heap.size + 1]? = some (.cells (cells b) 23 (0, 0)) := hW ▸ blk_alloc (hs.hold (_, b) (List.mem_cons_of_mem _ List.mem_cons_self)) _
  have hR : W.heap[w.heap.size + 2]? = some (.cells (cells 0) 23 (0, 0)) := hW ▸ blk_alloc (hs.hold (_, 0) List.mem_cons_self) _
  have hO : W.heap[O]? = some (.cells (cells 0) 23 (0, 0)) := by rw [hW, hOO]; exact heap_alloc_new _ _
  have hZ : Below w.heap.size w W := hW ▸ hs.bel.alloc hs.bel.size _
  have nR : w.heap.size + 2 < O := hlow (_, 0) List.mem_cons_self
  have hWO : w.heap.size ≤ O := by omega
  rw [← hW]
  clear hW hOO hlow hs T K u
  go_loopw [11] (fun iv wr => ∃ i : Nat, i ≤ 16 ∧ iv = .int .i64 i ∧ St W O (buildOn 0#128 8 (laneR 8 22 a b) i) wr) (fun iv _ => 16 - (intOf iv).toNat)
  case atStart => exact ⟨0, Nat.zero_le _, rfl, St.start hO⟩
  case round =>
    obtain ⟨i, hi, rfl, hs⟩ := hrel
    by_cases hlt : i < 16
    · obtain ⟨x, hxx⟩ : ∃ x, x = getN a 8 i := ⟨_, rfl⟩
      obtain ⟨y, hyy⟩ : ∃ x, x = getN b 8 i := ⟨_, rfl⟩
      have bx : x < 256 := hxx ▸ getN_lt a 8 i
      have b_y : y < 256 := hyy ▸ getN_lt b 8 i
      obtain ⟨s, hss⟩ : ∃ s, s = sgn 8 x := ⟨_, rfl⟩
      obtain ⟨t, htt⟩ : ∃ s, s = sgn 8 y := ⟨_, rfl⟩
      have GA := fun W => rget8z a i i W rfl hlt
      have GB := fun W => rget8z b i i W rfl hlt
      have SA := fun W => rsigned8z a i i W rfl hlt
      have SB := fun W => rsigned8z b i i W rfl hlt
      rw [← hxx] at GA SA
      rw [← hyy] at GB SB
      rw [← hss] at SA
      rw [← htt] at SB
      have HGA := Lib.hid GA
      have HGB := Lib.hid GB
      have HSA := Lib.hid SA
      have HSB := Lib.hid SB
      clear GA GB SA SB
      have HL1 : laneR 8 22 a b i = Pl.u64 (laneZ 8 22 x y s t) := by rw [hss, htt, hxx, hyy]; rfl
      have bs : -128 ≤ s ∧ s < 128 := by rw [hss]; unfold sgn; rw [show (2 : Nat) ^ (8 - 1) = 128 from rfl, show (2 : Int) ^ 8 = 256 from rfl]; split <;> omega
      have bt : -128 ≤ t ∧ t < 128 := by rw [htt]; unfold sgn; rw [show (2 : Nat) ^ (8 - 1) = 128 from rfl, show (2 : Int) ^ 8 = 256 from rfl]; split <;> omega
      have ex : x = (s % 256).toNat := by rw [hss]; unfold sgn; rw [show (2 : Nat) ^ (8 - 1) = 128 from rfl, show (2 : Int) ^ 8 = 256 from rfl]; split <;> omega
      have ey : y = (t % 256).toNat := by rw [htt]; unfold sgn; rw [show (2 : Nat) ^ (8 - 1) = 128 from rfl, show (2 : Int) ^ 8 = 256 from rfl]; split <;> omega
      clear hss htt hxx hyy
      by_cases hc : t < s
      · as_aux_lemma =>
        have HM : y % 256 = laneR 8 22 a b i % 256 := by
          rw [HL1, show laneZ 8 22 x y s t = min s t from rfl]
          unfold Pl.u64; omega
        have HE := Lib.hid (step_eq 8 (laneR 8 22 a b) 0#128 i y HM)
        have HZL : y < 2 ^ 64 := by first | exact u64_lt _ | omega
        have HZ2 := Lib.hid HZL
        clear HZL HM HL1
        have q : decide (t < s) = true := decide_eq_true hc
        clear hc
        clear ex ey bs bt bx b_y
        go_wp2_with (first | (go_at_call 34; ((with_reducible refine (rlanes8 _).mono ?_); rintro e w' ⟨rfl, rfl⟩)) | (with_reducible refine load_vec rfl _ rfl _ rfl _ (hs.kb.get hA (by omega)) ?_) | (with_reducible refine load_vec rfl _ rfl _ rfl _ (hs.kb.get hB (by omega)) ?_) | (with_reducible refine load_vec rfl _ rfl _ rfl _ hs.this ?_) | (go_at_call 35; (with_reducible refine (HGA.out _).mono ?_); rintro e u ⟨rfl, hb⟩; replace hs := hs.below hb; clear hb) | (go_at_call 35; (with_reducible refine (HGB.out _).mono ?_); rintro e u ⟨rfl, hb⟩; replace hs := hs.below hb; clear hb) | (go_at_call 44; (with_reducible refine (HSA.out _).mono ?_); rintro e u ⟨rfl, hb⟩; replace hs := hs.below hb; clear hb) | (go_at_call 44; (with_reducible refine (HSB.out _).mono ?_); rintro e u ⟨rfl, hb⟩; replace hs := hs.below hb; clear hb) | (go_at_call 45; (with_reducible refine (rhold_any _ _ _ _ (by decide)).mono ?_); rintro e u ⟨rfl, hb⟩; replace hs := hs.below hb; clear hb) | (go_at_call 36; (with_reducible refine (rset8z (buildOn 0#128 8 (laneR 8 22 a b) i) _ _ i y _ rfl rfl hlt HZ2.out).mono ?_); rintro e u ⟨rfl, hb⟩; replace hs := hs.below hb; clear hb) | (with_reducible refine store_vec rfl _ _ rfl O _ rfl rfl _ hs.this ?_; intro wq hq; replace hs := hs.sets hq; clear hq))
        go_roundw
        case rel => first | exact ⟨i + 1, by omega, by go_num, HE.out ▸ hs⟩ | ((repeat apply Exists.intro); exact ⟨⟨i + 1, by omega, by go_num, HE.out ▸ hs⟩, rfl⟩)
        case measure => (simp [intOf] <;> omega)
      · as_aux_lemma =>
        have HM : x % 256 = laneR 8 22 a b i % 256 := by
          rw [HL1, show laneZ 8 22 x y s t = min s t from rfl]
          unfold Pl.u64; omega
        have HE := Lib.hid (step_eq 8 (laneR 8 22 a b) 0#128 i x HM)
        have HZL : x < 2 ^ 64 := by first | exact u64_lt _ | omega
        have HZ2 := Lib.hid HZL
        clear HZL HM HL1
        have q : decide (t < s) = false := decide_eq_false hc
        clear hc
        clear ex ey bs bt bx b_y
        go_wp2_with (first | (go_at_call 34; ((with_reducible refine (rlanes8 _).mono ?_); rintro e w' ⟨rfl, rfl⟩)) | (with_reducible refine load_vec rfl _ rfl _ rfl _ (hs.kb.get hA (by omega)) ?_) | (with_reducible refine load_vec rfl _ rfl _ rfl _ (hs.kb.get hB (by omega)) ?_) | (with_reducible refine load_vec rfl _ rfl _ rfl _ hs.this ?_) | (go_at_call 35; (with_reducible refine (HGA.out _).mono ?_); rintro e u ⟨rfl, hb⟩; replace hs := hs.below hb; clear hb) | (go_at_call 35; (with_reducible refine (HGB.out _).mono ?_); rintro e u ⟨rfl, hb⟩; replace hs := hs.below hb; clear hb) | (go_at_call 44; (with_reducible refine (HSA.out _).mono ?_); rintro e u ⟨rfl, hb⟩; replace hs := hs.below hb; clear hb) | (go_at_call 44; (with_reducible refine (HSB.out _).mono ?_); rintro e u ⟨rfl, hb⟩; replace hs := hs.below hb; clear hb) | (go_at_call 45; (with_reducible refine (rhold_any _ _ _ _ (by decide)).mono ?_); rintro e u ⟨rfl, hb⟩; replace hs := hs.below hb; clear hb) | (go_at_call 36; (with_reducible refine (rset8z (buildOn 0#128 8 (laneR 8 22 a b) i) _ _ i x _ rfl rfl hlt HZ2.out).mono ?_); rintro e u ⟨rfl, hb⟩; replace hs := hs.below hb; clear hb) | (with_reducible refine store_vec rfl _ _ rfl O _ rfl rfl _ hs.this ?_; intro wq hq; replace hs := hs.sets hq; clear hq))
        go_roundw
        case rel => first | exact ⟨i + 1, by omega, by go_num, HE.out ▸ hs⟩ | ((repeat apply Exists.intro); exact ⟨⟨i + 1, by omega, by go_num, HE.out ▸ hs⟩, rfl⟩)
        case measure => (simp [intOf] <;> omega)
    · obtain rfl : i = 16 := by omega
      have hR' := hs.kb.get hR (by omega)
      go_wp2_with (first | (go_at_call 34; ((with_reducible refine (rlanes8 _).mono ?_); rintro e w' ⟨rfl, rfl⟩)) | (with_reducible refine load_vec rfl _ rfl _ rfl _ hs.this ?_) | (with_reducible refine store_vec rfl _ _ rfl (w.heap.size + 2) _ rfl rfl _ hR' ?_; intro wq hq))
      exact bodyPost_ret (results_vec_tmp rfl _ _ (w.heap.size + 2) _ _ rfl rfl hq.this) rfl ⟨rfl, (hs.kb.to_below hZ hWO).trans (hq.below.mono (by omega))⟩

set_option maxRecDepth 100000 in
set_option maxHeartbeats 4000000 in
theorem rbin_8_23 (a b : Vec) (w : World) : Calls Try.prog 31 #[.int .i64 64887, .agg (cells a), .agg (cells b)] w fun e w' => e = .returned (.tuple #[.agg (cells (vb 8 23 a b)), .int .i64 0]) ∧ Below w.heap.size w w' := by
  have hs : HL w [(w.heap.size + 2, 0), (w.heap.size + 1, b), (w.heap.size, a)] _ := HL.three w a b 0
  rw [cells_zero] at hs
  have T := Lib.hid (fun W => rwidth_any 64887 W (by decide))
  rw [show wF 64887 = 8 by decide] at T
  have K := Lib.hid (fun W => roff_some 64887 23 W (by decide) (by decide) (by decide))
  go_enter Try.func31, Try.ntmps31
  go_wp2_with (first | (go_at_call 30; (with_reducible refine (T.out _).mono ?_); rintro e u ⟨rfl, hb⟩; replace hs := hs.below hb; clear hb) | (go_at_call 33; (with_reducible refine (K.out _).mono ?_); rintro e u ⟨rfl, hb⟩; replace hs := hs.below hb; clear hb))
  rw [← cells_zero]
  obtain ⟨O, hOO⟩ : ∃ B, B = u.heap.size := ⟨_, rfl⟩
  have hlow := HL.low hs
  rw [← hOO] at hlow ⊢
  obtain ⟨W, hW⟩ : ∃ W, W = u.alloc (.cells (cells 0) 23) := ⟨_, rfl⟩
  have hA : W.heap[w.heap.size]? = some (.cells (cells a) 23 (0, 0)) := hW ▸ blk_alloc (hs.hold (_, a) (List.mem_cons_of_mem _ (List.mem_cons_of_mem _ List.mem_cons_self))) _
  have hB : W.heap[w.heap.size + 1]? = some (.cells (cells b) 23 (0, 0)) := hW ▸ blk_alloc (hs.hold (_, b) (List.mem_cons_of_mem _ List.mem_cons_self)) _
  have hR : W.heap[w.heap.size + 2]? = some (.cells (cells 0) 23 (0, 0)) := hW ▸ blk_alloc (hs.hold (_, 0) List.mem_cons_self) _
  have hO : W.heap[O]? = some (.cells (cells 0) 23 (0, 0)) := by rw [hW, hOO]; exact heap_alloc_new _ _
  have hZ : Below w.heap.size w W := hW ▸ hs.bel.alloc hs.bel.size _
  have nR : w.heap.size + 2 < O := hlow (_, 0) List.mem_cons_self
  have hWO : w.heap.size ≤ O := by omega
  rw [← hW]
  clear hW hOO hlow hs T K u
  go_loopw [11] (fun iv wr => ∃ i : Nat, i ≤ 16 ∧ iv = .int .i64 i ∧ St W O (buildOn 0#128 8 (laneR 8 23 a b) i) wr) (fun iv _ => 16 - (intOf iv).toNat)
  case atStart => exact ⟨0, Nat.zero_le _, rfl, St.start hO⟩
  case round =>
    obtain ⟨i, hi, rfl, hs⟩ := hrel
    by_cases hlt : i < 16
    · obtain ⟨x, hxx⟩ : ∃ x, x = getN a 8 i := ⟨_, rfl⟩
      obtain ⟨y, hyy⟩ : ∃ x, x = getN b 8 i := ⟨_, rfl⟩
      have bx : x < 256 := hxx ▸ getN_lt a 8 i
      have b_y : y < 256 := hyy ▸ getN_lt b 8 i
      obtain ⟨s, hss⟩ : ∃ s, s = sgn 8 x := ⟨_, rfl⟩
      obtain ⟨t, htt⟩ : ∃ s, s = sgn 8 y := ⟨_, rfl⟩
      have GA := fun W => rget8z a i i W rfl hlt
      have GB := fun W => rget8z b i i W rfl hlt
      have SA := fun W => rsigned8z a i i W rfl hlt
      have SB := fun W => rsigned8z b i i W rfl hlt
      rw [← hxx] at GA SA
      rw [← hyy] at GB SB
      rw [← hss] at SA
      rw [← htt] at SB
      have HGA := Lib.hid GA
      have HGB := Lib.hid GB
      have HSA := Lib.hid SA
      have HSB := Lib.hid SB
      clear GA GB SA SB
      have HL1 : laneR 8 23 a b i = Pl.u64 (laneZ 8 23 x y s t) := by rw [hss, htt, hxx, hyy]; rfl
      have bs : -128 ≤ s ∧ s < 128 := by rw [hss]; unfold sgn; rw [show (2 : Nat) ^ (8 - 1) = 128 from rfl, show (2 : Int) ^ 8 = 256 from rfl]; split <;> omega
      have bt : -128 ≤ t ∧ t < 128 := by rw [htt]; unfold sgn; rw [show (2 : Nat) ^ (8 - 1) = 128 from rfl, show (2 : Int) ^ 8 = 256 from rfl]; split <;> omega
      have ex : x = (s % 256).toNat := by rw [hss]; unfold sgn; rw [show (2 : Nat) ^ (8 - 1) = 128 from rfl, show (2 : Int) ^ 8 = 256 from rfl]; split <;> omega
      have ey : y = (t % 256).toNat := by rw [htt]; unfold sgn; rw [show (2 : Nat) ^ (8 - 1) = 128 from rfl, show (2 : Int) ^ 8 = 256 from rfl]; split <;> omega
      clear hss htt hxx hyy
      by_cases hc : y < x
      · as_aux_lemma =>
        have HM : y % 256 = laneR 8 23 a b i % 256 := by
          rw [HL1, show laneZ 8 23 x y s t = min (x : Int) (y : Int) from rfl]
          unfold Pl.u64; omega
        have HE := Lib.hid (step_eq 8 (laneR 8 23 a b) 0#128 i y HM)
        have HZL : y < 2 ^ 64 := by first | exact u64_lt _ | omega
        have HZ2 := Lib.hid HZL
        clear HZL HM HL1
        have q : decide (y < x) = true := decide_eq_true hc
        clear hc
        clear ex ey bs bt bx b_y
        go_wp2_with (first | (go_at_call 34; ((with_reducible refine (rlanes8 _).mono ?_); rintro e w' ⟨rfl, rfl⟩)) | (with_reducible refine load_vec rfl _ rfl _ rfl _ (hs.kb.get hA (by omega)) ?_) | (with_reducible refine load_vec rfl _ rfl _ rfl _ (hs.kb.get hB (by omega)) ?_) | (with_reducible refine load_vec rfl _ rfl _ rfl _ hs.this ?_) | (go_at_call 35; (with_reducible refine (HGA.out _).mono ?_); rintro e u ⟨rfl, hb⟩; replace hs := hs.below hb; clear hb) | (go_at_call 35; (with_reducible refine (HGB.out _).mono ?_); rintro e u ⟨rfl, hb⟩; replace hs := hs.below hb; clear hb) | (go_at_call 44; (with_reducible refine (HSA.out _).mono ?_); rintro e u ⟨rfl, hb⟩; replace hs := hs.below hb; clear hb) | (go_at_call 44; (with_reducible refine (HSB.out _).mono ?_); rintro e u ⟨rfl, hb⟩; replace hs := hs.below hb; clear hb) | (go_at_call 45; (with_reducible refine (rhold_any _ _ _ _ (by decide)).mono ?_); rintro e u ⟨rfl, hb⟩; replace hs := hs.below hb; clear hb) | (go_at_call 36; (with_reducible refine (rset8z (buildOn 0#128 8 (laneR 8 23 a b) i) _ _ i y _ rfl rfl hlt HZ2.out).mono ?_); rintro e u ⟨rfl, hb⟩; replace hs := hs.below hb; clear hb) | (with_reducible refine store_vec rfl _ _ rfl O _ rfl rfl _ hs.this ?_; intro wq hq; replace hs := hs.sets hq; clear hq))
        go_roundw
        case rel => first | exact ⟨i + 1, by omega, by go_num, HE.out ▸ hs⟩ | ((repeat apply Exists.intro); exact ⟨⟨i + 1, by omega, by go_num, HE.out ▸ hs⟩, rfl⟩)
        case measure => (simp [intOf] <;> omega)
      · as_aux_lemma =>
        have HM : x % 256 = laneR 8 23 a b i % 256 := by
          rw [HL1, show laneZ 8 23 x y s t = min (x : Int) (y : Int) from rfl]
          unfold Pl.u64; omega
        have HE := Lib.hid (step_eq 8 (laneR 8 23 a b) 0#128 i x HM)
        have HZL : x < 2 ^ 64 := by first | exact u64_lt _ | omega
        have HZ2 := Lib.hid HZL
        clear HZL HM HL1
        have q : decide (y < x) = false := decide_eq_false hc
        clear hc
        clear ex ey bs bt bx b_y
        go_wp2_with (first | (go_at_call 34; ((with_reducible refine (rlanes8 _).mono ?_); rintro e w' ⟨rfl, rfl⟩)) | (with_reducible refine load_vec rfl _ rfl _ rfl _ (hs.kb.get hA (by omega)) ?_) | (with_reducible refine load_vec rfl _ rfl _ rfl _ (hs.kb.get hB (by omega)) ?_) | (with_reducible refine load_vec rfl _ rfl _ rfl _ hs.this ?_) | (go_at_call 35; (with_reducible refine (HGA.out _).mono ?_); rintro e u ⟨rfl, hb⟩; replace hs := hs.below hb; clear hb) | (go_at_call 35; (with_reducible refine (HGB.out _).mono ?_); rintro e u ⟨rfl, hb⟩; replace hs := hs.below hb; clear hb) | (go_at_call 44; (with_reducible refine (HSA.out _).mono ?_); rintro e u ⟨rfl, hb⟩; replace hs := hs.below hb; clear hb) | (go_at_call 44; (with_reducible refine (HSB.out _).mono ?_); rintro e u ⟨rfl, hb⟩; replace hs := hs.below hb; clear hb) | (go_at_call 45; (with_reducible refine (rhold_any _ _ _ _ (by decide)).mono ?_); rintro e u ⟨rfl, hb⟩; replace hs := hs.below hb; clear hb) | (go_at_call 36; (with_reducible refine (rset8z (buildOn 0#128 8 (laneR 8 23 a b) i) _ _ i x _ rfl rfl hlt HZ2.out).mono ?_); rintro e u ⟨rfl, hb⟩; replace hs := hs.below hb; clear hb) | (with_reducible refine store_vec rfl _ _ rfl O _ rfl rfl _ hs.this ?_; intro wq hq; replace hs := hs.sets hq; clear hq))
        go_roundw
        case rel => first | exact ⟨i + 1, by omega, by go_num, HE.out ▸ hs⟩ | ((repeat apply Exists.intro); exact ⟨⟨i + 1, by omega, by go_num, HE.out ▸ hs⟩, rfl⟩)
        case measure => (simp [intOf] <;> omega)
    · obtain rfl : i = 16 := by omega
      have hR' := hs.kb.get hR (by omega)
      go_wp2_with (first | (go_at_call 34; ((with_reducible refine (rlanes8 _).mono ?_); rintro e w' ⟨rfl, rfl⟩)) | (with_reducible refine load_vec rfl _ rfl _ rfl _ hs.this ?_) | (with_reducible refine store_vec rfl _ _ rfl (w.heap.size + 2) _ rfl rfl _ hR' ?_; intro wq hq))
      exact bodyPost_ret (results_vec_tmp rfl _ _ (w.heap.size + 2) _ _ rfl rfl hq.this) rfl ⟨rfl, (hs.kb.to_below hZ hWO).trans (hq.below.mono (by omega))⟩

set_option maxRecDepth 100000 in
set_option maxHeartbeats 4000000 in
theorem rbin_8_24 (a b : Vec) (w : World) : Calls Try.prog 31 #[.int .i64 64888, .agg (cells a), .agg (cells b)] w fun e w' => e = .returned (.tuple #[.agg (cells (vb 8 24 a b)), .int .i64 0]) ∧ Below w.heap.size w w' := by
  have hs : HL w [(w.heap.size + 2, 0), (w.heap.size + 1, b), (w.heap.size, a)] _ := HL.three w a b 0
  rw [cells_zero] at hs
  have T := Lib.hid (fun W => rwidth_any 64888 W (by decide))
  rw [show wF 64888 = 8 by decide] at T
  have K := Lib.hid (fun W => roff_some 64888 24 W (by decide) (by decide) (by decide))
  go_enter Try.func31, Try.ntmps31
  go_wp2_with (first | (go_at_call 30; (with_reducible refine (T.out _).mono ?_); rintro e u ⟨rfl, hb⟩; replace hs := hs.below hb; clear hb) | (go_at_call 33; (with_reducible refine (K.out _).mono ?_); rintro e u ⟨rfl, hb⟩; replace hs := hs.below hb; clear hb))
  rw [← cells_zero]
  obtain ⟨O, hOO⟩ : ∃ B, B = u.heap.size := ⟨_, rfl⟩
  have hlow := HL.low hs
  rw [← hOO] at hlow ⊢
  obtain ⟨W, hW⟩ : ∃ W, W = u.alloc (.cells (cells 0) 23) := ⟨_, rfl⟩
  have hA : W.heap[w.heap.size]? = some (.cells (cells a) 23 (0, 0)) := hW ▸ blk_alloc (hs.hold (_, a) (List.mem_cons_of_mem _ (List.mem_cons_of_mem _ List.mem_cons_self))) _
  have hB : W.heap[w.heap.size + 1]? = some (.cells (cells b) 23 (0, 0)) := hW ▸ blk_alloc (hs.hold (_, b) (List.mem_cons_of_mem _ List.mem_cons_self)) _
  have hR : W.heap[w.heap.size + 2]? = some (.cells (cells 0) 23 (0, 0)) := hW ▸ blk_alloc (hs.hold (_, 0) List.mem_cons_self) _
  have hO : W.heap[O]? = some (.cells (cells 0) 23 (0, 0)) := by rw [hW, hOO]; exact heap_alloc_new _ _
  have hZ : Below w.heap.size w W := hW ▸ hs.bel.alloc hs.bel.size _
  have nR : w.heap.size + 2 < O := hlow (_, 0) List.mem_cons_self
  have hWO : w.heap.size ≤ O := by omega
  rw [← hW]
  clear hW hOO hlow hs T K u
  go_loopw [11] (fun iv wr => ∃ i : Nat, i ≤ 16 ∧ iv = .int .i64 i ∧ St W O (buildOn 0#128 8 (laneR 8 24 a b) i) wr) (fun iv _ => 16 - (intOf iv).toNat)
  case atStart => exact ⟨0, Nat.zero_le _, rfl, St.start hO⟩
  case round =>
    obtain ⟨i, hi, rfl, hs⟩ := hrel
    by_cases hlt : i < 16
    · obtain ⟨x, hxx⟩ : ∃ x, x = getN a 8 i := ⟨_, rfl⟩
      obtain ⟨y, hyy⟩ : ∃ x, x = getN b 8 i := ⟨_, rfl⟩
      have bx : x < 256 := hxx ▸ getN_lt a 8 i
      have b_y : y < 256 := hyy ▸ getN_lt b 8 i
      obtain ⟨s, hss⟩ : ∃ s, s = sgn 8 x := ⟨_, rfl⟩
      obtain ⟨t, htt⟩ : ∃ s, s = sgn 8 y := ⟨_, rfl⟩
      have GA := fun W => rget8z a i i W rfl hlt
      have GB := fun W => rget8z b i i W rfl hlt
      have SA := fun W => rsigned8z a i i W rfl hlt
      have SB := fun W => rsigned8z b i i W rfl hlt
      rw [← hxx] at GA SA
      rw [← hyy] at GB SB
      rw [← hss] at SA
      rw [← htt] at SB
      have HGA := Lib.hid GA
      have HGB := Lib.hid GB
      have HSA := Lib.hid SA
      have HSB := Lib.hid SB
      clear GA GB SA SB
      have HL1 : laneR 8 24 a b i = Pl.u64 (laneZ 8 24 x y s t) := by rw [hss, htt, hxx, hyy]; rfl
      have bs : -128 ≤ s ∧ s < 128 := by rw [hss]; unfold sgn; rw [show (2 : Nat) ^ (8 - 1) = 128 from rfl, show (2 : Int) ^ 8 = 256 from rfl]; split <;> omega
      have bt : -128 ≤ t ∧ t < 128 := by rw [htt]; unfold sgn; rw [show (2 : Nat) ^ (8 - 1) = 128 from rfl, show (2 : Int) ^ 8 = 256 from rfl]; split <;> omega
      have ex : x = (s % 256).toNat := by rw [hss]; unfold sgn; rw [show (2 : Nat) ^ (8 - 1) = 128 from rfl, show (2 : Int) ^ 8 = 256 from rfl]; split <;> omega
      have ey : y = (t % 256).toNat := by rw [htt]; unfold sgn; rw [show (2 : Nat) ^ (8 - 1) = 128 from rfl, show (2 : Int) ^ 8 = 256 from rfl]; split <;> omega
      clear hss htt hxx hyy
      by_cases hc : s < t
      · as_aux_lemma =>
        have HM : y % 256 = laneR 8 24 a b i % 256 := by
          rw [HL1, show laneZ 8 24 x y s t = max s t from rfl]
          unfold Pl.u64; omega
        have HE := Lib.hid (step_eq 8 (laneR 8 24 a b) 0#128 i y HM)
        have HZL : y < 2 ^ 64 := by first | exact u64_lt _ | omega
        have HZ2 := Lib.hid HZL
        clear HZL HM HL1
        have q : decide (s < t) = true := decide_eq_true hc
        clear hc
        clear ex ey bs bt bx b_y
        go_wp2_with (first | (go_at_call 34; ((with_reducible refine (rlanes8 _).mono ?_); rintro e w' ⟨rfl, rfl⟩)) | (with_reducible refine load_vec rfl _ rfl _ rfl _ (hs.kb.get hA (by omega)) ?_) | (with_reducible refine load_vec rfl _ rfl _ rfl _ (hs.kb.get hB (by omega)) ?_) | (with_reducible refine load_vec rfl _ rfl _ rfl _ hs.this ?_) | (go_at_call 35; (with_reducible refine (HGA.out _).mono ?_); rintro e u ⟨rfl, hb⟩; replace hs := hs.below hb; clear hb) | (go_at_call 35; (with_reducible refine (HGB.out _).mono ?_); rintro e u ⟨rfl, hb⟩; replace hs := hs.below hb; clear hb) | (go_at_call 44; (with_reducible refine (HSA.out _).mono ?_); rintro e u ⟨rfl, hb⟩; replace hs := hs.below hb; clear hb) | (go_at_call 44; (with_reducible refine (HSB.out _).mono ?_); rintro e u ⟨rfl, hb⟩; replace hs := hs.below hb; clear hb) | (go_at_call 45; (with_reducible refine (rhold_any _ _ _ _ (by decide)).mono ?_); rintro e u ⟨rfl, hb⟩; replace hs := hs.below hb; clear hb) | (go_at_call 36; (with_reducible refine (rset8z (buildOn 0#128 8 (laneR 8 24 a b) i) _ _ i y _ rfl rfl hlt HZ2.out).mono ?_); rintro e u ⟨rfl, hb⟩; replace hs := hs.below hb; clear hb) | (with_reducible refine store_vec rfl _ _ rfl O _ rfl rfl _ hs.this ?_; intro wq hq; replace hs := hs.sets hq; clear hq))
        go_roundw
        case rel => first | exact ⟨i + 1, by omega, by go_num, HE.out ▸ hs⟩ | ((repeat apply Exists.intro); exact ⟨⟨i + 1, by omega, by go_num, HE.out ▸ hs⟩, rfl⟩)
        case measure => (simp [intOf] <;> omega)
      · as_aux_lemma =>
        have HM : x % 256 = laneR 8 24 a b i % 256 := by
          rw [HL1, show laneZ 8 24 x y s t = max s t from rfl]
          unfold Pl.u64; omega
        have HE := Lib.hid (step_eq 8 (laneR 8 24 a b) 0#128 i x HM)
        have HZL : x < 2 ^ 64 := by first | exact u64_lt _ | omega
        have HZ2 := Lib.hid HZL
        clear HZL HM HL1
        have q : decide (s < t) = false := decide_eq_false hc
        clear hc
        clear ex ey bs bt bx b_y
        go_wp2_with (first | (go_at_call 34; ((with_reducible refine (rlanes8 _).mono ?_); rintro e w' ⟨rfl, rfl⟩)) | (with_reducible refine load_vec rfl _ rfl _ rfl _ (hs.kb.get hA (by omega)) ?_) | (with_reducible refine load_vec rfl _ rfl _ rfl _ (hs.kb.get hB (by omega)) ?_) | (with_reducible refine load_vec rfl _ rfl _ rfl _ hs.this ?_) | (go_at_call 35; (with_reducible refine (HGA.out _).mono ?_); rintro e u ⟨rfl, hb⟩; replace hs := hs.below hb; clear hb) | (go_at_call 35; (with_reducible refine (HGB.out _).mono ?_); rintro e u ⟨rfl, hb⟩; replace hs := hs.below hb; clear hb) | (go_at_call 44; (with_reducible refine (HSA.out _).mono ?_); rintro e u ⟨rfl, hb⟩; replace hs := hs.below hb; clear hb) | (go_at_call 44; (with_reducible refine (HSB.out _).mono ?_); rintro e u ⟨rfl, hb⟩; replace hs := hs.below hb; clear hb) | (go_at_call 45; (with_reducible refine (rhold_any _ _ _ _ (by decide)).mono ?_); rintro e u ⟨rfl, hb⟩; replace hs := hs.below hb; clear hb) | (go_at_call 36; (with_reducible refine (rset8z (buildOn 0#128 8 (laneR 8 24 a b) i) _ _ i x _ rfl rfl hlt HZ2.out).mono ?_); rintro e u ⟨rfl, hb⟩; replace hs := hs.below hb; clear hb) | (with_reducible refine store_vec rfl _ _ rfl O _ rfl rfl _ hs.this ?_; intro wq hq; replace hs := hs.sets hq; clear hq))
        go_roundw
        case rel => first | exact ⟨i + 1, by omega, by go_num, HE.out ▸ hs⟩ | ((repeat apply Exists.intro); exact ⟨⟨i + 1, by omega, by go_num, HE.out ▸ hs⟩, rfl⟩)
        case measure => (simp [intOf] <;> omega)
    · obtain rfl : i = 16 := by omega
      have hR' := hs.kb.get hR (by omega)
      go_wp2_with (first | (go_at_call 34; ((with_reducible refine (rlanes8 _).mono ?_); rintro e w' ⟨rfl, rfl⟩)) | (with_reducible refine load_vec rfl _ rfl _ rfl _ hs.this ?_) | (with_reducible refine store_vec rfl _ _ rfl (w.heap.size + 2) _ rfl rfl _ hR' ?_; intro wq hq))
      exact bodyPost_ret (results_vec_tmp rfl _ _ (w.heap.size + 2) _ _ rfl rfl hq.this) rfl ⟨rfl, (hs.kb.to_below hZ hWO).trans (hq.below.mono (by omega))⟩

set_option maxRecDepth 100000 in
set_option maxHeartbeats 4000000 in
theorem rbin_8_25 (a b : Vec) (w : World) : Calls Try.prog 31 #[.int .i64 64889, .agg (cells a), .agg (cells b)] w fun e w' => e = .returned (.tuple #[.agg (cells (vb 8 25 a b)), .int .i64 0]) ∧ Below w.heap.size w w' := by
  have hs : HL w [(w.heap.size + 2, 0), (w.heap.size + 1, b), (w.heap.size, a)] _ := HL.three w a b 0
  rw [cells_zero] at hs
  have T := Lib.hid (fun W => rwidth_any 64889 W (by decide))
  rw [show wF 64889 = 8 by decide] at T
  have K := Lib.hid (fun W => roff_some 64889 25 W (by decide) (by decide) (by decide))
  go_enter Try.func31, Try.ntmps31
  go_wp2_with (first | (go_at_call 30; (with_reducible refine (T.out _).mono ?_); rintro e u ⟨rfl, hb⟩; replace hs := hs.below hb; clear hb) | (go_at_call 33; (with_reducible refine (K.out _).mono ?_); rintro e u ⟨rfl, hb⟩; replace hs := hs.below hb; clear hb))
  rw [← cells_zero]
  obtain ⟨O, hOO⟩ : ∃ B, B = u.heap.size := ⟨_, rfl⟩
  have hlow := HL.low hs
  rw [← hOO] at hlow ⊢
  obtain ⟨W, hW⟩ : ∃ W, W = u.alloc (.cells (cells 0) 23) := ⟨_, rfl⟩
  have hA : W.heap[w.heap.size]? = some (.cells (cells a) 23 (0, 0)) := hW ▸ blk_alloc (hs.hold (_, a) (List.mem_cons_of_mem _ (List.mem_cons_of_mem _ List.mem_cons_self))) _
  have hB : W.heap[w.heap.size + 1]? = some (.cells (cells b) 23 (0, 0)) := hW ▸ blk_alloc (hs.hold (_, b) (List.mem_cons_of_mem _ List.mem_cons_self)) _
  have hR : W.heap[w.heap.size + 2]? = some (.cells (cells 0) 23 (0, 0)) := hW ▸ blk_alloc (hs.hold (_, 0) List.mem_cons_self) _
  have hO : W.heap[O]? = some (.cells (cells 0) 23 (0, 0)) := by rw [hW, hOO]; exact heap_alloc_new _ _
  have hZ : Below w.heap.size w W := hW ▸ hs.bel.alloc hs.bel.size _
  have nR : w.heap.size + 2 < O := hlow (_, 0) List.mem_cons_self
  have hWO : w.heap.size ≤ O := by omega
  rw [← hW]
  clear hW hOO hlow hs T K u
  go_loopw [11] (fun iv wr => ∃ i : Nat, i ≤ 16 ∧ iv = .int .i64 i ∧ St W O (buildOn 0#128 8 (laneR 8 25 a b) i) wr) (fun iv _ => 16 - (intOf iv).toNat)
  case atStart => exact ⟨0, Nat.zero_le _, rfl, St.start hO⟩
  case round =>
    obtain ⟨i, hi, rfl, hs⟩ := hrel
    by_cases hlt : i < 16
    · obtain ⟨x, hxx⟩ : ∃ x, x = getN a 8 i := ⟨_, rfl⟩
      obtain ⟨y, hyy⟩ : ∃ x, x = getN b 8 i := ⟨_, rfl⟩
      have bx : x < 256 := hxx ▸ getN_lt a 8 i
      have b_y : y < 256 := hyy ▸ getN_lt b 8 i
      obtain ⟨s, hss⟩ : ∃ s, s = sgn 8 x := ⟨_, rfl⟩
      obtain ⟨t, htt⟩ : ∃ s, s = sgn 8 y := ⟨_, rfl⟩
      have GA := fun W => rget8z a i i W rfl hlt
      have GB := fun W => rget8z b i i W rfl hlt
      have SA := fun W => rsigned8z a i i W rfl hlt
      have SB := fun W => rsigned8z b i i W rfl hlt
      rw [← hxx] at GA SA
      rw [← hyy] at GB SB
      rw [← hss] at SA
      rw [← htt] at SB
      have HGA := Lib.hid GA
      have HGB := Lib.hid GB
      have HSA := Lib.hid SA
      have HSB := Lib.hid SB
      clear GA GB SA SB
      have HL1 : laneR 8 25 a b i = Pl.u64 (laneZ 8 25 x y s t) := by rw [hss, htt, hxx, hyy]; rfl
      have bs : -128 ≤ s ∧ s < 128 := by rw [hss]; unfold sgn; rw [show (2 : Nat) ^ (8 - 1) = 128 from rfl, show (2 : Int) ^ 8 = 256 from rfl]; split <;> omega
      have bt : -128 ≤ t ∧ t < 128 := by rw [htt]; unfold sgn; rw [show (2 : Nat) ^ (8 - 1) = 128 from rfl, show (2 : Int) ^ 8 = 256 from rfl]; split <;> omega
      have ex : x = (s % 256).toNat := by rw [hss]; unfold sgn; rw [show (2 : Nat) ^ (8 - 1) = 128 from rfl, show (2 : Int) ^ 8 = 256 from rfl]; split <;> omega
      have ey : y = (t % 256).toNat := by rw [htt]; unfold sgn; rw [show (2 : Nat) ^ (8 - 1) = 128 from rfl, show (2 : Int) ^ 8 = 256 from rfl]; split <;> omega
      clear hss htt hxx hyy
      by_cases hc : x < y
      · as_aux_lemma =>
        have HM : y % 256 = laneR 8 25 a b i % 256 := by
          rw [HL1, show laneZ 8 25 x y s t = max (x : Int) (y : Int) from rfl]
          unfold Pl.u64; omega
        have HE := Lib.hid (step_eq 8 (laneR 8 25 a b) 0#128 i y HM)
        have HZL : y < 2 ^ 64 := by first | exact u64_lt _ | omega
        have HZ2 := Lib.hid HZL
        clear HZL HM HL1
        have q : decide (x < y) = true := decide_eq_true hc
        clear hc
        clear ex ey bs bt bx b_y
        go_wp2_with (first | (go_at_call 34; ((with_reducible refine (rlanes8 _).mono ?_); rintro e w' ⟨rfl, rfl⟩)) | (with_reducible refine load_vec rfl _ rfl _ rfl _ (hs.kb.get hA (by omega)) ?_) | (with_reducible refine load_vec rfl _ rfl _ rfl _ (hs.kb.get hB (by omega)) ?_) | (with_reducible refine load_vec rfl _ rfl _ rfl _ hs.this ?_) | (go_at_call 35; (with_reducible refine (HGA.out _).mono ?_); rintro e u ⟨rfl, hb⟩; replace hs := hs.below hb; clear hb) | (go_at_call 35; (with_reducible refine (HGB.out _).mono ?_); rintro e u ⟨rfl, hb⟩; replace hs := hs.below hb; clear hb) | (go_at_call 44; (with_reducible refine (HSA.out _).mono ?_); rintro e u ⟨rfl, hb⟩; replace hs := hs.below hb; clear hb) | (go_at_call 44; (with_reducible refine (HSB.out _).mono ?_); rintro e u ⟨rfl, hb⟩; replace hs := hs.below hb; clear hb) | (go_at_call 45; (with_reducible refine (rhold_any _ _ _ _ (by decide)).mono ?_); rintro e u ⟨rfl, hb⟩; replace hs := hs.below hb; clear hb) | (go_at_call 36; (with_reducible refine (rset8z (buildOn 0#128 8 (laneR 8 25 a b) i) _ _ i y _ rfl rfl hlt HZ2.out).mono ?_); rintro e u ⟨rfl, hb⟩; replace hs := hs.below hb; clear hb) | (with_reducible refine store_vec rfl _ _ rfl O _ rfl rfl _ hs.this ?_; intro wq hq; replace hs := hs.sets hq; clear hq))
        go_roundw
        case rel => first | exact ⟨i + 1, by omega, by go_num, HE.out ▸ hs⟩ | ((repeat apply Exists.intro); exact ⟨⟨i + 1, by omega, by go_num, HE.out ▸ hs⟩, rfl⟩)
        case measure => (simp [intOf] <;> omega)
      · as_aux_lemma =>
        have HM : x % 256 = laneR 8 25 a b i % 256 := by
          rw [HL1, show laneZ 8 25 x y s t = max (x : Int) (y : Int) from rfl]
          unfold Pl.u64; omega
        have HE := Lib.hid (step_eq 8 (laneR 8 25 a b) 0#128 i x HM)
        have HZL : x < 2 ^ 64 := by first | exact u64_lt _ | omega
        have HZ2 := Lib.hid HZL
        clear HZL HM HL1
        have q : decide (x < y) = false := decide_eq_false hc
        clear hc
        clear ex ey bs bt bx b_y
        go_wp2_with (first | (go_at_call 34; ((with_reducible refine (rlanes8 _).mono ?_); rintro e w' ⟨rfl, rfl⟩)) | (with_reducible refine load_vec rfl _ rfl _ rfl _ (hs.kb.get hA (by omega)) ?_) | (with_reducible refine load_vec rfl _ rfl _ rfl _ (hs.kb.get hB (by omega)) ?_) | (with_reducible refine load_vec rfl _ rfl _ rfl _ hs.this ?_) | (go_at_call 35; (with_reducible refine (HGA.out _).mono ?_); rintro e u ⟨rfl, hb⟩; replace hs := hs.below hb; clear hb) | (go_at_call 35; (with_reducible refine (HGB.out _).mono ?_); rintro e u ⟨rfl, hb⟩; replace hs := hs.below hb; clear hb) | (go_at_call 44; (with_reducible refine (HSA.out _).mono ?_); rintro e u ⟨rfl, hb⟩; replace hs := hs.below hb; clear hb) | (go_at_call 44; (with_reducible refine (HSB.out _).mono ?_); rintro e u ⟨rfl, hb⟩; replace hs := hs.below hb; clear hb) | (go_at_call 45; (with_reducible refine (rhold_any _ _ _ _ (by decide)).mono ?_); rintro e u ⟨rfl, hb⟩; replace hs := hs.below hb; clear hb) | (go_at_call 36; (with_reducible refine (rset8z (buildOn 0#128 8 (laneR 8 25 a b) i) _ _ i x _ rfl rfl hlt HZ2.out).mono ?_); rintro e u ⟨rfl, hb⟩; replace hs := hs.below hb; clear hb) | (with_reducible refine store_vec rfl _ _ rfl O _ rfl rfl _ hs.this ?_; intro wq hq; replace hs := hs.sets hq; clear hq))
        go_roundw
        case rel => first | exact ⟨i + 1, by omega, by go_num, HE.out ▸ hs⟩ | ((repeat apply Exists.intro); exact ⟨⟨i + 1, by omega, by go_num, HE.out ▸ hs⟩, rfl⟩)
        case measure => (simp [intOf] <;> omega)
    · obtain rfl : i = 16 := by omega
      have hR' := hs.kb.get hR (by omega)
      go_wp2_with (first | (go_at_call 34; ((with_reducible refine (rlanes8 _).mono ?_); rintro e w' ⟨rfl, rfl⟩)) | (with_reducible refine load_vec rfl _ rfl _ rfl _ hs.this ?_) | (with_reducible refine store_vec rfl _ _ rfl (w.heap.size + 2) _ rfl rfl _ hR' ?_; intro wq hq))
      exact bodyPost_ret (results_vec_tmp rfl _ _ (w.heap.size + 2) _ _ rfl rfl hq.this) rfl ⟨rfl, (hs.kb.to_below hZ hWO).trans (hq.below.mono (by omega))⟩

set_option maxRecDepth 100000 in
set_option maxHeartbeats 4000000 in
theorem rbin_8_27 (a b : Vec) (w : World) : Calls Try.prog 31 #[.int .i64 64891, .agg (cells a), .agg (cells b)] w fun e w' => e = .returned (.tuple #[.agg (cells (vb 8 27 a b)), .int .i64 0]) ∧ Below w.heap.size w w' := by
  have hs : HL w [(w.heap.size + 2, 0), (w.heap.size + 1, b), (w.heap.size, a)] _ := HL.three w a b 0
  rw [cells_zero] at hs
  have T := Lib.hid (fun W => rwidth_any 64891 W (by decide))
  rw [show wF 64891 = 8 by decide] at T
  have K := Lib.hid (fun W => roff_some 64891 27 W (by decide) (by decide) (by decide))
  go_enter Try.func31, Try.ntmps31
  go_wp2_with (first | (go_at_call 30; (with_reducible refine (T.out _).mono ?_); rintro e u ⟨rfl, hb⟩; replace hs := hs.below hb; clear hb) | (go_at_call 33; (with_reducible refine (K.out _).mono ?_); rintro e u ⟨rfl, hb⟩; replace hs := hs.below hb; clear hb))
  rw [← cells_zero]
  obtain ⟨O, hOO⟩ : ∃ B, B = u.heap.size := ⟨_, rfl⟩
  have hlow := HL.low hs
  rw [← hOO] at hlow ⊢
  obtain ⟨W, hW⟩ : ∃ W, W = u.alloc (.cells (cells 0) 23) := ⟨_, rfl⟩
  have hA : W.heap[w.heap.size]? = some (.cells (cells a) 23 (0, 0)) := hW ▸ blk_alloc (hs.hold (_, a) (List.mem_cons_of_mem _ (List.mem_cons_of_mem _ List.mem_cons_self))) _
  have hB : W.heap[w.heap.size + 1]? = some (.cells (cells b) 23 (0, 0)) := hW ▸ blk_alloc (hs.hold (_, b) (List.mem_cons_of_mem _ List.mem_cons_self)) _
  have hR : W.heap[w.heap.size + 2]? = some (.cells (cells 0) 23 (0, 0)) := hW ▸ blk_alloc (hs.hold (_, 0) List.mem_cons_self) _
  have hO : W.heap[O]? = some (.cells (cells 0) 23 (0, 0)) := by rw [hW, hOO]; exact heap_alloc_new _ _
  have hZ : Below w.heap.size w W := hW ▸ hs.bel.alloc hs.bel.size _
  have nR : w.heap.size + 2 < O := hlow (_, 0) List.mem_cons_self
  have hWO : w.heap.size ≤ O := by omega
  rw [← hW]
  clear hW hOO hlow hs T K u
  go_loopw [11] (fun iv wr => ∃ i : Nat, i ≤ 16 ∧ iv = .int .i64 i ∧ St W O (buildOn 0#128 8 (laneR 8 27 a b) i) wr) (fun iv _ => 16 - (intOf iv).toNat)
  case atStart => exact ⟨0, Nat.zero_le _, rfl, St.start hO⟩
  case round =>
    obtain ⟨i, hi, rfl, hs⟩ := hrel
    by_cases hlt : i < 16
    · obtain ⟨x, hxx⟩ : ∃ x, x = getN a 8 i := ⟨_, rfl⟩
      obtain ⟨y, hyy⟩ : ∃ x, x = getN b 8 i := ⟨_, rfl⟩
      have bx : x < 256 := hxx ▸ getN_lt a 8 i
      have b_y : y < 256 := hyy ▸ getN_lt b 8 i
      obtain ⟨s, hss⟩ : ∃ s, s = sgn 8 x := ⟨_, rfl⟩
      obtain ⟨t, htt⟩ : ∃ s, s = sgn 8 y := ⟨_, rfl⟩
      have GA := fun W => rget8z a i i W rfl hlt
      have GB := fun W => rget8z b i i W rfl hlt
      have SA := fun W => rsigned8z a i i W rfl hlt
      have SB := fun W => rsigned8z b i i W rfl hlt
      rw [← hxx] at GA SA
      rw [← hyy] at GB SB
      rw [← hss] at SA
      rw [← htt] at SB
      have HGA := Lib.hid GA
      have HGB := Lib.hid GB
      have HSA := Lib.hid SA
      have HSB := Lib.hid SB
      clear GA GB SA SB
      have HL1 : laneR 8 27 a b i = Pl.u64 (laneZ 8 27 x y s t) := by rw [hss, htt, hxx, hyy]; rfl
      have bs : -128 ≤ s ∧ s < 128 := by rw [hss]; unfold sgn; rw [show (2 : Nat) ^ (8 - 1) = 128 from rfl, show (2 : Int) ^ 8 = 256 from rfl]; split <;> omega
      have bt : -128 ≤ t ∧ t < 128 := by rw [htt]; unfold sgn; rw [show (2 : Nat) ^ (8 - 1) = 128 from rfl, show (2 : Int) ^ 8 = 256 from rfl]; split <;> omega
      have ex : x = (s % 256).toNat := by rw [hss]; unfold sgn; rw [show (2 : Nat) ^ (8 - 1) = 128 from rfl, show (2 : Int) ^ 8 = 256 from rfl]; split <;> omega
      have ey : y = (t % 256).toNat := by rw [htt]; unfold sgn; rw [show (2 : Nat) ^ (8 - 1) = 128 from rfl, show (2 : Int) ^ 8 = 256 from rfl]; split <;> omega
      clear hss htt hxx hyy
      obtain ⟨Z, hZZ⟩ : ∃ Z, Z = (x + y + 1) / 2 := ⟨_, rfl⟩
      have HM : Z % 256 = laneR 8 27 a b i % 256 := by
        rw [HL1, show laneZ 8 27 x y s t = ((x : Int) + (y : Int) + 1) / 2 from rfl]
        unfold Pl.u64; omega
      have HE := Lib.hid (step_eq 8 (laneR 8 27 a b) 0#128 i Z HM)
      have HZL : Z < 2 ^ 64 := by first | exact u64_lt _ | omega
      have HZ2 := Lib.hid HZL
      clear HZL HM HL1
      have q : IntKind.u64.wrap ((x : Int) + (y : Int)) = (x : Int) + (y : Int) := IntWalk.u64_in _ (by omega)
      have q1 : IntKind.u64.wrap ((x : Int) + (y : Int) + 1) = (x : Int) + (y : Int) + 1 := IntWalk.u64_in _ (by omega)
      have q2 : ((x : Int) + (y : Int) + 1) / 2 = (Z : Int) := by omega
      have q4 : ((x : Int) + (y : Int) + 1).tdiv 2 = (Z : Int) := by rw [Int.tdiv_eq_ediv_of_nonneg (by omega)]; exact q2
      have q3 : IntKind.u64.wrap (Z : Int) = (Z : Int) := IntWalk.u64_in _ (by omega)
      clear hZZ
      clear ex ey bs bt bx b_y
      go_wp2_with (first | (go_at_call 34; ((with_reducible refine (rlanes8 _).mono ?_); rintro e w' ⟨rfl, rfl⟩)) | (with_reducible refine load_vec rfl _ rfl _ rfl _ (hs.kb.get hA (by omega)) ?_) | (with_reducible refine load_vec rfl _ rfl _ rfl _ (hs.kb.get hB (by omega)) ?_) | (with_reducible refine load_vec rfl _ rfl _ rfl _ hs.this ?_) | (go_at_call 35; (with_reducible refine (HGA.out _).mono ?_); rintro e u ⟨rfl, hb⟩; replace hs := hs.below hb; clear hb) | (go_at_call 35; (with_reducible refine (HGB.out _).mono ?_); rintro e u ⟨rfl, hb⟩; replace hs := hs.below hb; clear hb) | (go_at_call 44; (with_reducible refine (HSA.out _).mono ?_); rintro e u ⟨rfl, hb⟩; replace hs := hs.below hb; clear hb) | (go_at_call 44; (with_reducible refine (HSB.out _).mono ?_); rintro e u ⟨rfl, hb⟩; replace hs := hs.below hb; clear hb) | (go_at_call 45; (with_reducible refine (rhold_any _ _ _ _ (by decide)).mono ?_); rintro e u ⟨rfl, hb⟩; replace hs := hs.below hb; clear hb) | (go_at_call 36; (with_reducible refine (rset8z (buildOn 0#128 8 (laneR 8 27 a b) i) _ _ i Z _ rfl rfl hlt HZ2.out).mono ?_); rintro e u ⟨rfl, hb⟩; replace hs := hs.below hb; clear hb) | (with_reducible refine store_vec rfl _ _ rfl O _ rfl rfl _ hs.this ?_; intro wq hq; replace hs := hs.sets hq; clear hq))
      go_roundw
      case rel => first | exact ⟨i + 1, by omega, by go_num, HE.out ▸ hs⟩ | ((repeat apply Exists.intro); exact ⟨⟨i + 1, by omega, by go_num, HE.out ▸ hs⟩, rfl⟩)
      case measure => (simp [intOf] <;> omega)
    · obtain rfl : i = 16 := by omega
      have hR' := hs.kb.get hR (by omega)
      go_wp2_with (first | (go_at_call 34; ((with_reducible refine (rlanes8 _).mono ?_); rintro e w' ⟨rfl, rfl⟩)) | (with_reducible refine load_vec rfl _ rfl _ rfl _ hs.this ?_) | (with_reducible refine store_vec rfl _ _ rfl (w.heap.size + 2) _ rfl rfl _ hR' ?_; intro wq hq))
      exact bodyPost_ret (results_vec_tmp rfl _ _ (w.heap.size + 2) _ _ rfl rfl hq.this) rfl ⟨rfl, (hs.kb.to_below hZ hWO).trans (hq.below.mono (by omega))⟩

end Go.Proofs.Ytgemlndpmbeaeaa
