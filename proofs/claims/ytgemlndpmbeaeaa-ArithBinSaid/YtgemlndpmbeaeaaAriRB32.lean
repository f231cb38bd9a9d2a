/-
  plaitref05.Bin at width 32.
-/
import Derived.Test.YtgemlndpmbeaeaaAriRP
import Derived.Test.YtgemlndpmbeaeaaAriLo
set_option linter.unusedSimpArgs false
set_option linter.unusedVariables false
namespace Go.Proofs.Ytgemlndpmbeaeaa
open Go.RowKit Pl

set_option maxRecDepth 100000 in
set_option maxHeartbeats 4000000 in
theorem rbin_32_14 (a b : Vec) (w : World) : Calls Try.prog 31 #[.int .i64 64942, .agg (cells a), .agg (cells b)] w fun e w' => e = .returned (.tuple #[.agg (cells (vb 32 14 a b)), .int .i64 0]) ∧ Below w.heap.size w w' := by
  have hs : HL w [(w.heap.size + 2, 0), (w.heap.size + 1, b), (w.heap.size, a)] _ := HL.three w a b 0
  rw [cells_zero] at hs
  have T := Lib.hid (fun W => rwidth_any 64942 W (by decide))
  rw [show wF 64942 = 32 by decide] at T
  have K := Lib.hid (fun W => roff_some 64942 14 W (by decide) (by decide) (by decide))
  go_enter Try.func31, Try.ntmps31
  go_wp2_with (first | (go_at_call 30; (with_reducible refine (T.out _).mono ?_); rintro e u ⟨rfl, hb⟩; replace hs := hs.below hb; clear hb) | (go_at_call 33; (with_reducible refine (K.out _).mono ?_); rintro e u ⟨rfl, hb⟩; replace hs := hs.below hb; clear hb))
  rw [← cells_zero]
  obtain ⟨O, hOO⟩ : ∃ B, B = u.heap.size := ⟨_, rfl⟩
  have hlow := HL.low hs
  rw [← hOO] at hlow ⊢
  obtain ⟨W, hW⟩ : ∃ W, W = u.alloc (.cells (cells 0) 23) := ⟨_, rfl⟩
  have hA : W.heap[w.heap.size]? = some (.cells (cells a) 23 (0, 0)) := hW ▸ blk_alloc (hs.hold (_, a) (List.mem_cons_of_mem _ (List.mem_cons_of_mem _ List.mem_cons_self))) _
  have hB : W.heap[w.heap.size + 1]? = some (.cells (cells b) 23 (0, 0)) := hW ▸ blk_alloc (hs.hold (_, b) (List.mem_cons_of_mem _ List.mem_cons_self)) _
  have hR : W.heap[w.heap.size + 2]? = some (.cells (cells 0) 23 (0, 0)) := hW ▸ blk_alloc (hs.hold (_, 0) List.mem_cons_self) _
  have hO : W.heap[O]? = some (.cells (cells 0) 23 (0, 0)) := by rw [hW, hOO]; exact heap_alloc_new _ _
  have hZ : Below w.heap.size w W := hW ▸ hs.bel.alloc hs.bel.size _
  have nR : w.heap.size + 2 < O := hlow (_, 0) List.mem_cons_self
  have hWO : w.heap.size ≤ O := by omega
  rw [← hW]
  clear hW hOO hlow hs T K u
  go_loopw [11] (fun iv wr => ∃ i : Nat, i ≤ 4 ∧ iv = .int .i64 i ∧ St W O (buildOn 0#128 32 (laneR 32 14 a b) i) wr) (fun iv _ => 4 - (intOf iv).toNat)
  case atStart => exact ⟨0, Nat.zero_le _, rfl, St.start hO⟩
  case round =>
    obtain ⟨i, hi, rfl, hs⟩ := hrel
    by_cases hlt : i < 4
    · obtain ⟨x, hxx⟩ : ∃ x, x = getN a 32 i := ⟨_, rfl⟩
      obtain ⟨y, hyy⟩ : ∃ x, x = getN b 32 i := ⟨_, rfl⟩
      have bx : x < 4294967296 := hxx ▸ getN_lt a 32 i
      have b_y : y < 4294967296 := hyy ▸ getN_lt b 32 i
      obtain ⟨s, hss⟩ : ∃ s, s = sgn 32 x := ⟨_, rfl⟩
      obtain ⟨t, htt⟩ : ∃ s, s = sgn 32 y := ⟨_, rfl⟩
      have GA := fun W => rget32z a i i W rfl hlt
      have GB := fun W => rget32z b i i W rfl hlt
      have SA := fun W => rsigned32z a i i W rfl hlt
      have SB := fun W => rsigned32z b i i W rfl hlt
      rw [← hxx] at GA SA
      rw [← hyy] at GB SB
      rw [← hss] at SA
      rw [← htt] at SB
      have HGA := Lib.hid GA
      have HGB := Lib.hid GB
      have HSA := Lib.hid SA
      have HSB := Lib.hid SB
      clear GA GB SA SB
      have HL1 : laneR 32 14 a b i = Pl.u64 (laneZ 32 14 x y s t) := by rw [hss, htt, hxx, hyy]; rfl
      have bs : -2147483648 ≤ s ∧ s < 2147483648 := by rw [hss]; unfold sgn; rw [show (2 : Nat) ^ (32 - 1) = 2147483648 from rfl, show (2 : Int) ^ 32 = 4294967296 from rfl]; split <;> omega
      have bt : -2147483648 ≤ t ∧ t < 2147483648 := by rw [htt]; unfold sgn; rw [show (2 : Nat) ^ (32 - 1) = 2147483648 from rfl, show (2 : Int) ^ 32 = 4294967296 from rfl]; split <;> omega
      have ex : x = (s % 4294967296).toNat := by rw [hss]; unfold sgn; rw [show (2 : Nat) ^ (32 - 1) = 2147483648 from rfl, show (2 : Int) ^ 32 = 4294967296 from rfl]; split <;> omega
      have ey : y = (t % 4294967296).toNat := by rw [htt]; unfold sgn; rw [show (2 : Nat) ^ (32 - 1) = 2147483648 from rfl, show (2 : Int) ^ 32 = 4294967296 from rfl]; split <;> omega
      clear hss htt hxx hyy
      have HM : (Pl.u64 ((x : Int) + (y : Int))) % 4294967296 = laneR 32 14 a b i % 4294967296 := by
        rw [HL1]; rfl
      have HE := Lib.hid (step_eq 32 (laneR 32 14 a b) 0#128 i (Pl.u64 ((x : Int) + (y : Int))) HM)
      have HZL : (Pl.u64 ((x : Int) + (y : Int))) < 2 ^ 64 := by first | exact u64_lt _ | omega
      have HZ2 := Lib.hid HZL
      clear HZL HM HL1
      have q : IntKind.u64.wrap ((x : Int) + (y : Int)) = ((Pl.u64 ((x : Int) + (y : Int)) : Nat) : Int) := wrap_u64 _
      clear ex ey bs bt bx b_y
      go_wp2_with (first | (go_at_call 34; ((with_reducible refine (rlanes32 _).mono ?_); rintro e w' ⟨rfl, rfl⟩)) | (with_reducible refine load_vec rfl _ rfl _ rfl _ (hs.kb.get hA (by omega)) ?_) | (with_reducible refine load_vec rfl _ rfl _ rfl _ (hs.kb.get hB (by omega)) ?_) | (with_reducible refine load_vec rfl _ rfl _ rfl _ hs.this ?_) | (go_at_call 35; (with_reducible refine (HGA.out _).mono ?_); rintro e u ⟨rfl, hb⟩; replace hs := hs.below hb; clear hb) | (go_at_call 35; (with_reducible refine (HGB.out _).mono ?_); rintro e u ⟨rfl, hb⟩; replace hs := hs.below hb; clear hb) | (go_at_call 44; (with_reducible refine (HSA.out _).mono ?_); rintro e u ⟨rfl, hb⟩; replace hs := hs.below hb; clear hb) | (go_at_call 44; (with_reducible refine (HSB.out _).mono ?_); rintro e u ⟨rfl, hb⟩; replace hs := hs.below hb; clear hb) | (go_at_call 45; (with_reducible refine (rhold_any _ _ _ _ (by decide)).mono ?_); rintro e u ⟨rfl, hb⟩; replace hs := hs.below hb; clear hb) | (go_at_call 36; (with_reducible refine (rset32z (buildOn 0#128 32 (laneR 32 14 a b) i) _ _ i (Pl.u64 ((x : Int) + (y : Int))) _ rfl rfl hlt HZ2.out).mono ?_); rintro e u ⟨rfl, hb⟩; replace hs := hs.below hb; clear hb) | (with_reducible refine store_vec rfl _ _ rfl O _ rfl rfl _ hs.this ?_; intro wq hq; replace hs := hs.sets hq; clear hq))
      go_roundw
      case rel => first | exact ⟨i + 1, by omega, by go_num, HE.out ▸ hs⟩ | ((repeat apply Exists.intro); exact ⟨⟨i + 1, by omega, by go_num, HE.out ▸ hs⟩, rfl⟩)
      case measure => (simp [intOf] <;> omega)
    · obtain rfl : i = 4 := by omega
      have hR' := hs.kb.get hR (by omega)
      go_wp2_with (first | (go_at_call 34; ((with_reducible refine (rlanes32 _).mono ?_); rintro e w' ⟨rfl, rfl⟩)) | (with_reducible refine load_vec rfl _ rfl _ rfl _ hs.this ?_) | (with_reducible refine store_vec rfl _ _ rfl (w.heap.size + 2) _ rfl rfl _ hR' ?_; intro wq hq))
      exact bodyPost_ret (results_vec_tmp rfl _ _ (w.heap.size + 2) _ _ rfl rfl hq.this) rfl ⟨rfl, (hs.kb.to_below hZ hWO).trans (hq.below.mono (by omega))⟩

set_option maxRecDepth 100000 in
set_option maxHeartbeats 4000000 in
theorem rbin_32_17 (a b : Vec) (w : World) : Calls Try.prog 31 #[.int .i64 64945, .agg (cells a), .agg (cells b)] w fun e w' => e = .returned (.tuple #[.agg (cells (vb 32 17 a b)), .int .i64 0]) ∧ Below w.heap.size w w' := by
  have hs : HL w [(w.heap.size + 2, 0), (w.heap.size + 1, b), (w.heap.size, a)] _ := HL.three w a b 0
  rw [cells_zero] at hs
  have T := Lib.hid (fun W => rwidth_any 64945 W (by decide))
  rw [show wF 64945 = 32 by decide] at T
  have K := Lib.hid (fun W => roff_some 64945 17 W (by decide) (by decide) (by decide))
  go_enter Try.func31, Try.ntmps31
  go_wp2_with (first | (go_at_call 30; (with_reducible refine (T.out _).mono ?_); rintro e u ⟨rfl, hb⟩; replace hs := hs.below hb; clear hb) | (go_at_call 33; (with_reducible refine (K.out _).mono ?_); rintro e u ⟨rfl, hb⟩; replace hs := hs.below hb; clear hb))
  rw [← cells_zero]
  obtain ⟨O, hOO⟩ : ∃ B, B = u.heap.size := ⟨_, rfl⟩
  have hlow := HL.low hs
  rw [← hOO] at hlow ⊢
  obtain ⟨W, hW⟩ : ∃ W, W = u.alloc (.cells (cells 0) 23) := ⟨_, rfl⟩
  have hA : W.heap[w.heap.size]? = some (.cells (cells a) 23 (0, 0)) := hW ▸ blk_alloc (hs.hold (_, a) (List.mem_cons_of_mem _ (List.mem_cons_of_mem _ List.mem_cons_self))) _
  have hB : W.heap[w.heap.size + 1]? = some (.cells (cells b) 23 (0, 0)) := hW ▸ blk_alloc (hs.hold (_, b) (List.mem_cons_of_mem _ List.mem_cons_self)) _
  have hR : W.heap[w.heap.size + 2]? = some (.cells (cells 0) 23 (0, 0)) := hW ▸ blk_alloc (hs.hold (_, 0) List.mem_cons_self) _
  have hO : W.heap[O]? = some (.cells (cells 0) 23 (0, 0)) := by rw [hW, hOO]; exact heap_alloc_new _ _
  have hZ : Below w.heap.size w W := hW ▸ hs.bel.alloc hs.bel.size _
  have nR : w.heap.size + 2 < O := hlow (_, 0) List.mem_cons_self
  have hWO : w.heap.size ≤ O := by omega
  rw [← hW]
  clear hW hOO hlow hs T K u
  go_loopw [11] (fun iv wr => ∃ i : Nat, i ≤ 4 ∧ iv = .int .i64 i ∧ St W O (buildOn 0#128 32 (laneR 32 17 a b) i) wr) (fun iv _ => 4 - (intOf iv).toNat)
  case atStart => exact ⟨0, Nat.zero_le _, rfl, St.start hO⟩
  case round =>
    obtain ⟨i, hi, rfl, hs⟩ := hrel
    by_cases hlt : i < 4
    · obtain ⟨x, hxx⟩ : ∃ x, x = getN a 32 i := ⟨_, rfl⟩
      obtain ⟨y, hyy⟩ : ∃ x, x = getN b 32 i := ⟨_, rfl⟩
      have bx : x < 4294967296 := hxx ▸ getN_lt a 32 i
      have b_y : y < 4294967296 := hyy ▸ getN_lt b 32 i
      obtain ⟨s, hss⟩ : ∃ s, s = sgn 32 x := ⟨_, rfl⟩
      obtain ⟨t, htt⟩ : ∃ s, s = sgn 32 y := ⟨_, rfl⟩
      have GA := fun W => rget32z a i i W rfl hlt
      have GB := fun W => rget32z b i i W rfl hlt
      have SA := fun W => rsigned32z a i i W rfl hlt
      have SB := fun W => rsigned32z b i i W rfl hlt
      rw [← hxx] at GA SA
      rw [← hyy] at GB SB
      rw [← hss] at SA
      rw [← htt] at SB
      have HGA := Lib.hid GA
      have HGB := Lib.hid GB
      have HSA := Lib.hid SA
      have HSB := Lib.hid SB
      clear GA GB SA SB
      have HL1 : laneR 32 17 a b i = Pl.u64 (laneZ 32 17 x y s t) := by rw [hss, htt, hxx, hyy]; rfl
      have bs : -2147483648 ≤ s ∧ s < 2147483648 := by rw [hss]; unfold sgn; rw [show (2 : Nat) ^ (32 - 1) = 2147483648 from rfl, show (2 : Int) ^ 32 = 4294967296 from rfl]; split <;> omega
      have bt : -2147483648 ≤ t ∧ t < 2147483648 := by rw [htt]; unfold sgn; rw [show (2 : Nat) ^ (32 - 1) = 2147483648 from rfl, show (2 : Int) ^ 32 = 4294967296 from rfl]; split <;> omega
      have ex : x = (s % 4294967296).toNat := by rw [hss]; unfold sgn; rw [show (2 : Nat) ^ (32 - 1) = 2147483648 from rfl, show (2 : Int) ^ 32 = 4294967296 from rfl]; split <;> omega
      have ey : y = (t % 4294967296).toNat := by rw [htt]; unfold sgn; rw [show (2 : Nat) ^ (32 - 1) = 2147483648 from rfl, show (2 : Int) ^ 32 = 4294967296 from rfl]; split <;> omega
      clear hss htt hxx hyy
      have HM : (Pl.u64 ((x : Int) - (y : Int))) % 4294967296 = laneR 32 17 a b i % 4294967296 := by
        rw [HL1]; rfl
      have HE := Lib.hid (step_eq 32 (laneR 32 17 a b) 0#128 i (Pl.u64 ((x : Int) - (y : Int))) HM)
      have HZL : (Pl.u64 ((x : Int) - (y : Int))) < 2 ^ 64 := by first | exact u64_lt _ | omega
      have HZ2 := Lib.hid HZL
      clear HZL HM HL1
      have q : IntKind.u64.wrap ((x : Int) - (y : Int)) = ((Pl.u64 ((x : Int) - (y : Int)) : Nat) : Int) := wrap_u64 _
      clear ex ey bs bt bx b_y
      go_wp2_with (first | (go_at_call 34; ((with_reducible refine (rlanes32 _).mono ?_); rintro e w' ⟨rfl, rfl⟩)) | (with_reducible refine load_vec rfl _ rfl _ rfl _ (hs.kb.get hA (by omega)) ?_) | (with_reducible refine load_vec rfl _ rfl _ rfl _ (hs.kb.get hB (by omega)) ?_) | (with_reducible refine load_vec rfl _ rfl _ rfl _ hs.this ?_) | (go_at_call 35; (with_reducible refine (HGA.out _).mono ?_); rintro e u ⟨rfl, hb⟩; replace hs := hs.below hb; clear hb) | (go_at_call 35; (with_reducible refine (HGB.out _).mono ?_); rintro e u ⟨rfl, hb⟩; replace hs := hs.below hb; clear hb) | (go_at_call 44; (with_reducible refine (HSA.out _).mono ?_); rintro e u ⟨rfl, hb⟩; replace hs := hs.below hb; clear hb) | (go_at_call 44; (with_reducible refine (HSB.out _).mono ?_); rintro e u ⟨rfl, hb⟩; replace hs := hs.below hb; clear hb) | (go_at_call 45; (with_reducible refine (rhold_any _ _ _ _ (by decide)).mono ?_); rintro e u ⟨rfl, hb⟩; replace hs := hs.below hb; clear hb) | (go_at_call 36; (with_reducible refine (rset32z (buildOn 0#128 32 (laneR 32 17 a b) i) _ _ i (Pl.u64 ((x : Int) - (y : Int))) _ rfl rfl hlt HZ2.out).mono ?_); rintro e u ⟨rfl, hb⟩; replace hs := hs.below hb; clear hb) | (with_reducible refine store_vec rfl _ _ rfl O _ rfl rfl _ hs.this ?_; intro wq hq; replace hs := hs.sets hq; clear hq))
      go_roundw
      case rel => first | exact ⟨i + 1, by omega, by go_num, HE.out ▸ hs⟩ | ((repeat apply Exists.intro); exact ⟨⟨i + 1, by omega, by go_num, HE.out ▸ hs⟩, rfl⟩)
      case measure => (simp [intOf] <;> omega)
    · obtain rfl : i = 4 := by omega
      have hR' := hs.kb.get hR (by omega)
      go_wp2_with (first | (go_at_call 34; ((with_reducible refine (rlanes32 _).mono ?_); rintro e w' ⟨rfl, rfl⟩)) | (with_reducible refine load_vec rfl _ rfl _ rfl _ hs.this ?_) | (with_reducible refine store_vec rfl _ _ rfl (w.heap.size + 2) _ rfl rfl _ hR' ?_; intro wq hq))
      exact bodyPost_ret (results_vec_tmp rfl _ _ (w.heap.size + 2) _ _ rfl rfl hq.this) rfl ⟨rfl, (hs.kb.to_below hZ hWO).trans (hq.below.mono (by omega))⟩

set_option maxRecDepth 100000 in
set_option maxHeartbeats 4000000 in
theorem rbin_32_21 (a b : Vec) (w : World) : Calls Try.prog 31 #[.int .i64 64949, .agg (cells a), .agg (cells b)] w fun e w' => e = .returned (.tuple #[.agg (cells (vb 32 21 a b)), .int .i64 0]) ∧ Below w.heap.size w w' := by
  have hs : HL w [(w.heap.size + 2, 0), (w.heap.size + 1, b), (w.heap.size, a)] _ := HL.three w a b 0
  rw [cells_zero] at hs
  have T := Lib.hid (fun W => rwidth_any 64949 W (by decide))
  rw [show wF 64949 = 32 by decide] at T
  have K := Lib.hid (fun W => roff_some 64949 21 W (by decide) (by decide) (by decide))
  go_enter Try.func31, Try.ntmps31
  go_wp2_with (first | (go_at_call 30; (with_reducible refine (T.out _).mono ?_); rintro e u ⟨rfl, hb⟩; replace hs := hs.below hb; clear hb) | (go_at_call 33; (with_reducible refine (K.out _).mono ?_); rintro e u ⟨rfl, hb⟩; replace hs := hs.below hb; clear hb))
  rw [← cells_zero]
  obtain ⟨O, hOO⟩ : ∃ B, B = u.heap.size := ⟨_, rfl⟩
  have hlow := HL.low hs
  rw [← hOO] at hlow ⊢
  obtain ⟨W, hW⟩ : ∃ W, W = u.alloc (.cells (cells 0) 23) := ⟨_, rfl⟩
  have hA : W.heap[w.heap.size]? = some (.cells (cells a) 23 (0, 0)) := hW ▸ blk_alloc (hs.hold (_, a) (List.mem_cons_of_mem _ (List.mem_cons_of_mem _ List.mem_cons_self))) _
  have hB : W.heap[w.heap.size + 1]? = some (.cells (cells b) 23 (0, 0)) := hW ▸ blk_alloc (hs.hold (_, b) (List.mem_cons_of_mem _ List.mem_cons_self)) _
  have hR : W.heap[w.heap.size + 2]? = some (.cells (cells 0) 23 (0, 0)) := hW ▸ blk_alloc (hs.hold (_, 0) List.mem_cons_self) _
  have hO : W.heap[O]? = some (.cells (cells 0) 23 (0, 0)) := by rw [hW, hOO]; exact heap_alloc_new _ _
  have hZ : Below w.heap.size w W := hW ▸ hs.bel.alloc hs.bel.size _
  have nR : w.heap.size + 2 < O := hlow (_, 0) List.mem_cons_self
  have hWO : w.heap.size ≤ O := by omega
  rw [← hW]
  clear hW hOO hlow hs T K u
  go_loopw [11] (fun iv wr => ∃ i : Nat, i ≤ 4 ∧ iv = .int .i64 i ∧ St W O (buildOn 0#128 32 (laneR 32 21 a b) i) wr) (fun iv _ => 4 - (intOf iv).toNat)
  case atStart => exact ⟨0, Nat.zero_le _, rfl, St.start hO⟩
  case round =>
    obtain ⟨i, hi, rfl, hs⟩ := hrel
    by_cases hlt : i < 4
    · obtain ⟨x, hxx⟩ : ∃ x, x = getN a 32 i := ⟨_, rfl⟩
      obtain ⟨y, hyy⟩ : ∃ x, x = getN b 32 i := ⟨_, rfl⟩
      have bx : x < 4294967296 := hxx ▸ getN_lt a 32 i
      have b_y : y < 4294967296 := hyy ▸ getN_lt b 32 i
      obtain ⟨s, hss⟩ : ∃ s, s = sgn 32 x := ⟨_, rfl⟩
      obtain ⟨t, htt⟩ : ∃ s, s = sgn 32 y := ⟨_, rfl⟩
      have GA := fun W => rget32z a i i W rfl hlt
      have GB := fun W => rget32z b i i W rfl hlt
      have SA := fun W => rsigned32z a i i W rfl hlt
      have SB := fun W => rsigned32z b i i W rfl hlt
      rw [← hxx] at GA SA
      rw [← hyy] at GB SB
      rw [← hss] at SA
      rw [← htt] at SB
      have HGA := Lib.hid GA
      have HGB := Lib.hid GB
      have HSA := Lib.hid SA
      have HSB := Lib.hid SB
      clear GA GB SA SB
      have HL1 : laneR 32 21 a b i = Pl.u64 (laneZ 32 21 x y s t) := by rw [hss, htt, hxx, hyy]; rfl
      have bs : -2147483648 ≤ s ∧ s < 2147483648 := by rw [hss]; unfold sgn; rw [show (2 : Nat) ^ (32 - 1) = 2147483648 from rfl, show (2 : Int) ^ 32 = 4294967296 from rfl]; split <;> omega
      have bt : -2147483648 ≤ t ∧ t < 2147483648 := by rw [htt]; unfold sgn; rw [show (2 : Nat) ^ (32 - 1) = 2147483648 from rfl, show (2 : Int) ^ 32 = 4294967296 from rfl]; split <;> omega
      have ex : x = (s % 4294967296).toNat := by rw [hss]; unfold sgn; rw [show (2 : Nat) ^ (32 - 1) = 2147483648 from rfl, show (2 : Int) ^ 32 = 4294967296 from rfl]; split <;> omega
      have ey : y = (t % 4294967296).toNat := by rw [htt]; unfold sgn; rw [show (2 : Nat) ^ (32 - 1) = 2147483648 from rfl, show (2 : Int) ^ 32 = 4294967296 from rfl]; split <;> omega
      clear hss htt hxx hyy
      have HM : (Pl.u64 ((x : Int) * (y : Int))) % 4294967296 = laneR 32 21 a b i % 4294967296 := by
        rw [HL1]; rfl
      have HE := Lib.hid (step_eq 32 (laneR 32 21 a b) 0#128 i (Pl.u64 ((x : Int) * (y : Int))) HM)
      have HZL : (Pl.u64 ((x : Int) * (y : Int))) < 2 ^ 64 := by first | exact u64_lt _ | omega
      have HZ2 := Lib.hid HZL
      clear HZL HM HL1
      have q : IntKind.u64.wrap ((x : Int) * (y : Int)) = ((Pl.u64 ((x : Int) * (y : Int)) : Nat) : Int) := wrap_u64 _
      clear ex ey bs bt bx b_y
      go_wp2_with (first | (go_at_call 34; ((with_reducible refine (rlanes32 _).mono ?_); rintro e w' ⟨rfl, rfl⟩)) | (with_reducible refine load_vec rfl _ rfl _ rfl _ (hs.kb.get hA (by omega)) ?_) | (with_reducible refine load_vec rfl _ rfl _ rfl _ (hs.kb.get hB (by omega)) ?_) | (with_reducible refine load_vec rfl _ rfl _ rfl _ hs.this ?_) | (go_at_call 35; (with_reducible refine (HGA.out _).mono ?_); rintro e u ⟨rfl, hb⟩; replace hs := hs.below hb; clear hb) | (go_at_call 35; (with_reducible refine (HGB.out _).mono ?_); rintro e u ⟨rfl, hb⟩; replace hs := hs.below hb; clear hb) | (go_at_call 44; (with_reducible refine (HSA.out _).mono ?_); rintro e u ⟨rfl, hb⟩; replace hs := hs.below hb; clear hb) | (go_at_call 44; (with_reducible refine (HSB.out _).mono ?_); rintro e u ⟨rfl, hb⟩; replace hs := hs.below hb; clear hb) | (go_at_call 45; (with_reducible refine (rhold_any _ _ _ _ (by decide)).mono ?_); rintro e u ⟨rfl, hb⟩; replace hs := hs.below hb; clear hb) | (go_at_call 36; (with_reducible refine (rset32z (buildOn 0#128 32 (laneR 32 21 a b) i) _ _ i (Pl.u64 ((x : Int) * (y : Int))) _ rfl rfl hlt HZ2.out).mono ?_); rintro e u ⟨rfl, hb⟩; replace hs := hs.below hb; clear hb) | (with_reducible refine store_vec rfl _ _ rfl O _ rfl rfl _ hs.this ?_; intro wq hq; replace hs := hs.sets hq; clear hq))
      go_roundw
      case rel => first | exact ⟨i + 1, by omega, by go_num, HE.out ▸ hs⟩ | ((repeat apply Exists.intro); exact ⟨⟨i + 1, by omega, by go_num, HE.out ▸ hs⟩, rfl⟩)
      case measure => (simp [intOf] <;> omega)
    · obtain rfl : i = 4 := by omega
      have hR' := hs.kb.get hR (by omega)
      go_wp2_with (first | (go_at_call 34; ((with_reducible refine (rlanes32 _).mono ?_); rintro e w' ⟨rfl, rfl⟩)) | (with_reducible refine load_vec rfl _ rfl _ rfl _ hs.this ?_) | (with_reducible refine store_vec rfl _ _ rfl (w.heap.size + 2) _ rfl rfl _ hR' ?_; intro wq hq))
      exact bodyPost_ret (results_vec_tmp rfl _ _ (w.heap.size + 2) _ _ rfl rfl hq.this) rfl ⟨rfl, (hs.kb.to_below hZ hWO).trans (hq.below.mono (by omega))⟩

set_option maxRecDepth 100000 in
set_option maxHeartbeats 4000000 in
theorem rbin_32_22 (a b : Vec) (w : World) : Calls Try.prog 31 #[.int .i64 64950, .agg (cells a), .agg (cells b)] w fun e w' => e = .returned (.tuple #[.agg (cells (vb 32 22 a b)), .int .i64 0]) ∧ Below w.heap.size w w' := by
  have hs : HL w [(w.heap.size + 2, 0), (w.heap.size + 1, b), (w.heap.size, a)] _ := HL.three w a b 0
  rw [cells_zero] at hs
  have T := Lib.hid (fun W => rwidth_any 64950 W (by decide))
  rw [show wF 64950 = 32 by decide] at T
  have K := Lib.hid (fun W => roff_some 64950 22 W (by decide) (by decide) (by decide))
  go_enter Try.func31, Try.ntmps31
  go_wp2_with (first | (go_at_call 30; (with_reducible refine (T.out _).mono ?_); rintro e u ⟨rfl, hb⟩; replace hs := hs.below hb; clear hb) | (go_at_call 33; (with_reducible refine (K.out _).mono ?_); rintro e u ⟨rfl, hb⟩; replace hs := hs.below hb; clear hb))
  rw [← cells_zero]
  obtain ⟨O, hOO⟩ : ∃ B, B = u.heap.size := ⟨_, rfl⟩
  have hlow := HL.low hs
  rw [← hOO] at hlow ⊢
  obtain ⟨W, hW⟩ : ∃ W, W = u.alloc (.cells (cells 0) 23) := ⟨_, rfl⟩
  have hA : W.heap[w.heap.size]? = some (.cells (cells a) 23 (0, 0)) := hW ▸ blk_alloc (hs.hold (_, a) (List.mem_cons_of_mem _ (List.mem_cons_of_mem _ List.mem_cons_self))) _
  have hB : W.heap[w.heap.size + 1]? = some (.cells (cells b) 23 (0, 0)) := hW ▸ blk_alloc (hs.hold (_, b) (List.mem_cons_of_mem _ List.mem_cons_self)) _
  have hR : W.heap[w.heap.size + 2]? = some (.cells (cells 0) 23 (0, 0)) := hW ▸ blk_alloc (hs.hold (_, 0) List.mem_cons_self) _
  have hO : W.heap[O]? = some (.cells (cells 0) 23 (0, 0)) := by rw [hW, hOO]; exact heap_alloc_new _ _
  have hZ : Below w.heap.size w W := hW ▸ hs.bel.alloc hs.bel.size _
  have nR : w.heap.size + 2 < O := hlow (_, 0) List.mem_cons_self
  have hWO : w.heap.size ≤ O := by omega
  rw [← hW]
  clear hW hOO hlow hs T K u
  go_loopw [11] (fun iv wr => ∃ i : Nat, i ≤ 4 ∧ iv = .int .i64 i ∧ St W O (buildOn 0#128 32 (laneR 32 22 a b) i) wr) (fun iv _ => 4 - (intOf iv).toNat)
  case atStart => exact ⟨0, Nat.zero_le _, rfl, St.start hO⟩
  case round =>
    obtain ⟨i, hi, rfl, hs⟩ := hrel
    by_cases hlt : i < 4
    · obtain ⟨x, hxx⟩ : ∃ x, x = getN a 32 i := ⟨_, rfl⟩
      obtain ⟨y, hyy⟩ : ∃ x, x = getN b 32 i := ⟨_, rfl⟩
      have bx : x < 4294967296 := hxx ▸ getN_lt a 32 i
      have b_y : y < 4294967296 := hyy ▸ getN_lt b 32 i
      obtain ⟨s, hss⟩ : ∃ s, s = sgn 32 x := ⟨_, rfl⟩
      obtain ⟨t, htt⟩ : ∃ s, s = sgn 32 y := ⟨_, rfl⟩
      have GA := fun W => rget32z a i i W rfl hlt
      have GB := fun W => rget32z b i i W rfl hlt
      have SA := fun W => rsigned32z a i i W rfl hlt
      have SB := fun W => rsigned32z b i i W rfl hlt
      rw [← hxx] at GA SA
      rw [← hyy] at GB SB
      rw [← hss] at SA
      rw [← htt] at SB
      have HGA := Lib.hid GA
      have HGB := Lib.hid GB
      have HSA := Lib.hid SA
      have HSB := Lib.hid SB
      clear GA GB SA SB
      have HL1 : laneR 32 22 a b i = Pl.u64 (laneZ 32 22 x y s t) := by rw [hss, htt, hxx, hyy]; rfl
      have bs : -2147483648 ≤ s ∧ s < 2147483648 := by rw [hss]; unfold sgn; rw [show (2 : Nat) ^ (32 - 1) = 2147483648 from rfl, show (2 : Int) ^ 32 = 4294967296 from rfl]; split <;> omega
      have bt : -2147483648 ≤ t ∧ t < 2147483648 := by rw [htt]; unfold sgn; rw [show (2 : Nat) ^ (32 - 1) = 2147483648 from rfl, show (2 : Int) ^ 32 = 4294967296 from rfl]; split <;> omega
      have ex : x = (s % 4294967296).toNat := by rw [hss]; unfold sgn; rw [show (2 : Nat) ^ (32 - 1) = 2147483648 from rfl, show (2 : Int) ^ 32 = 4294967296 from rfl]; split <;> omega
      have ey : y = (t % 4294967296).toNat := by rw [htt]; unfold sgn; rw [show (2 : Nat) ^ (32 - 1) = 2147483648 from rfl, show (2 : Int) ^ 32 = 4294967296 from rfl]; split <;> omega
      clear hss htt hxx hyy
      by_cases hc : t < s
      · as_aux_lemma =>
        have HM : y % 4294967296 = laneR 32 22 a b i % 4294967296 := by
          rw [HL1, show laneZ 32 22 x y s t = min s t from rfl]
          unfold Pl.u64; omega
        have HE := Lib.hid (step_eq 32 (laneR 32 22 a b) 0#128 i y HM)
        have HZL : y < 2 ^ 64 := by first | exact u64_lt _ | omega
        have HZ2 := Lib.hid HZL
        clear HZL HM HL1
        have q : decide (t < s) = true := decide_eq_true hc
        clear hc
        clear ex ey bs bt bx b_y
        go_wp2_with (first | (go_at_call 34; ((with_reducible refine (rlanes32 _).mono ?_); rintro e w' ⟨rfl, rfl⟩)) | (with_reducible refine load_vec rfl _ rfl _ rfl _ (hs.kb.get hA (by omega)) ?_) | (with_reducible refine load_vec rfl _ rfl _ rfl _ (hs.kb.get hB (by omega)) ?_) | (with_reducible refine load_vec rfl _ rfl _ rfl _ hs.this ?_) | (go_at_call 35; (with_reducible refine (HGA.out _).mono ?_); rintro e u ⟨rfl, hb⟩; replace hs := hs.below hb; clear hb) | (go_at_call 35; (with_reducible refine (HGB.out _).mono ?_); rintro e u ⟨rfl, hb⟩; replace hs := hs.below hb; clear hb) | (go_at_call 44; (with_reducible refine (HSA.out _).mono ?_); rintro e u ⟨rfl, hb⟩; replace hs := hs.below hb; clear hb) | (go_at_call 44; (with_reducible refine (HSB.out _).mono ?_); rintro e u ⟨rfl, hb⟩; replace hs := hs.below hb; clear hb) | (go_at_call 45; (with_reducible refine (rhold_any _ _ _ _ (by decide)).mono ?_); rintro e u ⟨rfl, hb⟩; replace hs := hs.below hb; clear hb) | (go_at_call 36; (with_reducible refine (rset32z (buildOn 0#128 32 (laneR 32 22 a b) i) _ _ i y _ rfl rfl hlt HZ2.out).mono ?_); rintro e u ⟨rfl, hb⟩; replace hs := hs.below hb; clear hb) | (with_reducible refine store_vec rfl _ _ rfl O _ rfl rfl _ hs.this ?_; intro wq hq; replace hs := hs.sets hq; clear hq))
        go_roundw
        case rel => first | exact ⟨i + 1, by omega, by go_num, HE.out ▸ hs⟩ | ((repeat apply Exists.intro); exact ⟨⟨i + 1, by omega, by go_num, HE.out ▸ hs⟩, rfl⟩)
        case measure => (simp [intOf] <;> omega)
      · as_aux_lemma =>
        have HM : x % 4294967296 = laneR 32 22 a b i % 4294967296 := by
          rw [HL1, show laneZ 32 22 x y s t = min s t from rfl]
          unfold Pl.u64; omega
        have HE := Lib.hid (step_eq 32 (laneR 32 22 a b) 0#128 i x HM)
        have HZL : x < 2 ^ 64 := by first | exact u64_lt _ | omega
        have HZ2 := Lib.hid HZL
        clear HZL HM HL1
        have q : decide (t < s) = false := decide_eq_false hc
        clear hc
        clear ex ey bs bt bx b_y
        go_wp2_with (first | (go_at_call 34; ((with_reducible refine (rlanes32 _).mono ?_); rintro e w' ⟨rfl, rfl⟩)) | (with_reducible refine load_vec rfl _ rfl _ rfl _ (hs.kb.get hA (by omega)) ?_) | (with_reducible refine load_vec rfl _ rfl _ rfl _ (hs.kb.get hB (by omega)) ?_) | (with_reducible refine load_vec rfl _ rfl _ rfl _ hs.this ?_) | (go_at_call 35; (with_reducible refine (HGA.out _).mono ?_); rintro e u ⟨rfl, hb⟩; replace hs := hs.below hb; clear hb) | (go_at_call 35; (with_reducible refine (HGB.out _).mono ?_); rintro e u ⟨rfl, hb⟩; replace hs := hs.below hb; clear hb) | (go_at_call 44; (with_reducible refine (HSA.out _).mono ?_); rintro e u ⟨rfl, hb⟩; replace hs := hs.below hb; clear hb) | (go_at_call 44; (with_reducible refine (HSB.out _).mono ?_); rintro e u ⟨rfl, hb⟩; replace hs := hs.below hb; clear hb) | (go_at_call 45; (with_reducible refine (rhold_any _ _ _ _ (by decide)).mono ?_); rintro e u ⟨rfl, hb⟩; replace hs := hs.below hb; clear hb) | (go_at_call 36; (with_reducible refine (rset32z (buildOn 0#128 32 (laneR 32 22 a b) i) _ _ i x _ rfl rfl hlt HZ2.out).mono ?_); rintro e u ⟨rfl, hb⟩; replace hs := hs.below hb; clear hb) | (with_reducible refine store_vec rfl _ _ rfl O _ rfl rfl _ hs.this ?_; intro wq hq; replace hs := hs.sets hq; clear hq))
        go_roundw
        case rel => first | exact ⟨i + 1, by omega, by go_num, HE.out ▸ hs⟩ | ((repeat apply Exists.intro); exact ⟨⟨i + 1, by omega, by go_num, HE.out ▸ hs⟩, rfl⟩)
        case measure => (simp [intOf] <;> omega)
    · obtain rfl : i = 4 := by omega
      have hR' := hs.kb.get hR (by omega)
      go_wp2_with (first | (go_at_call 34; ((with_reducible refine (rlanes32 _).mono ?_); rintro e w' ⟨rfl, rfl⟩)) | (with_reducible refine load_vec rfl _ rfl _ rfl _ hs.this ?_) | (with_reducible refine store_vec rfl _ _ rfl (w.heap.size + 2) _ rfl rfl _ hR' ?_; intro wq hq))
      exact bodyPost_ret (results_vec_tmp rfl _ _ (w.heap.size + 2) _ _ rfl rfl hq.this) rfl ⟨rfl, (hs.kb.to_below hZ hWO).trans (hq.below.mono (by omega))⟩

set_option maxRecDepth 100000 in
set_option maxHeartbeats 4000000 in
theorem rbin_32_23 (a b : Vec) (w : World) : Calls Try.prog 31 #[.int .i64 64951, .agg (cells a), .agg (cells b)] w fun e w' => e = .returned (.tuple #[.agg (cells (vb 32 23 a b)), .int .i64 0]) ∧ Below w.heap.size w w' := by
  have hs : HL w [(w.heap.size + 2, 0), (w.heap.size + 1, b), (w.heap.size, a)] _ := HL.three w a b 0
  rw [cells_zero] at hs
  have T := Lib.hid (fun W => rwidth_any 64951 W (by decide))
  rw [show wF 64951 = 32 by decide] at T
  have K := Lib.hid (fun W => roff_some 64951 23 W (by decide) (by decide) (by decide))
  go_enter Try.func31, Try.ntmps31
  go_wp2_with (first | (go_at_call 30; (with_reducible refine (T.out _).mono ?_); rintro e u ⟨rfl, hb⟩; replace hs := hs.below hb; clear hb) | (go_at_call 33; (with_reducible refine (K.out _).mono ?_); rintro e u ⟨rfl, hb⟩; replace hs := hs.below hb; clear hb))
  rw [← cells_zero]
  obtain ⟨O, hOO⟩ : ∃ B, B = u.heap.size := ⟨_, rfl⟩
  have hlow := HL.low hs
  rw [← hOO] at hlow ⊢
  obtain ⟨W, hW⟩ : ∃ W, W = u.alloc (.cells (cells 0) 23) := ⟨_, rfl⟩
  have hA : W.heap[w.heap.size]? = some (.cells (cells a) 23 (0, 0)) := hW ▸ blk_alloc (hs.hold (_, a) (List.mem_cons_of_mem _ (List.mem_cons_of_mem _ List.mem_cons_self))) _
  have hB : W.heap[w.heap.size + 1]? = some (.cells (cells b) 23 (0, 0)) := hW ▸ blk_alloc (hs.hold (_, b) (List.mem_cons_of_mem _ List.mem_cons_self)) _
  have hR : W.heap[w.heap.size + 2]? = some (.cells (cells 0) 23 (0, 0)) := hW ▸ blk_alloc (hs.hold (_, 0) List.mem_cons_self) _
  have hO : W.heap[O]? = some (.cells (cells 0) 23 (0, 0)) := by rw [hW, hOO]; exact heap_alloc_new _ _
  have hZ : Below w.heap.size w W := hW ▸ hs.bel.alloc hs.bel.size _
  have nR : w.heap.size + 2 < O := hlow (_, 0) List.mem_cons_self
  have hWO : w.heap.size ≤ O := by omega
  rw [← hW]
  clear hW hOO hlow hs T K u
  go_loopw [11] (fun iv wr => ∃ i : Nat, i ≤ 4 ∧ iv = .int .i64 i ∧ St W O (buildOn 0#128 32 (laneR 32 23 a b) i) wr) (fun iv _ => 4 - (intOf iv).toNat)
  case atStart => exact ⟨0, Nat.zero_le _, rfl, St.start hO⟩
  case round =>
    obtain ⟨i, hi, rfl, hs⟩ := hrel
    by_cases hlt : i < 4
    · obtain ⟨x, hxx⟩ : ∃ x, x = getN a 32 i := ⟨_, rfl⟩
      obtain ⟨y, hyy⟩ : ∃ x, x = getN b 32 i := ⟨_, rfl⟩
      have bx : x < 4294967296 := hxx ▸ getN_lt a 32 i
      have b_y : y < 4294967296 := hyy ▸ getN_lt b 32 i
      obtain ⟨s, hss⟩ : ∃ s, s = sgn 32 x := ⟨_, rfl⟩
      obtain ⟨t, htt⟩ : ∃ s, s = sgn 32 y := ⟨_, rfl⟩
      have GA := fun W => rget32z a i i W rfl hlt
      have GB := fun W => rget32z b i i W rfl hlt
      have SA := fun W => rsigned32z a i i W rfl hlt
      have SB := fun W => rsigned32z b i i W rfl hlt
      rw [← hxx] at GA SA
      rw [← hyy] at GB SB
      rw [← hss] at SA
      rw [← htt] at SB
      have HGA := Lib.hid GA
      have HGB := Lib.hid GB
      have HSA := Lib.hid SA
      have HSB := Lib.hid SB
      clear GA GB SA SB
      have HL1 : laneR 32 23 a b i = Pl.u64 (laneZ 32 23 x y s t) := by rw [hss, htt, hxx, hyy]; rfl
      have bs : -2147483648 ≤ s ∧ s < 2147483648 := by rw [hss]; unfold sgn; rw [show (2 : Nat) ^ (32 - 1) = 2147483648 from rfl, show (2 : Int) ^ 32 = 4294967296 from rfl]; split <;> omega
      have bt : -2147483648 ≤ t ∧ t < 2147483648 := by rw [htt]; unfold sgn; rw [show (2 : Nat) ^ (32 - 1) = 2147483648 from rfl, show (2 : Int) ^ 32 = 4294967296 from rfl]; split <;> omega
      have ex : x = (s % 4294967296).toNat := by rw [hss]; unfold sgn; rw [show (2 : Nat) ^ (32 - 1) = 2147483648 from rfl, show (2 : Int) ^ 32 = 4294967296 from rfl]; split <;> omega
      have ey : y = (t % 4294967296).toNat := by rw [htt]; unfold sgn; rw [show (2 : Nat) ^ (32 - 1) = 2147483648 from rfl, show (2 : Int) ^ 32 = 4294967296 from rfl]; split <;> omega
      clear hss htt hxx hyy
      by_cases hc : y < x
      · as_aux_lemma =>
        have HM : y % 4294967296 = laneR 32 23 a b i % 4294967296 := by
          rw [HL1, show laneZ 32 23 x y s t = min (x : Int) (y : Int) from rfl]
          unfold Pl.u64; omega
        have HE := Lib.hid (step_eq 32 (laneR 32 23 a b) 0#128 i y HM)
        have HZL : y < 2 ^ 64 := by first | exact u64_lt _ | omega
        have HZ2 := Lib.hid HZL
        clear HZL HM HL1
        have q : decide (y < x) = true := decide_eq_true hc
        clear hc
        clear ex ey bs bt bx b_y
        go_wp2_with (first | (go_at_call 34; ((with_reducible refine (rlanes32 _).mono ?_); rintro e w' ⟨rfl, rfl⟩)) | (with_reducible refine load_vec rfl _ rfl _ rfl _ (hs.kb.get hA (by omega)) ?_) | (with_reducible refine load_vec rfl _ rfl _ rfl _ (hs.kb.get hB (by omega)) ?_) | (with_reducible refine load_vec rfl _ rfl _ rfl _ hs.this ?_) | (go_at_call 35; (with_reducible refine (HGA.out _).mono ?_); rintro e u ⟨rfl, hb⟩; replace hs := hs.below hb; clear hb) | (go_at_call 35; (with_reducible refine (HGB.out _).mono ?_); rintro e u ⟨rfl, hb⟩; replace hs := hs.below hb; clear hb) | (go_at_call 44; (with_reducible refine (HSA.out _).mono ?_); rintro e u ⟨rfl, hb⟩; replace hs := hs.below hb; clear hb) | (go_at_call 44; (with_reducible refine (HSB.out _).mono ?_); rintro e u ⟨rfl, hb⟩; replace hs := hs.below hb; clear hb) | (go_at_call 45; (with_reducible refine (rhold_any _ _ _ _ (by decide)).mono ?_); rintro e u ⟨rfl, hb⟩; replace hs := hs.below hb; clear hb) | (go_at_call 36; (with_reducible refine (rset32z (buildOn 0#128 32 (laneR 32 23 a b) i) _ _ i y _ rfl rfl hlt HZ2.out).mono ?_); rintro e u ⟨rfl, hb⟩; replace hs := hs.below hb; clear hb) | (with_reducible refine store_vec rfl _ _ rfl O _ rfl rfl _ hs.this ?_; intro wq hq; replace hs := hs.sets hq; clear hq))
        go_roundw
        case rel => first | exact ⟨i + 1, by omega, by go_num, HE.out ▸ hs⟩ | ((repeat apply Exists.intro); exact ⟨⟨i + 1, by omega, by go_num, HE.out ▸ hs⟩, rfl⟩)
        case measure => (simp [intOf] <;> omega)
      · as_aux_lemma =>
        have HM : x % 4294967296 = laneR 32 23 a b i % 4294967296 := by
          rw [HL1, show laneZ 32 23 x y s t = min (x : Int) (y : Int) from rfl]
          unfold Pl.u64; omega
        have HE := Lib.hid (step_eq 32 (laneR 32 23 a b) 0#128 i x HM)
        have HZL : x < 2 ^ 64 := by first | exact u64_lt _ | omega
        have HZ2 := Lib.hid HZL
        clear HZL HM HL1
        have q : decide (y < x) = false := decide_eq_false hc
        clear hc
        clear ex ey bs bt bx b_y
        go_wp2_with (first | (go_at_call 34; ((with_reducible refine (rlanes32 _).mono ?_); rintro e w' ⟨rfl, rfl⟩)) | (with_reducible refine load_vec rfl _ rfl _ rfl _ (hs.kb.get hA (by omega)) ?_) | (with_reducible refine load_vec rfl _ rfl _ rfl _ (hs.kb.get hB (by omega)) ?_) | (with_reducible refine load_vec rfl _ rfl _ rfl _ hs.this ?_) | (go_at_call 35; (with_reducible refine (HGA.out _).mono ?_); rintro e u ⟨rfl, hb⟩; replace hs := hs.below hb; clear hb) | (go_at_call 35; (with_reducible refine (HGB.out _).mono ?_); rintro e u ⟨rfl, hb⟩; replace hs := hs.below hb; clear hb) | (go_at_call 44; (with_reducible refine (HSA.out _).mono ?_); rintro e u ⟨rfl, hb⟩; replace hs := hs.below hb; clear hb) | (go_at_call 44; (with_reducible refine (HSB.out _).mono ?_); rintro e u ⟨rfl, hb⟩; replace hs := hs.below hb; clear hb) | (go_at_call 45; (with_reducible refine (rhold_any _ _ _ _ (by decide)).mono ?_); rintro e u ⟨rfl, hb⟩; replace hs := hs.below hb; clear hb) | (go_at_call 36; (with_reducible refine (rset32z (buildOn 0#128 32 (laneR 32 23 a b) i) _ _ i x _ rfl rfl hlt HZ2.out).mono ?_); rintro e u ⟨rfl, hb⟩; replace hs := hs.below hb; clear hb) | (with_reducible refine store_vec rfl _ _ rfl O _ rfl rfl _ hs.this ?_; intro wq hq; replace hs := hs.sets hq; clear hq))
        go_roundw
        case rel => first | exact ⟨i + 1, by omega, by go_num, HE.out ▸ hs⟩ | ((repeat apply Exists.intro); exact ⟨⟨i + 1, by omega, by go_num, HE.out ▸ hs⟩, rfl⟩)
        case measure => (simp [intOf] <;> omega)
    · obtain rfl : i = 4 := by omega
      have hR' := hs.kb.get hR (by omega)
      go_wp2_with (first | (go_at_call 34; ((with_reducible refine (rlanes32 _).mono ?_); rintro e w' ⟨rfl, rfl⟩)) | (with_reducible refine load_vec rfl _ rfl _ rfl _ hs.this ?_) | (with_reducible refine store_vec rfl _ _ rfl (w.heap.size + 2) _ rfl rfl _ hR' ?_; intro wq hq))
      exact bodyPost_ret (results_vec_tmp rfl _ _ (w.heap.size + 2) _ _ rfl rfl hq.this) rfl ⟨rfl, (hs.kb.to_below hZ hWO).trans (hq.below.mono (by omega))⟩

set_option maxRecDepth 100000 in
set_option maxHeartbeats 4000000 in
theorem rbin_32_24 (a b : Vec) (w : World) : Calls Try.prog 31 #[.int .i64 64952, .agg (cells a), .agg (cells b)] w fun e w' => e = .returned (.tuple #[.agg (cells (vb 32 24 a b)), .int .i64 0]) ∧ Below w.heap.size w w' := by
  have hs : HL w [(w.heap.size + 2, 0), (w.heap.size + 1, b), (w.heap.size, a)] _ := HL.three w a b 0
  rw [cells_zero] at hs
  have T := Lib.hid (fun W => rwidth_any 64952 W (by decide))
  rw [show wF 64952 = 32 by decide] at T
  have K := Lib.hid (fun W => roff_some 64952 24 W (by decide) (by decide) (by decide))
  go_enter Try.func31, Try.ntmps31
  go_wp2_with (first | (go_at_call 30; (with_reducible refine (T.out _).mono ?_); rintro e u ⟨rfl, hb⟩; replace hs := hs.below hb; clear hb) | (go_at_call 33; (with_reducible refine (K.out _).mono ?_); rintro e u ⟨rfl, hb⟩; replace hs := hs.below hb; clear hb))
  rw [← cells_zero]
  obtain ⟨O, hOO⟩ : ∃ B, B = u.heap.size := ⟨_, rfl⟩
  have hlow := HL.low hs
  rw [← hOO] at hlow ⊢
  obtain ⟨W, hW⟩ : ∃ W, W = u.alloc (.cells (cells 0) 23) := ⟨_, rfl⟩
  have hA : W.heap[w.heap.size]? = some (.cells (cells a) 23 (0, 0)) := hW ▸ blk_alloc (hs.hold (_, a) (List.mem_cons_of_mem _ (List.mem_cons_of_mem _ List.mem_cons_self))) _
  have hB : W.heap[w.heap.size + 1]? = some (.cells (cells b) 23 (0, 0)) := hW ▸ blk_alloc (hs.hold (_, b) (List.mem_cons_of_mem _ List.mem_cons_self)) _
  have hR : W.heap[w.heap.size + 2]? = some (.cells (cells 0) 23 (0, 0)) := hW ▸ blk_alloc (hs.hold (_, 0) List.mem_cons_self) _
  have hO : W.heap[O]? = some (.cells (cells 0) 23 (0, 0)) := by rw [hW, hOO]; exact heap_alloc_new _ _
  have hZ : Below w.heap.size w W := hW ▸ hs.bel.alloc hs.bel.size _
  have nR : w.heap.size + 2 < O := hlow (_, 0) List.mem_cons_self
  have hWO : w.heap.size ≤ O := by omega
  rw [← hW]
  clear hW hOO hlow hs T K u
  go_loopw [11] (fun iv wr => ∃ i : Nat, i ≤ 4 ∧ iv = .int .i64 i ∧ St W O (buildOn 0#128 32 (laneR 32 24 a b) i) wr) (fun iv _ => 4 - (intOf iv).toNat)
  case atStart => exact ⟨0, Nat.zero_le _, rfl, St.start hO⟩
  case round =>
    obtain ⟨i, hi, rfl, hs⟩ := hrel
    by_cases hlt : i < 4
    · obtain ⟨x, hxx⟩ : ∃ x, x = getN a 32 i := ⟨_, rfl⟩
      obtain ⟨y, hyy⟩ : ∃ x, x = getN b 32 i := ⟨_, rfl⟩
      have bx : x < 4294967296 := hxx ▸ getN_lt a 32 i
      have b_y : y < 4294967296 := hyy ▸ getN_lt b 32 i
      obtain ⟨s, hss⟩ : ∃ s, s = sgn 32 x := ⟨_, rfl⟩
      obtain ⟨t, htt⟩ : ∃ s, s = sgn 32 y := ⟨_, rfl⟩
      have GA := fun W => rget32z a i i W rfl hlt
      have GB := fun W => rget32z b i i W rfl hlt
      have SA := fun W => rsigned32z a i i W rfl hlt
      have SB := fun W => rsigned32z b i i W rfl hlt
      rw [← hxx] at GA SA
      rw [← hyy] at GB SB
      rw [← hss] at SA
      rw [← htt] at SB
      have HGA := Lib.hid GA
      have HGB := Lib.hid GB
      have HSA := Lib.hid SA
      have HSB := Lib.hid SB
      clear GA GB SA SB
      have HL1 : laneR 32 24 a b i = Pl.u64 (laneZ 32 24 x y s t) := by rw [hss, htt, hxx, hyy]; rfl
      have bs : -2147483648 ≤ s ∧ s < 2147483648 := by rw [hss]; unfold sgn; rw [show (2 : Nat) ^ (32 - 1) = 2147483648 from rfl, show (2 : Int) ^ 32 = 4294967296 from rfl]; split <;> omega
      have bt : -2147483648 ≤ t ∧ t < 2147483648 := by rw [htt]; unfold sgn; rw [show (2 : Nat) ^ (32 - 1) = 2147483648 from rfl, show (2 : Int) ^ 32 = 4294967296 from rfl]; split <;> omega
      have ex : x = (s % 4294967296).toNat := by rw [hss]; unfold sgn; rw [show (2 : Nat) ^ (32 - 1) = 2147483648 from rfl, show (2 : Int) ^ 32 = 4294967296 from rfl]; split <;> omega
      have ey : y = (t % 4294967296).toNat := by rw [htt]; unfold sgn; rw [show (2 : Nat) ^ (32 - 1) = 2147483648 from rfl, show (2 : Int) ^ 32 = 4294967296 from rfl]; split <;> omega
      clear hss htt hxx hyy
      by_cases hc : s < t
      · as_aux_lemma =>
        have HM : y % 4294967296 = laneR 32 24 a b i % 4294967296 := by
          rw [HL1, show laneZ 32 24 x y s t = max s t from rfl]
          unfold Pl.u64; omega
        have HE := Lib.hid (step_eq 32 (laneR 32 24 a b) 0#128 i y HM)
        have HZL : y < 2 ^ 64 := by first | exact u64_lt _ | omega
        have HZ2 := Lib.hid HZL
        clear HZL HM HL1
        have q : decide (s < t) = true := decide_eq_true hc
        clear hc
        clear ex ey bs bt bx b_y
        go_wp2_with (first | (go_at_call 34; ((with_reducible refine (rlanes32 _).mono ?_); rintro e w' ⟨rfl, rfl⟩)) | (with_reducible refine load_vec rfl _ rfl _ rfl _ (hs.kb.get hA (by omega)) ?_) | (with_reducible refine load_vec rfl _ rfl _ rfl _ (hs.kb.get hB (by omega)) ?_) | (with_reducible refine load_vec rfl _ rfl _ rfl _ hs.this ?_) | (go_at_call 35; (with_reducible refine (HGA.out _).mono ?_); rintro e u ⟨rfl, hb⟩; replace hs := hs.below hb; clear hb) | (go_at_call 35; (with_reducible refine (HGB.out _).mono ?_); rintro e u ⟨rfl, hb⟩; replace hs := hs.below hb; clear hb) | (go_at_call 44; (with_reducible refine (HSA.out _).mono ?_); rintro e u ⟨rfl, hb⟩; replace hs := hs.below hb; clear hb) | (go_at_call 44; (with_reducible refine (HSB.out _).mono ?_); rintro e u ⟨rfl, hb⟩; replace hs := hs.below hb; clear hb) | (go_at_call 45; (with_reducible refine (rhold_any _ _ _ _ (by decide)).mono ?_); rintro e u ⟨rfl, hb⟩; replace hs := hs.below hb; clear hb) | (go_at_call 36; (with_reducible refine (rset32z (buildOn 0#128 32 (laneR 32 24 a b) i) _ _ i y _ rfl rfl hlt HZ2.out).mono ?_); rintro e u ⟨rfl, hb⟩; replace hs := hs.below hb; clear hb) | (with_reducible refine store_vec rfl _ _ rfl O _ rfl rfl _ hs.this ?_; intro wq hq; replace hs := hs.sets hq; clear hq))
        go_roundw
        case rel => first | exact ⟨i + 1, by omega, by go_num, HE.out ▸ hs⟩ | ((repeat apply Exists.intro); exact ⟨⟨i + 1, by omega, by go_num, HE.out ▸ hs⟩, rfl⟩)
        case measure => (simp [intOf] <;> omega)
      · as_aux_lemma =>
        have HM : x % 4294967296 = laneR 32 24 a b i % 4294967296 := by
          rw [HL1, show laneZ 32 24 x y s t = max s t from rfl]
          unfold Pl.u64; omega
        have HE := Lib.hid (step_eq 32 (laneR 32 24 a b) 0#128 i x HM)
        have HZL : x < 2 ^ 64 := by first | exact u64_lt _ | omega
        have HZ2 := Lib.hid HZL
        clear HZL HM HL1
        have q : decide (s < t) = false := decide_eq_false hc
        clear hc
        clear ex ey bs bt bx b_y
        go_wp2_with (first | (go_at_call 34; ((with_reducible refine (rlanes32 _).mono ?_); rintro e w' ⟨rfl, rfl⟩)) | (with_reducible refine load_vec rfl _ rfl _ rfl _ (hs.kb.get hA (by omega)) ?_) | (with_reducible refine load_vec rfl _ rfl _ rfl _ (hs.kb.get hB (by omega)) ?_) | (with_reducible refine load_vec rfl _ rfl _ rfl _ hs.this ?_) | (go_at_call 35; (with_reducible refine (HGA.out _).mono ?_); rintro e u ⟨rfl, hb⟩; replace hs := hs.below hb; clear hb) | (go_at_call 35; (with_reducible refine (HGB.out _).mono ?_); rintro e u ⟨rfl, hb⟩; replace hs := hs.below hb; clear hb) | (go_at_call 44; (with_reducible refine (HSA.out _).mono ?_); rintro e u ⟨rfl, hb⟩; replace hs := hs.below hb; clear hb) | (go_at_call 44; (with_reducible refine (HSB.out _).mono ?_); rintro e u ⟨rfl, hb⟩; replace hs := hs.below hb; clear hb) | (go_at_call 45; (with_reducible refine (rhold_any _ _ _ _ (by decide)).mono ?_); rintro e u ⟨rfl, hb⟩; replace hs := hs.below hb; clear hb) | (go_at_call 36; (with_reducible refine (rset32z (buildOn 0#128 32 (laneR 32 24 a b) i) _ _ i x _ rfl rfl hlt HZ2.out).mono ?_); rintro e u ⟨rfl, hb⟩; replace hs := hs.below hb; clear hb) | (with_reducible refine store_vec rfl _ _ rfl O _ rfl rfl _ hs.this ?_; intro wq hq; replace hs := hs.sets hq; clear hq))
        go_roundw
        case rel => first | exact ⟨i + 1, by omega, by go_num, HE.out ▸ hs⟩ | ((repeat apply Exists.intro); exact ⟨⟨i + 1, by omega, by go_num, HE.out ▸ hs⟩, rfl⟩)
        case measure => (simp [intOf] <;> omega)
    · obtain rfl : i = 4 := by omega
      have hR' := hs.kb.get hR (by omega)
      go_wp2_with (first | (go_at_call 34; ((with_reducible refine (rlanes32 _).mono ?_); rintro e w' ⟨rfl, rfl⟩)) | (with_reducible refine load_vec rfl _ rfl _ rfl _ hs.this ?_) | (with_reducible refine store_vec rfl _ _ rfl (w.heap.size + 2) _ rfl rfl _ hR' ?_; intro wq hq))
      exact bodyPost_ret (results_vec_tmp rfl _ _ (w.heap.size + 2) _ _ rfl rfl hq.this) rfl ⟨rfl, (hs.kb.to_below hZ hWO).trans (hq.below.mono (by omega))⟩

set_option maxRecDepth 100000 in
set_option maxHeartbeats 4000000 in
theorem rbin_32_25 (a b : Vec) (w : World) : Calls Try.prog 31 #[.int .i64 64953, .agg (cells a), .agg (cells b)] w fun e w' => e = .returned (.tuple #[.agg (cells (vb 32 25 a b)), .int .i64 0]) ∧ Below w.heap.size w w' := by
  have hs : HL w [(w.heap.size + 2, 0), (w.heap.size + 1, b), (w.heap.size, a)] _ := HL.three w a b 0
  rw [cells_zero] at hs
  have T := Lib.hid (fun W => rwidth_any 64953 W (by decide))
  rw [show wF 64953 = 32 by decide] at T
  have K := Lib.hid (fun W => roff_some 64953 25 W (by decide) (by decide) (by decide))
  go_enter Try.func31, Try.ntmps31
  go_wp2_with (first | (go_at_call 30; (with_reducible refine (T.out _).mono ?_); rintro e u ⟨rfl, hb⟩; replace hs := hs.below hb; clear hb) | (go_at_call 33; (with_reducible refine (K.out _).mono ?_); rintro e u ⟨rfl, hb⟩; replace hs := hs.below hb; clear hb))
  rw [← cells_zero]
  obtain ⟨O, hOO⟩ : ∃ B, B = u.heap.size := ⟨_, rfl⟩
  have hlow := HL.low hs
  rw [← hOO] at hlow ⊢
  obtain ⟨W, hW⟩ : ∃ W, W = u.alloc (.cells (cells 0) 23) := ⟨_, rfl⟩
  have hA : W.heap[w.heap.size]? = some (.cells (cells a) 23 (0, 0)) := hW ▸ blk_alloc (hs.hold (_, a) (List.mem_cons_of_mem _ (List.mem_cons_of_mem _ List.mem_cons_self))) _
  have hB : W.heap[w.heap.size + 1]? = some (.cells (cells b) 23 (0, 0)) := hW ▸ blk_alloc (hs.hold (_, b) (List.mem_cons_of_mem _ List.mem_cons_self)) _
  have hR : W.heap[w.heap.size + 2]? = some (.cells (cells 0) 23 (0, 0)) := hW ▸ blk_alloc (hs.hold (_, 0) List.mem_cons_self) _
  have hO : W.heap[O]? = some (.cells (cells 0) 23 (0, 0)) := by rw [hW, hOO]; exact heap_alloc_new _ _
  have hZ : Below w.heap.size w W := hW ▸ hs.bel.alloc hs.bel.size _
  have nR : w.heap.size + 2 < O := hlow (_, 0) List.mem_cons_self
  have hWO : w.heap.size ≤ O := by omega
  rw [← hW]
  clear hW hOO hlow hs T K u
  go_loopw [11] (fun iv wr => ∃ i : Nat, i ≤ 4 ∧ iv = .int .i64 i ∧ St W O (buildOn 0#128 32 (laneR 32 25 a b) i) wr) (fun iv _ => 4 - (intOf iv).toNat)
  case atStart => exact ⟨0, Nat.zero_le _, rfl, St.start hO⟩
  case round =>
    obtain ⟨i, hi, rfl, hs⟩ := hrel
    by_cases hlt : i < 4
    · obtain ⟨x, hxx⟩ : ∃ x, x = getN a 32 i := ⟨_, rfl⟩
      obtain ⟨y, hyy⟩ : ∃ x, x = getN b 32 i := ⟨_, rfl⟩
      have bx : x < 4294967296 := hxx ▸ getN_lt a 32 i
      have b_y : y < 4294967296 := hyy ▸ getN_lt b 32 i
      obtain ⟨s, hss⟩ : ∃ s, s = sgn 32 x := ⟨_, rfl⟩
      obtain ⟨t, htt⟩ : ∃ s, s = sgn 32 y := ⟨_, rfl⟩
      have GA := fun W => rget32z a i i W rfl hlt
      have GB := fun W => rget32z b i i W rfl hlt
      have SA := fun W => rsigned32z a i i W rfl hlt
      have SB := fun W => rsigned32z b i i W rfl hlt
      rw [← hxx] at GA SA
      rw [← hyy] at GB SB
      rw [← hss] at SA
      rw [← htt] at SB
      have HGA := Lib.hid GA
      have HGB := Lib.hid GB
      have HSA := Lib.hid SA
      have HSB := Lib.hid SB
      clear GA GB SA SB
      have HL1 : laneR 32 25 a b i = Pl.u64 (laneZ 32 25 x y s t) := by rw [hss, htt, hxx, hyy]; rfl
      have bs : -2147483648 ≤ s ∧ s < 2147483648 := by rw [hss]; unfold sgn; rw [show (2 : Nat) ^ (32 - 1) = 2147483648 from rfl, show (2 : Int) ^ 32 = 4294967296 from rfl]; split <;> omega
      have bt : -2147483648 ≤ t ∧ t < 2147483648 := by rw [htt]; unfold sgn; rw [show (2 : Nat) ^ (32 - 1) = 2147483648 from rfl, show (2 : Int) ^ 32 = 4294967296 from rfl]; split <;> omega
      have ex : x = (s % 4294967296).toNat := by rw [hss]; unfold sgn; rw [show (2 : Nat) ^ (32 - 1) = 2147483648 from rfl, show (2 : Int) ^ 32 = 4294967296 from rfl]; split <;> omega
      have ey : y = (t % 4294967296).toNat := by rw [htt]; unfold sgn; rw [show (2 : Nat) ^ (32 - 1) = 2147483648 from rfl, show (2 : Int) ^ 32 = 4294967296 from rfl]; split <;> omega
      clear hss htt hxx hyy
      by_cases hc : x < y
      · as_aux_lemma =>
        have HM : y % 4294967296 = laneR 32 25 a b i % 4294967296 := by
          rw [HL1, show laneZ 32 25 x y s t = max (x : Int) (y : Int) from rfl]
          unfold Pl.u64; omega
        have HE := Lib.hid (step_eq 32 (laneR 32 25 a b) 0#128 i y HM)
        have HZL : y < 2 ^ 64 := by first | exact u64_lt _ | omega
        have HZ2 := Lib.hid HZL
        clear HZL HM HL1
        have q : decide (x < y) = true := decide_eq_true hc
        clear hc
        clear ex ey bs bt bx b_y
        go_wp2_with (first | (go_at_call 34; ((with_reducible refine (rlanes32 _).mono ?_); rintro e w' ⟨rfl, rfl⟩)) | (with_reducible refine load_vec rfl _ rfl _ rfl _ (hs.kb.get hA (by omega)) ?_) | (with_reducible refine load_vec rfl _ rfl _ rfl _ (hs.kb.get hB (by omega)) ?_) | (with_reducible refine load_vec rfl _ rfl _ rfl _ hs.this ?_) | (go_at_call 35; (with_reducible refine (HGA.out _).mono ?_); rintro e u ⟨rfl, hb⟩; replace hs := hs.below hb; clear hb) | (go_at_call 35; (with_reducible refine (HGB.out _).mono ?_); rintro e u ⟨rfl, hb⟩; replace hs := hs.below hb; clear hb) | (go_at_call 44; (with_reducible refine (HSA.out _).mono ?_); rintro e u ⟨rfl, hb⟩; replace hs := hs.below hb; clear hb) | (go_at_call 44; (with_reducible refine (HSB.out _).mono ?_); rintro e u ⟨rfl, hb⟩; replace hs := hs.below hb; clear hb) | (go_at_call 45; (with_reducible refine (rhold_any _ _ _ _ (by decide)).mono ?_); rintro e u ⟨rfl, hb⟩; replace hs := hs.below hb; clear hb) | (go_at_call 36; (with_reducible refine (rset32z (buildOn 0#128 32 (laneR 32 25 a b) i) _ _ i y _ rfl rfl hlt HZ2.out).mono ?_); rintro e u ⟨rfl, hb⟩; replace hs := hs.below hb; clear hb) | (with_reducible refine store_vec rfl _ _ rfl O _ rfl rfl _ hs.this ?_; intro wq hq; replace hs := hs.sets hq; clear hq))
        go_roundw
        case rel => first | exact ⟨i + 1, by omega, by go_num, HE.out ▸ hs⟩ | ((repeat apply Exists.intro); exact ⟨⟨i + 1, by omega, by go_num, HE.out ▸ hs⟩, rfl⟩)
        case measure => (simp [intOf] <;> omega)
      · as_aux_lemma =>
        have HM : x % 4294967296 = laneR 32 25 a b i % 4294967296 := by
          rw [HL1, show laneZ 32 25 x y s t = max (x : Int) (y : Int) from rfl]
          unfold Pl.u64; omega
        have HE := Lib.hid (step_eq 32 (laneR 32 25 a b) 0#128 i x HM)
        have HZL : x < 2 ^ 64 := by first | exact u64_lt _ | omega
        have HZ2 := Lib.hid HZL
        clear HZL HM HL1
        have q : decide (x < y) = false := decide_eq_false hc
        clear hc
        clear ex ey bs bt bx b_y
        go_wp2_with (first | (go_at_call 34; ((with_reducible refine (rlanes32 _).mono ?_); rintro e w' ⟨rfl, rfl⟩)) | (with_reducible refine load_vec rfl _ rfl _ rfl _ (hs.kb.get hA (by omega)) ?_) | (with_reducible refine load_vec rfl _ rfl _ rfl _ (hs.kb.get hB (by omega)) ?_) | (with_reducible refine load_vec rfl _ rfl _ rfl _ hs.this ?_) | (go_at_call 35; (with_reducible refine (HGA.out _).mono ?_); rintro e u ⟨rfl, hb⟩; replace hs := hs.below hb; clear hb) | (go_at_call 35; (with_reducible refine (HGB.out _).mono ?_); rintro e u ⟨rfl, hb⟩; replace hs := hs.below hb; clear hb) | (go_at_call 44; (with_reducible refine (HSA.out _).mono ?_); rintro e u ⟨rfl, hb⟩; replace hs := hs.below hb; clear hb) | (go_at_call 44; (with_reducible refine (HSB.out _).mono ?_); rintro e u ⟨rfl, hb⟩; replace hs := hs.below hb; clear hb) | (go_at_call 45; (with_reducible refine (rhold_any _ _ _ _ (by decide)).mono ?_); rintro e u ⟨rfl, hb⟩; replace hs := hs.below hb; clear hb) | (go_at_call 36; (with_reducible refine (rset32z (buildOn 0#128 32 (laneR 32 25 a b) i) _ _ i x _ rfl rfl hlt HZ2.out).mono ?_); rintro e u ⟨rfl, hb⟩; replace hs := hs.below hb; clear hb) | (with_reducible refine store_vec rfl _ _ rfl O _ rfl rfl _ hs.this ?_; intro wq hq; replace hs := hs.sets hq; clear hq))
        go_roundw
        case rel => first | exact ⟨i + 1, by omega, by go_num, HE.out ▸ hs⟩ | ((repeat apply Exists.intro); exact ⟨⟨i + 1, by omega, by go_num, HE.out ▸ hs⟩, rfl⟩)
        case measure => (simp [intOf] <;> omega)
    · obtain rfl : i = 4 := by omega
      have hR' := hs.kb.get hR (by omega)
      go_wp2_with (first | (go_at_call 34; ((with_reducible refine (rlanes32 _).mono ?_); rintro e w' ⟨rfl, rfl⟩)) | (with_reducible refine load_vec rfl _ rfl _ rfl _ hs.this ?_) | (with_reducible refine store_vec rfl _ _ rfl (w.heap.size + 2) _ rfl rfl _ hR' ?_; intro wq hq))
      exact bodyPost_ret (results_vec_tmp rfl _ _ (w.heap.size + 2) _ _ rfl rfl hq.this) rfl ⟨rfl, (hs.kb.to_below hZ hWO).trans (hq.below.mono (by omega))⟩

end Go.Proofs.Ytgemlndpmbeaeaa
