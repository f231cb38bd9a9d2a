/-
  plaitref05.Bin at width 16.
-/
import Derived.Test.YtgemlndpmbeaeaaAriRP
import Derived.Test.YtgemlndpmbeaeaaAriLo
set_option linter.unusedSimpArgs false
set_option linter.unusedVariables false
namespace Go.Proofs.Ytgemlndpmbeaeaa
open Go.RowKit Pl

set_option maxRecDepth 100000 in
set_option maxHeartbeats 4000000 in
theorem rbin_16_14 (a b : Vec) (w : World) : Calls Try.prog 31 #[.int .i64 64910, .agg (cells a), .agg (cells b)] w fun e w' => e = .returned (.tuple #[.agg (cells (vb 16 14 a b)), .int .i64 0]) ∧ Below w.heap.size w w' := by
  have hs : HL w [(w.heap.size + 2, 0), (w.heap.size + 1, b), (w.heap.size, a)] _ := HL.three w a b 0
  rw [cells_zero] at hs
  have T := Lib.hid (fun W => rwidth_any 64910 W (by decide))
  rw [show wF 64910 = 16 by decide] at T
  have K := Lib.hid (fun W => roff_some 64910 14 W (by decide) (by decide) (by decide))
  go_enter Try.func31, Try.ntmps31
  go_wp2_with (first | (go_at_call 30; (with_reducible refine (T.out _).mono ?_); rintro e u ⟨rfl, hb⟩; replace hs := hs.below hb; clear hb) | (go_at_call 33; (with_reducible refine (K.out _).mono ?_); rintro e u ⟨rfl, hb⟩; replace hs := hs.below hb; clear hb))
  rw [← cells_zero]
  obtain ⟨O, hOO⟩ : ∃ B, B = u.heap.size := ⟨_, rfl⟩
  have hlow := HL.low hs
  rw [← hOO] at hlow ⊢
  obtain ⟨W, hW⟩ : ∃ W, W = u.alloc (.cells (cells 0) 23) := ⟨_, rfl⟩
  have hA : W.heap[w.heap.size]? = some (.cells (cells a) 23 (0, 0)) := hW ▸ blk_alloc (hs.hold (_, a) (List.mem_cons_of_mem _ (List.mem_cons_of_mem _ List.mem_cons_self))) _
  have hB : W.heap[w.heap.size + 1]? = some (.cells (cells b) 23 (0, 0)) := hW ▸ blk_alloc (hs.hold (_, b) (List.mem_cons_of_mem _ List.mem_cons_self)) _
  have hR : W.heap[w.heap.size + 2]? = some (.cells (cells 0) 23 (0, 0)) := hW ▸ blk_alloc (hs.hold (_, 0) List.mem_cons_self) _
  have hO : W.heap[O]? = some (.cells (cells 0) 23 (0, 0)) := by rw [hW, hOO]; exact heap_alloc_new _ _
  have hZ : Below w.heap.size w W := hW ▸ hs.bel.alloc hs.bel.size _
  have nR : w.heap.size + 2 < O := hlow (_, 0) List.mem_cons_self
  have hWO : w.heap.size ≤ O := by omega
  rw [← hW]
  clear hW hOO hlow hs T K u
  go_loopw [11] (fun iv wr => ∃ i : Nat, i ≤ 8 ∧ iv = .int .i64 i ∧ St W O (buildOn 0#128 16 (laneR 16 14 a b) i) wr) (fun iv _ => 8 - (intOf iv).toNat)
  case atStart => exact ⟨0, Nat.zero_le _, rfl, St.start hO⟩
  case round =>
    obtain ⟨i, hi, rfl, hs⟩ := hrel
    by_cases hlt : i < 8
    · obtain ⟨x, hxx⟩ : ∃ x, x = getN a 16 i := ⟨_, rfl⟩
      obtain ⟨y, hyy⟩ : ∃ x, x = getN b 16 i := ⟨_, rfl⟩
      have bx : x < 65536 := hxx ▸ getN_lt a 16 i
      have b_y : y < 65536 := hyy ▸ getN_lt b 16 i
      obtain ⟨s, hss⟩ : ∃ s, s = sgn 16 x := ⟨_, rfl⟩
      obtain ⟨t, htt⟩ : ∃ s, s = sgn 16 y := ⟨_, rfl⟩
      have GA := fun W => rget16z a i i W rfl hlt
      have GB := fun W => rget16z b i i W rfl hlt
      have SA := fun W => rsigned16z a i i W rfl hlt
      have SB := fun W => rsigned16z b i i W rfl hlt
      rw [← hxx] at GA SA
      rw [← hyy] at GB SB
      rw [← hss] at SA
      rw [← htt] at SB
      have HGA := Lib.hid GA
      have HGB := Lib.hid GB
      have HSA := Lib.hid SA
      have HSB := Lib.hid SB
      clear GA GB SA SB
      have HL1 : laneR 16 14 a b i = Pl.u64 (laneZ 16 14 x y s t) := by rw [hss, htt, hxx, hyy]; rfl
      have bs : -32768 ≤ s ∧ s < 32768 := by rw [hss]; unfold sgn; rw [show (2 : Nat) ^ (16 - 1) = 32768 from rfl, show (2 : Int) ^ 16 = 65536 from rfl]; split <;> omega
      have bt : -32768 ≤ t ∧ t < 32768 := by rw [htt]; unfold sgn; rw [show (2 : Nat) ^ (16 - 1) = 32768 from rfl, show (2 : Int) ^ 16 = 65536 from rfl]; split <;> omega
      have ex : x = (s % 65536).toNat := by rw [hss]; unfold sgn; rw [show (2 : Nat) ^ (16 - 1) = 32768 from rfl, show (2 : Int) ^ 16 = 65536 from rfl]; split <;> omega
      have ey : y = (t % 65536).toNat := by rw [htt]; unfold sgn; rw [show (2 : Nat) ^ (16 - 1) = 32768 from rfl, show (2 : Int) ^ 16 = 65536 from rfl]; split <;> omega
      clear hss htt hxx hyy
      have HM : (Pl.u64 ((x : Int) + (y : Int))) % 65536 = laneR 16 14 a b i % 65536 := by
        rw [HL1]; rfl
      have HE := Lib.hid (step_eq 16 (laneR 16 14 a b) 0#128 i (Pl.u64 ((x : Int) + (y : Int))) HM)
      have HZL : (Pl.u64 ((x : Int) + (y : Int))) < 2 ^ 64 := by first | exact u64_lt _ | omega
      have HZ2 := Lib.hid HZL
      clear HZL HM HL1
      have q : IntKind.u64.wrap ((x : Int) + (y : Int)) = ((Pl.u64 ((x : Int) + (y : Int)) : Nat) : Int) := wrap_u64 _
      clear ex ey bs bt bx b_y
      go_wp2_with (first | (go_at_call 34; ((with_reducible refine (rlanes16 _).mono ?_); rintro e w' ⟨rfl, rfl⟩)) | (with_reducible refine load_vec rfl _ rfl _ rfl _ (hs.kb.get hA (by omega)) ?_) | (with_reducible refine load_vec rfl _ rfl _ rfl _ (hs.kb.get hB (by omega)) ?_) | (with_reducible refine load_vec rfl _ rfl _ rfl _ hs.this ?_) | (go_at_call 35; (with_reducible refine (HGA.out _).mono ?_); rintro e u ⟨rfl, hb⟩; replace hs := hs.below hb; clear hb) | (go_at_call 35; (with_reducible refine (HGB.out _).mono ?_); rintro e u ⟨rfl, hb⟩; replace hs := hs.below hb; clear hb) | (go_at_call 44; (with_reducible refine (HSA.out _).mono ?_); rintro e u ⟨rfl, hb⟩; replace hs := hs.below hb; clear hb) | (go_at_call 44; (with_reducible refine (HSB.out _).mono ?_); rintro e u ⟨rfl, hb⟩; replace hs := hs.below hb; clear hb) | (go_at_call 45; (with_reducible refine (rhold_any _ _ _ _ (by decide)).mono ?_); rintro e u ⟨rfl, hb⟩; replace hs := hs.below hb; clear hb) | (go_at_call 36; (with_reducible refine (rset16z (buildOn 0#128 16 (laneR 16 14 a b) i) _ _ i (Pl.u64 ((x : Int) + (y : Int))) _ rfl rfl hlt HZ2.out).mono ?_); rintro e u ⟨rfl, hb⟩; replace hs := hs.below hb; clear hb) | (with_reducible refine store_vec rfl _ _ rfl O _ rfl rfl _ hs.this ?_; intro wq hq; replace hs := hs.sets hq; clear hq))
      go_roundw
      case rel => first | exact ⟨i + 1, by omega, by go_num, HE.out ▸ hs⟩ | ((repeat apply Exists.intro); exact ⟨⟨i + 1, by omega, by go_num, HE.out ▸ hs⟩, rfl⟩)
      case measure => (simp [intOf] <;> omega)
    · obtain rfl : i = 8 := by omega
      have hR' := hs.kb.get hR (by omega)
      go_wp2_with (first | (go_at_call 34; ((with_reducible refine (rlanes16 _).mono ?_); rintro e w' ⟨rfl, rfl⟩)) | (with_reducible refine load_vec rfl _ rfl _ rfl _ hs.this ?_) | (with_reducible refine store_vec rfl _ _ rfl (w.heap.size + 2) _ rfl rfl _ hR' ?_; intro wq hq))
      exact bodyPost_ret (results_vec_tmp rfl _ _ (w.heap.size + 2) _ _ rfl rfl hq.this) rfl ⟨rfl, (hs.kb.to_below hZ hWO).trans (hq.below.mono (by omega))⟩

set_option maxRecDepth 100000 in
set_option maxHeartbeats 4000000 in
theorem rbin_16_15 (a b : Vec) (w : World) : Calls Try.prog 31 #[.int .i64 64911, .agg (cells a), .agg (cells b)] w fun e w' => e = .returned (.tuple #[.agg (cells (vb 16 15 a b)), .int .i64 0]) ∧ Below w.heap.size w w' := by
  have hs : HL w [(w.heap.size + 2, 0), (w.heap.size + 1, b), (w.heap.size, a)] _ := HL.three w a b 0
  rw [cells_zero] at hs
  have T := Lib.hid (fun W => rwidth_any 64911 W (by decide))
  rw [show wF 64911 = 16 by decide] at T
  have K := Lib.hid (fun W => roff_some 64911 15 W (by decide) (by decide) (by decide))
  go_enter Try.func31, Try.ntmps31
  go_wp2_with (first | (go_at_call 30; (with_reducible refine (T.out _).mono ?_); rintro e u ⟨rfl, hb⟩; replace hs := hs.below hb; clear hb) | (go_at_call 33; (with_reducible refine (K.out _).mono ?_); rintro e u ⟨rfl, hb⟩; replace hs := hs.below hb; clear hb))
  rw [← cells_zero]
  obtain ⟨O, hOO⟩ : ∃ B, B = u.heap.size := ⟨_, rfl⟩
  have hlow := HL.low hs
  rw [← hOO] at hlow ⊢
  obtain ⟨W, hW⟩ : ∃ W, W = u.alloc (.cells (cells 0) 23) := ⟨_, rfl⟩
  have hA : W.heap[w.heap.size]? = some (.cells (cells a) 23 (0, 0)) := hW ▸ blk_alloc (hs.hold (_, a) (List.mem_cons_of_mem _ (List.mem_cons_of_mem _ List.mem_cons_self))) _
  have hB : W.heap[w.heap.size + 1]? = some (.cells (cells b) 23 (0, 0)) := hW ▸ blk_alloc (hs.hold (_, b) (List.mem_cons_of_mem _ List.mem_cons_self)) _
  have hR : W.heap[w.heap.size + 2]? = some (.cells (cells 0) 23 (0, 0)) := hW ▸ blk_alloc (hs.hold (_, 0) List.mem_cons_self) _
  have hO : W.heap[O]? = some (.cells (cells 0) 23 (0, 0)) := by rw [hW, hOO]; exact heap_alloc_new _ _
  have hZ : Below w.heap.size w W := hW ▸ hs.bel.alloc hs.bel.size _
  have nR : w.heap.size + 2 < O := hlow (_, 0) List.mem_cons_self
  have hWO : w.heap.size ≤ O := by omega
  rw [← hW]
  clear hW hOO hlow hs T K u
  go_loopw [11] (fun iv wr => ∃ i : Nat, i ≤ 8 ∧ iv = .int .i64 i ∧ St W O (buildOn 0#128 16 (laneR 16 15 a b) i) wr) (fun iv _ => 8 - (intOf iv).toNat)
  case atStart => exact ⟨0, Nat.zero_le _, rfl, St.start hO⟩
  case round =>
    obtain ⟨i, hi, rfl, hs⟩ := hrel
    by_cases hlt : i < 8
    · obtain ⟨x, hxx⟩ : ∃ x, x = getN a 16 i := ⟨_, rfl⟩
      obtain ⟨y, hyy⟩ : ∃ x, x = getN b 16 i := ⟨_, rfl⟩
      have bx : x < 65536 := hxx ▸ getN_lt a 16 i
      have b_y : y < 65536 := hyy ▸ getN_lt b 16 i
      obtain ⟨s, hss⟩ : ∃ s, s = sgn 16 x := ⟨_, rfl⟩
      obtain ⟨t, htt⟩ : ∃ s, s = sgn 16 y := ⟨_, rfl⟩
      have GA := fun W => rget16z a i i W rfl hlt
      have GB := fun W => rget16z b i i W rfl hlt
      have SA := fun W => rsigned16z a i i W rfl hlt
      have SB := fun W => rsigned16z b i i W rfl hlt
      rw [← hxx] at GA SA
      rw [← hyy] at GB SB
      rw [← hss] at SA
      rw [← htt] at SB
      have HGA := Lib.hid GA
      have HGB := Lib.hid GB
      have HSA := Lib.hid SA
      have HSB := Lib.hid SB
      clear GA GB SA SB
      have HL1 : laneR 16 15 a b i = Pl.u64 (laneZ 16 15 x y s t) := by rw [hss, htt, hxx, hyy]; rfl
      have bs : -32768 ≤ s ∧ s < 32768 := by rw [hss]; unfold sgn; rw [show (2 : Nat) ^ (16 - 1) = 32768 from rfl, show (2 : Int) ^ 16 = 65536 from rfl]; split <;> omega
      have bt : -32768 ≤ t ∧ t < 32768 := by rw [htt]; unfold sgn; rw [show (2 : Nat) ^ (16 - 1) = 32768 from rfl, show (2 : Int) ^ 16 = 65536 from rfl]; split <;> omega
      have ex : x = (s % 65536).toNat := by rw [hss]; unfold sgn; rw [show (2 : Nat) ^ (16 - 1) = 32768 from rfl, show (2 : Int) ^ 16 = 65536 from rfl]; split <;> omega
      have ey : y = (t % 65536).toNat := by rw [htt]; unfold sgn; rw [show (2 : Nat) ^ (16 - 1) = 32768 from rfl, show (2 : Int) ^ 16 = 65536 from rfl]; split <;> omega
      clear hss htt hxx hyy
      have HM : (Pl.u64 (min (max (s + t) (-32768)) 32767)) % 65536 = laneR 16 15 a b i % 65536 := by
        rw [HL1]; rfl
      have HE := Lib.hid (step_eq 16 (laneR 16 15 a b) 0#128 i (Pl.u64 (min (max (s + t) (-32768)) 32767)) HM)
      have HZL : (Pl.u64 (min (max (s + t) (-32768)) 32767)) < 2 ^ 64 := by first | exact u64_lt _ | omega
      have HZ2 := Lib.hid HZL
      clear HZL HM HL1
      have q : IntKind.i64.wrap (s + t) = s + t := IntWalk.i64_in _ (by omega)
      clear ex ey bs bt bx b_y
      go_wp2_with (first | (go_at_call 34; ((with_reducible refine (rlanes16 _).mono ?_); rintro e w' ⟨rfl, rfl⟩)) | (with_reducible refine load_vec rfl _ rfl _ rfl _ (hs.kb.get hA (by omega)) ?_) | (with_reducible refine load_vec rfl _ rfl _ rfl _ (hs.kb.get hB (by omega)) ?_) | (with_reducible refine load_vec rfl _ rfl _ rfl _ hs.this ?_) | (go_at_call 35; (with_reducible refine (HGA.out _).mono ?_); rintro e u ⟨rfl, hb⟩; replace hs := hs.below hb; clear hb) | (go_at_call 35; (with_reducible refine (HGB.out _).mono ?_); rintro e u ⟨rfl, hb⟩; replace hs := hs.below hb; clear hb) | (go_at_call 44; (with_reducible refine (HSA.out _).mono ?_); rintro e u ⟨rfl, hb⟩; replace hs := hs.below hb; clear hb) | (go_at_call 44; (with_reducible refine (HSB.out _).mono ?_); rintro e u ⟨rfl, hb⟩; replace hs := hs.below hb; clear hb) | (go_at_call 45; (with_reducible refine (rhold_any _ _ _ _ (by decide)).mono ?_); rintro e u ⟨rfl, hb⟩; replace hs := hs.below hb; clear hb) | (go_at_call 36; (with_reducible refine (rset16z (buildOn 0#128 16 (laneR 16 15 a b) i) _ _ i (Pl.u64 (min (max (s + t) (-32768)) 32767)) _ rfl rfl hlt HZ2.out).mono ?_); rintro e u ⟨rfl, hb⟩; replace hs := hs.below hb; clear hb) | (with_reducible refine store_vec rfl _ _ rfl O _ rfl rfl _ hs.this ?_; intro wq hq; replace hs := hs.sets hq; clear hq))
      go_roundw
      case rel => first | exact ⟨i + 1, by omega, by go_num, HE.out ▸ hs⟩ | ((repeat apply Exists.intro); exact ⟨⟨i + 1, by omega, by go_num, HE.out ▸ hs⟩, rfl⟩)
      case measure => (simp [intOf] <;> omega)
    · obtain rfl : i = 8 := by omega
      have hR' := hs.kb.get hR (by omega)
      go_wp2_with (first | (go_at_call 34; ((with_reducible refine (rlanes16 _).mono ?_); rintro e w' ⟨rfl, rfl⟩)) | (with_reducible refine load_vec rfl _ rfl _ rfl _ hs.this ?_) | (with_reducible refine store_vec rfl _ _ rfl (w.heap.size + 2) _ rfl rfl _ hR' ?_; intro wq hq))
      exact bodyPost_ret (results_vec_tmp rfl _ _ (w.heap.size + 2) _ _ rfl rfl hq.this) rfl ⟨rfl, (hs.kb.to_below hZ hWO).trans (hq.below.mono (by omega))⟩

set_option maxRecDepth 100000 in
set_option maxHeartbeats 4000000 in
theorem rbin_16_16 (a b : Vec) (w : World) : Calls Try.prog 31 #[.int .i64 64912, .agg (cells a), .agg (cells b)] w fun e w' => e = .returned (.tuple #[.agg (cells (vb 16 16 a b)), .int .i64 0]) ∧ Below w.heap.size w w' := by
  have hs : HL w [(w.heap.size + 2, 0), (w.heap.size + 1, b), (w.heap.size, a)] _ := HL.three w a b 0
  rw [cells_zero] at hs
  have T := Lib.hid (fun W => rwidth_any 64912 W (by decide))
  rw [show wF 64912 = 16 by decide] at T
  have K := Lib.hid (fun W => roff_some 64912 16 W (by decide) (by decide) (by decide))
  go_enter Try.func31, Try.ntmps31
  go_wp2_with (first | (go_at_call 30; (with_reducible refine (T.out _).mono ?_); rintro e u ⟨rfl, hb⟩; replace hs := hs.below hb; clear hb) | (go_at_call 33; (with_reducible refine (K.out _).mono ?_); rintro e u ⟨rfl, hb⟩; replace hs := hs.below hb; clear hb))
  rw [← cells_zero]
  obtain ⟨O, hOO⟩ : ∃ B, B = u.heap.size := ⟨_, rfl⟩
  have hlow := HL.low hs
  rw [← hOO] at hlow ⊢
  obtain ⟨W, hW⟩ : ∃ W, W = u.alloc (.cells (cells 0) 23) := ⟨_, rfl⟩
  have hA : W.heap[w.heap.size]? = some (.cells (cells a) 23 (0, 0)) := hW ▸ blk_alloc (hs.hold (_, a) (List.mem_cons_of_mem _ (List.mem_cons_of_mem _ List.mem_cons_self))) _
  have hB : W.heap[w.heap.size + 1]? = some (.cells (cells b) 23 (0, 0)) := hW ▸ blk_alloc (hs.hold (_, b) (List.mem_cons_of_mem _ List.mem_cons_self)) _
  have hR : W.heap[w.heap.size + 2]? = some (.cells (cells 0) 23 (0, 0)) := hW ▸ blk_alloc (hs.hold (_, 0) List.mem_cons_self) _
  have hO : W.heap[O]? = some (.cells (cells 0) 23 (0, 0)) := by rw [hW, hOO]; exact heap_alloc_new _ _
  have hZ : Below w.heap.size w W := hW ▸ hs.bel.alloc hs.bel.size _
  have nR : w.heap.size + 2 < O := hlow (_, 0) List.mem_cons_self
  have hWO : w.heap.size ≤ O := by omega
  rw [← hW]
  clear hW hOO hlow hs T K u
  go_loopw [11] (fun iv wr => ∃ i : Nat, i ≤ 8 ∧ iv = .int .i64 i ∧ St W O (buildOn 0#128 16 (laneR 16 16 a b) i) wr) (fun iv _ => 8 - (intOf iv).toNat)
  case atStart => exact ⟨0, Nat.zero_le _, rfl, St.start hO⟩
  case round =>
    obtain ⟨i, hi, rfl, hs⟩ := hrel
    by_cases hlt : i < 8
    · obtain ⟨x, hxx⟩ : ∃ x, x = getN a 16 i := ⟨_, rfl⟩
      obtain ⟨y, hyy⟩ : ∃ x, x = getN b 16 i := ⟨_, rfl⟩
      have bx : x < 65536 := hxx ▸ getN_lt a 16 i
      have b_y : y < 65536 := hyy ▸ getN_lt b 16 i
      obtain ⟨s, hss⟩ : ∃ s, s = sgn 16 x := ⟨_, rfl⟩
      obtain ⟨t, htt⟩ : ∃ s, s = sgn 16 y := ⟨_, rfl⟩
      have GA := fun W => rget16z a i i W rfl hlt
      have GB := fun W => rget16z b i i W rfl hlt
      have SA := fun W => rsigned16z a i i W rfl hlt
      have SB := fun W => rsigned16z b i i W rfl hlt
      rw [← hxx] at GA SA
      rw [← hyy] at GB SB
      rw [← hss] at SA
      rw [← htt] at SB
      have HGA := Lib.hid GA
      have HGB := Lib.hid GB
      have HSA := Lib.hid SA
      have HSB := Lib.hid SB
      clear GA GB SA SB
      have HL1 : laneR 16 16 a b i = Pl.u64 (laneZ 16 16 x y s t) := by rw [hss, htt, hxx, hyy]; rfl
      have bs : -32768 ≤ s ∧ s < 32768 := by rw [hss]; unfold sgn; rw [show (2 : Nat) ^ (16 - 1) = 32768 from rfl, show (2 : Int) ^ 16 = 65536 from rfl]; split <;> omega
      have bt : -32768 ≤ t ∧ t < 32768 := by rw [htt]; unfold sgn; rw [show (2 : Nat) ^ (16 - 1) = 32768 from rfl, show (2 : Int) ^ 16 = 65536 from rfl]; split <;> omega
      have ex : x = (s % 65536).toNat := by rw [hss]; unfold sgn; rw [show (2 : Nat) ^ (16 - 1) = 32768 from rfl, show (2 : Int) ^ 16 = 65536 from rfl]; split <;> omega
      have ey : y = (t % 65536).toNat := by rw [htt]; unfold sgn; rw [show (2 : Nat) ^ (16 - 1) = 32768 from rfl, show (2 : Int) ^ 16 = 65536 from rfl]; split <;> omega
      clear hss htt hxx hyy
      have HM : (Pl.u64 (min (max ((x : Int) + (y : Int)) 0) 65535)) % 65536 = laneR 16 16 a b i % 65536 := by
        rw [HL1, show laneZ 16 16 x y s t = min ((x : Int) + (y : Int)) 65535 from rfl, show max ((x : Int) + (y : Int)) 0 = (x : Int) + (y : Int) by omega]
      have HE := Lib.hid (step_eq 16 (laneR 16 16 a b) 0#128 i (Pl.u64 (min (max ((x : Int) + (y : Int)) 0) 65535)) HM)
      have HZL : (Pl.u64 (min (max ((x : Int) + (y : Int)) 0) 65535)) < 2 ^ 64 := by first | exact u64_lt _ | omega
      have HZ2 := Lib.hid HZL
      clear HZL HM HL1
      have q : IntKind.u64.wrap ((x : Int) + (y : Int)) = (x : Int) + (y : Int) := IntWalk.u64_in _ (by omega)
      have q2 : IntKind.i64.wrap ((x : Int) + (y : Int)) = (x : Int) + (y : Int) := IntWalk.i64_in _ (by omega)
      clear ex ey bs bt bx b_y
      go_wp2_with (first | (go_at_call 34; ((with_reducible refine (rlanes16 _).mono ?_); rintro e w' ⟨rfl, rfl⟩)) | (with_reducible refine load_vec rfl _ rfl _ rfl _ (hs.kb.get hA (by omega)) ?_) | (with_reducible refine load_vec rfl _ rfl _ rfl _ (hs.kb.get hB (by omega)) ?_) | (with_reducible refine load_vec rfl _ rfl _ rfl _ hs.this ?_) | (go_at_call 35; (with_reducible refine (HGA.out _).mono ?_); rintro e u ⟨rfl, hb⟩; replace hs := hs.below hb; clear hb) | (go_at_call 35; (with_reducible refine (HGB.out _).mono ?_); rintro e u ⟨rfl, hb⟩; replace hs := hs.below hb; clear hb) | (go_at_call 44; (with_reducible refine (HSA.out _).mono ?_); rintro e u ⟨rfl, hb⟩; replace hs := hs.below hb; clear hb) | (go_at_call 44; (with_reducible refine (HSB.out _).mono ?_); rintro e u ⟨rfl, hb⟩; replace hs := hs.below hb; clear hb) | (go_at_call 45; (with_reducible refine (rhold_any _ _ _ _ (by decide)).mono ?_); rintro e u ⟨rfl, hb⟩; replace hs := hs.below hb; clear hb) | (go_at_call 36; (with_reducible refine (rset16z (buildOn 0#128 16 (laneR 16 16 a b) i) _ _ i (Pl.u64 (min (max ((x : Int) + (y : Int)) 0) 65535)) _ rfl rfl hlt HZ2.out).mono ?_); rintro e u ⟨rfl, hb⟩; replace hs := hs.below hb; clear hb) | (with_reducible refine store_vec rfl _ _ rfl O _ rfl rfl _ hs.this ?_; intro wq hq; replace hs := hs.sets hq; clear hq))
      go_roundw
      case rel => first | exact ⟨i + 1, by omega, by go_num, HE.out ▸ hs⟩ | ((repeat apply Exists.intro); exact ⟨⟨i + 1, by omega, by go_num, HE.out ▸ hs⟩, rfl⟩)
      case measure => (simp [intOf] <;> omega)
    · obtain rfl : i = 8 := by omega
      have hR' := hs.kb.get hR (by omega)
      go_wp2_with (first | (go_at_call 34; ((with_reducible refine (rlanes16 _).mono ?_); rintro e w' ⟨rfl, rfl⟩)) | (with_reducible refine load_vec rfl _ rfl _ rfl _ hs.this ?_) | (with_reducible refine store_vec rfl _ _ rfl (w.heap.size + 2) _ rfl rfl _ hR' ?_; intro wq hq))
      exact bodyPost_ret (results_vec_tmp rfl _ _ (w.heap.size + 2) _ _ rfl rfl hq.this) rfl ⟨rfl, (hs.kb.to_below hZ hWO).trans (hq.below.mono (by omega))⟩

set_option maxRecDepth 100000 in
set_option maxHeartbeats 4000000 in
theorem rbin_16_17 (a b : Vec) (w : World) : Calls Try.prog 31 #[.int .i64 64913, .agg (cells a), .agg (cells b)] w fun e w' => e = .returned (.tuple #[.agg (cells (vb 16 17 a b)), .int .i64 0]) ∧ Below w.heap.size w w' := by
  have hs : HL w [(w.heap.size + 2, 0), (w.heap.size + 1, b), (w.heap.size, a)] _ := HL.three w a b 0
  rw [cells_zero] at hs
  have T := Lib.hid (fun W => rwidth_any 64913 W (by decide))
  rw [show wF 64913 = 16 by decide] at T
  have K := Lib.hid (fun W => roff_some 64913 17 W (by decide) (by decide) (by decide))
  go_enter Try.func31, Try.ntmps31
  go_wp2_with (first | (go_at_call 30; (with_reducible refine (T.out _).mono ?_); rintro e u ⟨rfl, hb⟩; replace hs := hs.below hb; clear hb) | (go_at_call 33; (with_reducible refine (K.out _).mono ?_); rintro e u ⟨rfl, hb⟩; replace hs := hs.below hb; clear hb))
  rw [← cells_zero]
  obtain ⟨O, hOO⟩ : ∃ B, B = u.heap.size := ⟨_, rfl⟩
  have hlow := HL.low hs
  rw [← hOO] at hlow ⊢
  obtain ⟨W, hW⟩ : ∃ W, W = u.alloc (.cells (cells 0) 23) := ⟨_, rfl⟩
  have hA : W.heap[w.heap.size]? = some (.cells (cells a) 23 (0, 0)) := hW ▸ blk_alloc (hs.hold (_, a) (List.mem_cons_of_mem _ (List.mem_cons_of_mem _ List.mem_cons_self))) _
  have hB : W.heap[w.heap.size + 1]? = some (.cells (cells b) 23 (0, 0)) := hW ▸ blk_alloc (hs.hold (_, b) (List.mem_cons_of_mem _ List.mem_cons_self)) _
  have hR : W.heap[w.heap.size + 2]? = some (.cells (cells 0) 23 (0, 0)) := hW ▸ blk_alloc (hs.hold (_, 0) List.mem_cons_self) _
  have hO : W.heap[O]? = some (.cells (cells 0) 23 (0, 0)) := by rw [hW, hOO]; exact heap_alloc_new _ _
  have hZ : Below w.heap.size w W := hW ▸ hs.bel.alloc hs.bel.size _
  have nR : w.heap.size + 2 < O := hlow (_, 0) List.mem_cons_self
  have hWO : w.heap.size ≤ O := by omega
  rw [← hW]
  clear hW hOO hlow hs T K u
  go_loopw [11] (fun iv wr => ∃ i : Nat, i ≤ 8 ∧ iv = .int .i64 i ∧ St W O (buildOn 0#128 16 (laneR 16 17 a b) i) wr) (fun iv _ => 8 - (intOf iv).toNat)
  case atStart => exact ⟨0, Nat.zero_le _, rfl, St.start hO⟩
  case round =>
    obtain ⟨i, hi, rfl, hs⟩ := hrel
    by_cases hlt : i < 8
    · obtain ⟨x, hxx⟩ : ∃ x, x = getN a 16 i := ⟨_, rfl⟩
      obtain ⟨y, hyy⟩ : ∃ x, x = getN b 16 i := ⟨_, rfl⟩
      have bx : x < 65536 := hxx ▸ getN_lt a 16 i
      have b_y : y < 65536 := hyy ▸ getN_lt b 16 i
      obtain ⟨s, hss⟩ : ∃ s, s = sgn 16 x := ⟨_, rfl⟩
      obtain ⟨t, htt⟩ : ∃ s, s = sgn 16 y := ⟨_, rfl⟩
      have GA := fun W => rget16z a i i W rfl hlt
      have GB := fun W => rget16z b i i W rfl hlt
      have SA := fun W => rsigned16z a i i W rfl hlt
      have SB := fun W => rsigned16z b i i W rfl hlt
      rw [← hxx] at GA SA
      rw [← hyy] at GB SB
      rw [← hss] at SA
      rw [← htt] at SB
      have HGA := Lib.hid GA
      have HGB := Lib.hid GB
      have HSA := Lib.hid SA
      have HSB := Lib.hid SB
      clear GA GB SA SB
      have HL1 : laneR 16 17 a b i = Pl.u64 (laneZ 16 17 x y s t) := by rw [hss, htt, hxx, hyy]; rfl
      have bs : -32768 ≤ s ∧ s < 32768 := by rw [hss]; unfold sgn; rw [show (2 : Nat) ^ (16 - 1) = 32768 from rfl, show (2 : Int) ^ 16 = 65536 from rfl]; split <;> omega
      have bt : -32768 ≤ t ∧ t < 32768 := by rw [htt]; unfold sgn; rw [show (2 : Nat) ^ (16 - 1) = 32768 from rfl, show (2 : Int) ^ 16 = 65536 from rfl]; split <;> omega
      have ex : x = (s % 65536).toNat := by rw [hss]; unfold sgn; rw [show (2 : Nat) ^ (16 - 1) = 32768 from rfl, show (2 : Int) ^ 16 = 65536 from rfl]; split <;> omega
      have ey : y = (t % 65536).toNat := by rw [htt]; unfold sgn; rw [show (2 : Nat) ^ (16 - 1) = 32768 from rfl, show (2 : Int) ^ 16 = 65536 from rfl]; split <;> omega
      clear hss htt hxx hyy
      have HM : (Pl.u64 ((x : Int) - (y : Int))) % 65536 = laneR 16 17 a b i % 65536 := by
        rw [HL1]; rfl
      have HE := Lib.hid (step_eq 16 (laneR 16 17 a b) 0#128 i (Pl.u64 ((x : Int) - (y : Int))) HM)
      have HZL : (Pl.u64 ((x : Int) - (y : Int))) < 2 ^ 64 := by first | exact u64_lt _ | omega
      have HZ2 := Lib.hid HZL
      clear HZL HM HL1
      have q : IntKind.u64.wrap ((x : Int) - (y : Int)) = ((Pl.u64 ((x : Int) - (y : Int)) : Nat) : Int) := wrap_u64 _
      clear ex ey bs bt bx b_y
      go_wp2_with (first | (go_at_call 34; ((with_reducible refine (rlanes16 _).mono ?_); rintro e w' ⟨rfl, rfl⟩)) | (with_reducible refine load_vec rfl _ rfl _ rfl _ (hs.kb.get hA (by omega)) ?_) | (with_reducible refine load_vec rfl _ rfl _ rfl _ (hs.kb.get hB (by omega)) ?_) | (with_reducible refine load_vec rfl _ rfl _ rfl _ hs.this ?_) | (go_at_call 35; (with_reducible refine (HGA.out _).mono ?_); rintro e u ⟨rfl, hb⟩; replace hs := hs.below hb; clear hb) | (go_at_call 35; (with_reducible refine (HGB.out _).mono ?_); rintro e u ⟨rfl, hb⟩; replace hs := hs.below hb; clear hb) | (go_at_call 44; (with_reducible refine (HSA.out _).mono ?_); rintro e u ⟨rfl, hb⟩; replace hs := hs.below hb; clear hb) | (go_at_call 44; (with_reducible refine (HSB.out _).mono ?_); rintro e u ⟨rfl, hb⟩; replace hs := hs.below hb; clear hb) | (go_at_call 45; (with_reducible refine (rhold_any _ _ _ _ (by decide)).mono ?_); rintro e u ⟨rfl, hb⟩; replace hs := hs.below hb; clear hb) | (go_at_call 36; (with_reducible refine (rset16z (buildOn 0#128 16 (laneR 16 17 a b) i) _ _ i (Pl.u64 ((x : Int) - (y : Int))) _ rfl rfl hlt HZ2.out).mono ?_); rintro e u ⟨rfl, hb⟩; replace hs := hs.below hb; clear hb) | (with_reducible refine store_vec rfl _ _ rfl O _ rfl rfl _ hs.this ?_; intro wq hq; replace hs := hs.sets hq; clear hq))
      go_roundw
      case rel => first | exact ⟨i + 1, by omega, by go_num, HE.out ▸ hs⟩ | ((repeat apply Exists.intro); exact ⟨⟨i + 1, by omega, by go_num, HE.out ▸ hs⟩, rfl⟩)
      case measure => (simp [intOf] <;> omega)
    · obtain rfl : i = 8 := by omega
      have hR' := hs.kb.get hR (by omega)
      go_wp2_with (first | (go_at_call 34; ((with_reducible refine (rlanes16 _).mono ?_); rintro e w' ⟨rfl, rfl⟩)) | (with_reducible refine load_vec rfl _ rfl _ rfl _ hs.this ?_) | (with_reducible refine store_vec rfl _ _ rfl (w.heap.size + 2) _ rfl rfl _ hR' ?_; intro wq hq))
      exact bodyPost_ret (results_vec_tmp rfl _ _ (w.heap.size + 2) _ _ rfl rfl hq.this) rfl ⟨rfl, (hs.kb.to_below hZ hWO).trans (hq.below.mono (by omega))⟩

set_option maxRecDepth 100000 in
set_option maxHeartbeats 4000000 in
theorem rbin_16_18 (a b : Vec) (w : World) : Calls Try.prog 31 #[.int .i64 64914, .agg (cells a), .agg (cells b)] w fun e w' => e = .returned (.tuple #[.agg (cells (vb 16 18 a b)), .int .i64 0]) ∧ Below w.heap.size w w' := by
  have hs : HL w [(w.heap.size + 2, 0), (w.heap.size + 1, b), (w.heap.size, a)] _ := HL.three w a b 0
  rw [cells_zero] at hs
  have T := Lib.hid (fun W => rwidth_any 64914 W (by decide))
  rw [show wF 64914 = 16 by decide] at T
  have K := Lib.hid (fun W => roff_some 64914 18 W (by decide) (by decide) (by decide))
  go_enter Try.func31, Try.ntmps31
  go_wp2_with (first | (go_at_call 30; (with_reducible refine (T.out _).mono ?_); rintro e u ⟨rfl, hb⟩; replace hs := hs.below hb; clear hb) | (go_at_call 33; (with_reducible refine (K.out _).mono ?_); rintro e u ⟨rfl, hb⟩; replace hs := hs.below hb; clear hb))
  rw [← cells_zero]
  obtain ⟨O, hOO⟩ : ∃ B, B = u.heap.size := ⟨_, rfl⟩
  have hlow := HL.low hs
  rw [← hOO] at hlow ⊢
  obtain ⟨W, hW⟩ : ∃ W, W = u.alloc (.cells (cells 0) 23) := ⟨_, rfl⟩
  have hA : W.heap[w.heap.size]? = some (.cells (cells a) 23 (0, 0)) := hW ▸ blk_alloc (hs.hold (_, a) (List.mem_cons_of_mem _ (List.mem_cons_of_mem _ List.mem_cons_self))) _
  have hB : W.heap[w.heap.size + 1]? = some (.cells (cells b) 23 (0, 0)) := hW ▸ blk_alloc (hs.hold (_, b) (List.mem_cons_of_mem _ List.mem_cons_self)) _
  have hR : W.heap[w.heap.size + 2]? = some (.cells (cells 0) 23 (0, 0)) := hW ▸ blk_alloc (hs.hold (_, 0) List.mem_cons_self) _
  have hO : W.heap[O]? = some (.cells (cells 0) 23 (0, 0)) := by rw [hW, hOO]; exact heap_alloc_new _ _
  have hZ : Below w.heap.size w W := hW ▸ hs.bel.alloc hs.bel.size _
  have nR : w.heap.size + 2 < O := hlow (_, 0) List.mem_cons_self
  have hWO : w.heap.size ≤ O := by omega
  rw [← hW]
  clear hW hOO hlow hs T K u
  go_loopw [11] (fun iv wr => ∃ i : Nat, i ≤ 8 ∧ iv = .int .i64 i ∧ St W O (buildOn 0#128 16 (laneR 16 18 a b) i) wr) (fun iv _ => 8 - (intOf iv).toNat)
  case atStart => exact ⟨0, Nat.zero_le _, rfl, St.start hO⟩
  case round =>
    obtain ⟨i, hi, rfl, hs⟩ := hrel
    by_cases hlt : i < 8
    · obtain ⟨x, hxx⟩ : ∃ x, x = getN a 16 i := ⟨_, rfl⟩
      obtain ⟨y, hyy⟩ : ∃ x, x = getN b 16 i := ⟨_, rfl⟩
      have bx : x < 65536 := hxx ▸ getN_lt a 16 i
      have b_y : y < 65536 := hyy ▸ getN_lt b 16 i
      obtain ⟨s, hss⟩ : ∃ s, s = sgn 16 x := ⟨_, rfl⟩
      obtain ⟨t, htt⟩ : ∃ s, s = sgn 16 y := ⟨_, rfl⟩
      have GA := fun W => rget16z a i i W rfl hlt
      have GB := fun W => rget16z b i i W rfl hlt
      have SA := fun W => rsigned16z a i i W rfl hlt
      have SB := fun W => rsigned16z b i i W rfl hlt
      rw [← hxx] at GA SA
      rw [← hyy] at GB SB
      rw [← hss] at SA
      rw [← htt] at SB
      have HGA := Lib.hid GA
      have HGB := Lib.hid GB
      have HSA := Lib.hid SA
      have HSB := Lib.hid SB
      clear GA GB SA SB
      have HL1 : laneR 16 18 a b i = Pl.u64 (laneZ 16 18 x y s t) := by rw [hss, htt, hxx, hyy]; rfl
      have bs : -32768 ≤ s ∧ s < 32768 := by rw [hss]; unfold sgn; rw [show (2 : Nat) ^ (16 - 1) = 32768 from rfl, show (2 : Int) ^ 16 = 65536 from rfl]; split <;> omega
      have bt : -32768 ≤ t ∧ t < 32768 := by rw [htt]; unfold sgn; rw [show (2 : Nat) ^ (16 - 1) = 32768 from rfl, show (2 : Int) ^ 16 = 65536 from rfl]; split <;> omega
      have ex : x = (s % 65536).toNat := by rw [hss]; unfold sgn; rw [show (2 : Nat) ^ (16 - 1) = 32768 from rfl, show (2 : Int) ^ 16 = 65536 from rfl]; split <;> omega
      have ey : y = (t % 65536).toNat := by rw [htt]; unfold sgn; rw [show (2 : Nat) ^ (16 - 1) = 32768 from rfl, show (2 : Int) ^ 16 = 65536 from rfl]; split <;> omega
      clear hss htt hxx hyy
      have HM : (Pl.u64 (min (max (s - t) (-32768)) 32767)) % 65536 = laneR 16 18 a b i % 65536 := by
        rw [HL1]; rfl
      have HE := Lib.hid (step_eq 16 (laneR 16 18 a b) 0#128 i (Pl.u64 (min (max (s - t) (-32768)) 32767)) HM)
      have HZL : (Pl.u64 (min (max (s - t) (-32768)) 32767)) < 2 ^ 64 := by first | exact u64_lt _ | omega
      have HZ2 := Lib.hid HZL
      clear HZL HM HL1
      have q : IntKind.i64.wrap (s - t) = s - t := IntWalk.i64_in _ (by omega)
      clear ex ey bs bt bx b_y
      go_wp2_with (first | (go_at_call 34; ((with_reducible refine (rlanes16 _).mono ?_); rintro e w' ⟨rfl, rfl⟩)) | (with_reducible refine load_vec rfl _ rfl _ rfl _ (hs.kb.get hA (by omega)) ?_) | (with_reducible refine load_vec rfl _ rfl _ rfl _ (hs.kb.get hB (by omega)) ?_) | (with_reducible refine load_vec rfl _ rfl _ rfl _ hs.this ?_) | (go_at_call 35; (with_reducible refine (HGA.out _).mono ?_); rintro e u ⟨rfl, hb⟩; replace hs := hs.below hb; clear hb) | (go_at_call 35; (with_reducible refine (HGB.out _).mono ?_); rintro e u ⟨rfl, hb⟩; replace hs := hs.below hb; clear hb) | (go_at_call 44; (with_reducible refine (HSA.out _).mono ?_); rintro e u ⟨rfl, hb⟩; replace hs := hs.below hb; clear hb) | (go_at_call 44; (with_reducible refine (HSB.out _).mono ?_); rintro e u ⟨rfl, hb⟩; replace hs := hs.below hb; clear hb) | (go_at_call 45; (with_reducible refine (rhold_any _ _ _ _ (by decide)).mono ?_); rintro e u ⟨rfl, hb⟩; replace hs := hs.below hb; clear hb) | (go_at_call 36; (with_reducible refine (rset16z (buildOn 0#128 16 (laneR 16 18 a b) i) _ _ i (Pl.u64 (min (max (s - t) (-32768)) 32767)) _ rfl rfl hlt HZ2.out).mono ?_); rintro e u ⟨rfl, hb⟩; replace hs := hs.below hb; clear hb) | (with_reducible refine store_vec rfl _ _ rfl O _ rfl rfl _ hs.this ?_; intro wq hq; replace hs := hs.sets hq; clear hq))
      go_roundw
      case rel => first | exact ⟨i + 1, by omega, by go_num, HE.out ▸ hs⟩ | ((repeat apply Exists.intro); exact ⟨⟨i + 1, by omega, by go_num, HE.out ▸ hs⟩, rfl⟩)
      case measure => (simp [intOf] <;> omega)
    · obtain rfl : i = 8 := by omega
      have hR' := hs.kb.get hR (by omega)
      go_wp2_with (first | (go_at_call 34; ((with_reducible refine (rlanes16 _).mono ?_); rintro e w' ⟨rfl, rfl⟩)) | (with_reducible refine load_vec rfl _ rfl _ rfl _ hs.this ?_) | (with_reducible refine store_vec rfl _ _ rfl (w.heap.size + 2) _ rfl rfl _ hR' ?_; intro wq hq))
      exact bodyPost_ret (results_vec_tmp rfl _ _ (w.heap.size + 2) _ _ rfl rfl hq.this) rfl ⟨rfl, (hs.kb.to_below hZ hWO).trans (hq.below.mono (by omega))⟩

set_option maxRecDepth 100000 in
set_option maxHeartbeats 4000000 in
theorem rbin_16_19 (a b : Vec) (w : World) : Calls Try.prog 31 #[.int .i64 64915, .agg (cells a), .agg (cells b)] w fun e w' => e = .returned (.tuple #[.agg (cells (vb 16 19 a b)), .int .i64 0]) ∧ Below w.heap.size w w' := by
  have hs : HL w [(w.heap.size + 2, 0), (w.heap.size + 1, b), (w.heap.size, a)] _ := HL.three w a b 0
  rw [cells_zero] at hs
  have T := Lib.hid (fun W => rwidth_any 64915 W (by decide))
  rw [show wF 64915 = 16 by decide] at T
  have K := Lib.hid (fun W => roff_some 64915 19 W (by decide) (by decide) (by decide))
  go_enter Try.func31, Try.ntmps31
  go_wp2_with (first | (go_at_call 30; (with_reducible refine (T.out _).mono ?_); rintro e u ⟨rfl, hb⟩; replace hs := hs.below hb; clear hb) | (go_at_call 33; (with_reducible refine (K.out _).mono ?_); rintro e u ⟨rfl, hb⟩; replace hs := hs.below hb; clear hb))
  rw [← cells_zero]
  obtain ⟨O, hOO⟩ : ∃ B, B = u.heap.size := ⟨_, rfl⟩
  have hlow := HL.low hs
  rw [← hOO] at hlow ⊢
  obtain ⟨W, hW⟩ : ∃ W, W = u.alloc (.cells (cells 0) 23) := ⟨_, rfl⟩
  have hA : W.heap[w.heap.size]? = some (.cells (cells a) 23 (0, 0)) := hW ▸ blk_alloc (hs.hold (_, a) (List.mem_cons_of_mem _ (List.mem_cons_of_mem _ List.mem_cons_self))) _
  have hB : W.heap[w.heap.size + 1]? = some (.cells (cells b) 23 (0, 0)) := hW ▸ blk_alloc (hs.hold (_, b) (List.mem_cons_of_mem _ List.mem_cons_self)) _
  have hR : W.heap[w.heap.size + 2]? = some (.cells (cells 0) 23 (0, 0)) := hW ▸ blk_alloc (hs.hold (_, 0) List.mem_cons_self) _
  have hO : W.heap[O]? = some (.cells (cells 0) 23 (0, 0)) := by rw [hW, hOO]; exact heap_alloc_new _ _
  have hZ : Below w.heap.size w W := hW ▸ hs.bel.alloc hs.bel.size _
  have nR : w.heap.size + 2 < O := hlow (_, 0) List.mem_cons_self
  have hWO : w.heap.size ≤ O := by omega
  rw [← hW]
  clear hW hOO hlow hs T K u
  go_loopw [11] (fun iv wr => ∃ i : Nat, i ≤ 8 ∧ iv = .int .i64 i ∧ St W O (buildOn 0#128 16 (laneR 16 19 a b) i) wr) (fun iv _ => 8 - (intOf iv).toNat)
  case atStart => exact ⟨0, Nat.zero_le _, rfl, St.start hO⟩
  case round =>
    obtain ⟨i, hi, rfl, hs⟩ := hrel
    by_cases hlt : i < 8
    · obtain ⟨x, hxx⟩ : ∃ x, x = getN a 16 i := ⟨_, rfl⟩
      obtain ⟨y, hyy⟩ : ∃ x, x = getN b 16 i := ⟨_, rfl⟩
      have bx : x < 65536 := hxx ▸ getN_lt a 16 i
      have b_y : y < 65536 := hyy ▸ getN_lt b 16 i
      obtain ⟨s, hss⟩ : ∃ s, s = sgn 16 x := ⟨_, rfl⟩
      obtain ⟨t, htt⟩ : ∃ s, s = sgn 16 y := ⟨_, rfl⟩
      have GA := fun W => rget16z a i i W rfl hlt
      have GB := fun W => rget16z b i i W rfl hlt
      have SA := fun W => rsigned16z a i i W rfl hlt
      have SB := fun W => rsigned16z b i i W rfl hlt
      rw [← hxx] at GA SA
      rw [← hyy] at GB SB
      rw [← hss] at SA
      rw [← htt] at SB
      have HGA := Lib.hid GA
      have HGB := Lib.hid GB
      have HSA := Lib.hid SA
      have HSB := Lib.hid SB
      clear GA GB SA SB
      have HL1 : laneR 16 19 a b i = Pl.u64 (laneZ 16 19 x y s t) := by rw [hss, htt, hxx, hyy]; rfl
      have bs : -32768 ≤ s ∧ s < 32768 := by rw [hss]; unfold sgn; rw [show (2 : Nat) ^ (16 - 1) = 32768 from rfl, show (2 : Int) ^ 16 = 65536 from rfl]; split <;> omega
      have bt : -32768 ≤ t ∧ t < 32768 := by rw [htt]; unfold sgn; rw [show (2 : Nat) ^ (16 - 1) = 32768 from rfl, show (2 : Int) ^ 16 = 65536 from rfl]; split <;> omega
      have ex : x = (s % 65536).toNat := by rw [hss]; unfold sgn; rw [show (2 : Nat) ^ (16 - 1) = 32768 from rfl, show (2 : Int) ^ 16 = 65536 from rfl]; split <;> omega
      have ey : y = (t % 65536).toNat := by rw [htt]; unfold sgn; rw [show (2 : Nat) ^ (16 - 1) = 32768 from rfl, show (2 : Int) ^ 16 = 65536 from rfl]; split <;> omega
      clear hss htt hxx hyy
      have HM : (Pl.u64 (min (max ((x : Int) - (y : Int)) 0) 65535)) % 65536 = laneR 16 19 a b i % 65536 := by
        rw [HL1, show laneZ 16 19 x y s t = (x : Int) - ((min x y : Nat) : Int) from rfl, show min (max ((x : Int) - (y : Int)) 0) 65535 = (x : Int) - ((min x y : Nat) : Int) by omega]
      have HE := Lib.hid (step_eq 16 (laneR 16 19 a b) 0#128 i (Pl.u64 (min (max ((x : Int) - (y : Int)) 0) 65535)) HM)
      have HZL : (Pl.u64 (min (max ((x : Int) - (y : Int)) 0) 65535)) < 2 ^ 64 := by first | exact u64_lt _ | omega
      have HZ2 := Lib.hid HZL
      clear HZL HM HL1
      have q : IntKind.i64.wrap (x : Int) = (x : Int) := IntWalk.i64_in _ (by omega)
      have q1 : IntKind.i64.wrap (y : Int) = (y : Int) := IntWalk.i64_in _ (by omega)
      have q2 : IntKind.i64.wrap ((x : Int) - (y : Int)) = (x : Int) - (y : Int) := IntWalk.i64_in _ (by omega)
      clear ex ey bs bt bx b_y
      go_wp2_with (first | (go_at_call 34; ((with_reducible refine (rlanes16 _).mono ?_); rintro e w' ⟨rfl, rfl⟩)) | (with_reducible refine load_vec rfl _ rfl _ rfl _ (hs.kb.get hA (by omega)) ?_) | (with_reducible refine load_vec rfl _ rfl _ rfl _ (hs.kb.get hB (by omega)) ?_) | (with_reducible refine load_vec rfl _ rfl _ rfl _ hs.this ?_) | (go_at_call 35; (with_reducible refine (HGA.out _).mono ?_); rintro e u ⟨rfl, hb⟩; replace hs := hs.below hb; clear hb) | (go_at_call 35; (with_reducible refine (HGB.out _).mono ?_); rintro e u ⟨rfl, hb⟩; replace hs := hs.below hb; clear hb) | (go_at_call 44; (with_reducible refine (HSA.out _).mono ?_); rintro e u ⟨rfl, hb⟩; replace hs := hs.below hb; clear hb) | (go_at_call 44; (with_reducible refine (HSB.out _).mono ?_); rintro e u ⟨rfl, hb⟩; replace hs := hs.below hb; clear hb) | (go_at_call 45; (with_reducible refine (rhold_any _ _ _ _ (by decide)).mono ?_); rintro e u ⟨rfl, hb⟩; replace hs := hs.below hb; clear hb) | (go_at_call 36; (with_reducible refine (rset16z (buildOn 0#128 16 (laneR 16 19 a b) i) _ _ i (Pl.u64 (min (max ((x : Int) - (y : Int)) 0) 65535)) _ rfl rfl hlt HZ2.out).mono ?_); rintro e u ⟨rfl, hb⟩; replace hs := hs.below hb; clear hb) | (with_reducible refine store_vec rfl _ _ rfl O _ rfl rfl _ hs.this ?_; intro wq hq; replace hs := hs.sets hq; clear hq))
      go_roundw
      case rel => first | exact ⟨i + 1, by omega, by go_num, HE.out ▸ hs⟩ | ((repeat apply Exists.intro); exact ⟨⟨i + 1, by omega, by go_num, HE.out ▸ hs⟩, rfl⟩)
      case measure => (simp [intOf] <;> omega)
    · obtain rfl : i = 8 := by omega
      have hR' := hs.kb.get hR (by omega)
      go_wp2_with (first | (go_at_call 34; ((with_reducible refine (rlanes16 _).mono ?_); rintro e w' ⟨rfl, rfl⟩)) | (with_reducible refine load_vec rfl _ rfl _ rfl _ hs.this ?_) | (with_reducible refine store_vec rfl _ _ rfl (w.heap.size + 2) _ rfl rfl _ hR' ?_; intro wq hq))
      exact bodyPost_ret (results_vec_tmp rfl _ _ (w.heap.size + 2) _ _ rfl rfl hq.this) rfl ⟨rfl, (hs.kb.to_below hZ hWO).trans (hq.below.mono (by omega))⟩

set_option maxRecDepth 100000 in
set_option maxHeartbeats 4000000 in
theorem rbin_16_21 (a b : Vec) (w : World) : Calls Try.prog 31 #[.int .i64 64917, .agg (cells a), .agg (cells b)] w fun e w' => e = .returned (.tuple #[.agg (cells (vb 16 21 a b)), .int .i64 0]) ∧ Below w.heap.size w w' := by
  have hs : HL w [(w.heap.size + 2, 0), (w.heap.size + 1, b), (w.heap.size, a)] _ := HL.three w a b 0
  rw [cells_zero] at hs
  have T := Lib.hid (fun W => rwidth_any 64917 W (by decide))
  rw [show wF 64917 = 16 by decide] at T
  have K := Lib.hid (fun W => roff_some 64917 21 W (by decide) (by decide) (by decide))
  go_enter Try.func31, Try.ntmps31
  go_wp2_with (first | (go_at_call 30; (with_reducible refine (T.out _).mono ?_); rintro e u ⟨rfl, hb⟩; replace hs := hs.below hb; clear hb) | (go_at_call 33; (with_reducible refine (K.out _).mono ?_); rintro e u ⟨rfl, hb⟩; replace hs := hs.below hb; clear hb))
  rw [← cells_zero]
  obtain ⟨O, hOO⟩ : ∃ B, B = u.heap.size := ⟨_, rfl⟩
  have hlow := HL.low hs
  rw [← hOO] at hlow ⊢
  obtain ⟨W, hW⟩ : ∃ W, W = u.alloc (.cells (cells 0) 23) := ⟨_, rfl⟩
  have hA : W.heap[w.heap.size]? = some (.cells (cells a) 23 (0, 0)) := hW ▸ blk_alloc (hs.hold (_, a) (List.mem_cons_of_mem _ (List.mem_cons_of_mem _ List.mem_cons_self))) _
  have hB : W.heap[w.heap.size + 1]? = some (.cells (cells b) 23 (0, 0)) := hW ▸ blk_alloc (hs.hold (_, b) (List.mem_cons_of_mem _ List.mem_cons_self)) _
  have hR : W.heap[w.heap.size + 2]? = some (.cells (cells 0) 23 (0, 0)) := hW ▸ blk_alloc (hs.hold (_, 0) List.mem_cons_self) _
  have hO : W.heap[O]? = some (.cells (cells 0) 23 (0, 0)) := by rw [hW, hOO]; exact heap_alloc_new _ _
  have hZ : Below w.heap.size w W := hW ▸ hs.bel.alloc hs.bel.size _
  have nR : w.heap.size + 2 < O := hlow (_, 0) List.mem_cons_self
  have hWO : w.heap.size ≤ O := by omega
  rw [← hW]
  clear hW hOO hlow hs T K u
  go_loopw [11] (fun iv wr => ∃ i : Nat, i ≤ 8 ∧ iv = .int .i64 i ∧ St W O (buildOn 0#128 16 (laneR 16 21 a b) i) wr) (fun iv _ => 8 - (intOf iv).toNat)
  case atStart => exact ⟨0, Nat.zero_le _, rfl, St.start hO⟩
  case round =>
    obtain ⟨i, hi, rfl, hs⟩ := hrel
    by_cases hlt : i < 8
    · obtain ⟨x, hxx⟩ : ∃ x, x = getN a 16 i := ⟨_, rfl⟩
      obtain ⟨y, hyy⟩ : ∃ x, x = getN b 16 i := ⟨_, rfl⟩
      have bx : x < 65536 := hxx ▸ getN_lt a 16 i
      have b_y : y < 65536 := hyy ▸ getN_lt b 16 i
      obtain ⟨s, hss⟩ : ∃ s, s = sgn 16 x := ⟨_, rfl⟩
      obtain ⟨t, htt⟩ : ∃ s, s = sgn 16 y := ⟨_, rfl⟩
      have GA := fun W => rget16z a i i W rfl hlt
      have GB := fun W => rget16z b i i W rfl hlt
      have SA := fun W => rsigned16z a i i W rfl hlt
      have SB := fun W => rsigned16z b i i W rfl hlt
      rw [← hxx] at GA SA
      rw [← hyy] at GB SB
      rw [← hss] at SA
      rw [← htt] at SB
      have HGA := Lib.hid GA
      have HGB := Lib.hid GB
      have HSA := Lib.hid SA
      have HSB := Lib.hid SB
      clear GA GB SA SB
      have HL1 : laneR 16 21 a b i = Pl.u64 (laneZ 16 21 x y s t) := by rw [hss, htt, hxx, hyy]; rfl
      have bs : -32768 ≤ s ∧ s < 32768 := by rw [hss]; unfold sgn; rw [show (2 : Nat) ^ (16 - 1) = 32768 from rfl, show (2 : Int) ^ 16 = 65536 from rfl]; split <;> omega
      have bt : -32768 ≤ t ∧ t < 32768 := by rw [htt]; unfold sgn; rw [show (2 : Nat) ^ (16 - 1) = 32768 from rfl, show (2 : Int) ^ 16 = 65536 from rfl]; split <;> omega
      have ex : x = (s % 65536).toNat := by rw [hss]; unfold sgn; rw [show (2 : Nat) ^ (16 - 1) = 32768 from rfl, show (2 : Int) ^ 16 = 65536 from rfl]; split <;> omega
      have ey : y = (t % 65536).toNat := by rw [htt]; unfold sgn; rw [show (2 : Nat) ^ (16 - 1) = 32768 from rfl, show (2 : Int) ^ 16 = 65536 from rfl]; split <;> omega
      clear hss htt hxx hyy
      have HM : (Pl.u64 ((x : Int) * (y : Int))) % 65536 = laneR 16 21 a b i % 65536 := by
        rw [HL1]; rfl
      have HE := Lib.hid (step_eq 16 (laneR 16 21 a b) 0#128 i (Pl.u64 ((x : Int) * (y : Int))) HM)
      have HZL : (Pl.u64 ((x : Int) * (y : Int))) < 2 ^ 64 := by first | exact u64_lt _ | omega
      have HZ2 := Lib.hid HZL
      clear HZL HM HL1
      have q : IntKind.u64.wrap ((x : Int) * (y : Int)) = ((Pl.u64 ((x : Int) * (y : Int)) : Nat) : Int) := wrap_u64 _
      clear ex ey bs bt bx b_y
      go_wp2_with (first | (go_at_call 34; ((with_reducible refine (rlanes16 _).mono ?_); rintro e w' ⟨rfl, rfl⟩)) | (with_reducible refine load_vec rfl _ rfl _ rfl _ (hs.kb.get hA (by omega)) ?_) | (with_reducible refine load_vec rfl _ rfl _ rfl _ (hs.kb.get hB (by omega)) ?_) | (with_reducible refine load_vec rfl _ rfl _ rfl _ hs.this ?_) | (go_at_call 35; (with_reducible refine (HGA.out _).mono ?_); rintro e u ⟨rfl, hb⟩; replace hs := hs.below hb; clear hb) | (go_at_call 35; (with_reducible refine (HGB.out _).mono ?_); rintro e u ⟨rfl, hb⟩; replace hs := hs.below hb; clear hb) | (go_at_call 44; (with_reducible refine (HSA.out _).mono ?_); rintro e u ⟨rfl, hb⟩; replace hs := hs.below hb; clear hb) | (go_at_call 44; (with_reducible refine (HSB.out _).mono ?_); rintro e u ⟨rfl, hb⟩; replace hs := hs.below hb; clear hb) | (go_at_call 45; (with_reducible refine (rhold_any _ _ _ _ (by decide)).mono ?_); rintro e u ⟨rfl, hb⟩; replace hs := hs.below hb; clear hb) | (go_at_call 36; (with_reducible refine (rset16z (buildOn 0#128 16 (laneR 16 21 a b) i) _ _ i (Pl.u64 ((x : Int) * (y : Int))) _ rfl rfl hlt HZ2.out).mono ?_); rintro e u ⟨rfl, hb⟩; replace hs := hs.below hb; clear hb) | (with_reducible refine store_vec rfl _ _ rfl O _ rfl rfl _ hs.this ?_; intro wq hq; replace hs := hs.sets hq; clear hq))
      go_roundw
      case rel => first | exact ⟨i + 1, by omega, by go_num, HE.out ▸ hs⟩ | ((repeat apply Exists.intro); exact ⟨⟨i + 1, by omega, by go_num, HE.out ▸ hs⟩, rfl⟩)
      case measure => (simp [intOf] <;> omega)
    · obtain rfl : i = 8 := by omega
      have hR' := hs.kb.get hR (by omega)
      go_wp2_with (first | (go_at_call 34; ((with_reducible refine (rlanes16 _).mono ?_); rintro e w' ⟨rfl, rfl⟩)) | (with_reducible refine load_vec rfl _ rfl _ rfl _ hs.this ?_) | (with_reducible refine store_vec rfl _ _ rfl (w.heap.size + 2) _ rfl rfl _ hR' ?_; intro wq hq))
      exact bodyPost_ret (results_vec_tmp rfl _ _ (w.heap.size + 2) _ _ rfl rfl hq.this) rfl ⟨rfl, (hs.kb.to_below hZ hWO).trans (hq.below.mono (by omega))⟩

set_option maxRecDepth 100000 in
set_option maxHeartbeats 4000000 in
theorem rbin_16_22 (a b : Vec) (w : World) : Calls Try.prog 31 #[.int .i64 64918, .agg (cells a), .agg (cells b)] w fun e w' => e = .returned (.tuple #[.agg (cells (vb 16 22 a b)), .int .i64 0]) ∧ Below w.heap.size w w' := by
  have hs : HL w [(w.heap.size + 2, 0), (w.heap.size + 1, b), (w.heap.size, a)] _ := HL.three w a b 0
  rw [cells_zero] at hs
  have T := Lib.hid (fun W => rwidth_any 64918 W (by decide))
  rw [show wF 64918 = 16 by decide] at T
  have K := Lib.hid (fun W => roff_some 64918 22 W (by decide) (by decide) (by decide))
  go_enter Try.func31, Try.ntmps31
  go_wp2_with (first | (go_at_call 30; (with_reducible refine (T.out _).mono ?_); rintro e u ⟨rfl, hb⟩; replace hs := hs.below hb; clear hb) | (go_at_call 33; (with_reducible refine (K.out _).mono ?_); rintro e u ⟨rfl, hb⟩; replace hs := hs.below hb; clear hb))
  rw [← cells_zero]
  obtain ⟨O, hOO⟩ : ∃ B, B = u.heap.size := ⟨_, rfl⟩
  have hlow := HL.low hs
  rw [← hOO] at hlow ⊢
  obtain ⟨W, hW⟩ : ∃ W, W = u.alloc (.cells (cells 0) 23) := ⟨_, rfl⟩
  have hA : W.heap[w.heap.size]? = some (.cells (cells a) 23 (0, 0)) := hW ▸ blk_alloc (hs.hold (_, a) (List.mem_cons_of_mem _ (List.mem_cons_of_mem _ List.mem_cons_self))) _
  have hB : W.heap[w.heap.size + 1]? = some (.cells (cells b) 23 (0, 0)) := hW ▸ blk_alloc (hs.hold (_, b) (List.mem_cons_of_mem _ List.mem_cons_self)) _
  have hR : W.heap[w.heap.size + 2]? = some (.cells (cells 0) 23 (0, 0)) := hW ▸ blk_alloc (hs.hold (_, 0) List.mem_cons_self) _
  have hO : W.heap[O]? = some (.cells (cells 0) 23 (0, 0)) := by rw [hW, hOO]; exact heap_alloc_new _ _
  have hZ : Below w.heap.size w W := hW ▸ hs.bel.alloc hs.bel.size _
  have nR : w.heap.size + 2 < O := hlow (_, 0) List.mem_cons_self
  have hWO : w.heap.size ≤ O := by omega
  rw [← hW]
  clear hW hOO hlow hs T K u
  go_loopw [11] (fun iv wr => ∃ i : Nat, i ≤ 8 ∧ iv = .int .i64 i ∧ St W O (buildOn 0#128 16 (laneR 16 22 a b) i) wr) (fun iv _ => 8 - (intOf iv).toNat)
  case atStart => exact ⟨0, Nat.zero_le _, rfl, St.start hO⟩
  case round =>
    obtain ⟨i, hi, rfl, hs⟩ := hrel
    by_cases hlt : i < 8
    · obtain ⟨x, hxx⟩ : ∃ x, x = getN a 16 i := ⟨_, rfl⟩
      obtain ⟨y, hyy⟩ : ∃ x, x = getN b 16 i := ⟨_, rfl⟩
      have bx : x < 65536 := hxx ▸ getN_lt a 16 i
      have b_y : y < 65536 := hyy ▸ getN_lt b 16 i
      obtain ⟨s, hss⟩ : ∃ s, s = sgn 16 x := ⟨_, rfl⟩
      obtain ⟨t, htt⟩ : ∃ s, s = sgn 16 y := ⟨_, rfl⟩
      have GA := fun W => rget16z a i i W rfl hlt
      have GB := fun W => rget16z b i i W rfl hlt
      have SA := fun W => rsigned16z a i i W rfl hlt
      have SB := fun W => rsigned16z b i i W rfl hlt
      rw [← hxx] at GA SA
      rw [← hyy] at GB SB
      rw [← hss] at SA
      rw [← htt] at SB
      have HGA := Lib.hid GA
      have HGB := Lib.hid GB
      have HSA := Lib.hid SA
      have HSB := Lib.hid SB
      clear GA GB SA SB
      have HL1 : laneR 16 22 a b i = Pl.u64 (laneZ 16 22 x y s t) := by rw [hss, htt, hxx, hyy]; rfl
      have bs : -32768 ≤ s ∧ s < 32768 := by rw [hss]; unfold sgn; rw [show (2 : Nat) ^ (16 - 1) = 32768 from rfl, show (2 : Int) ^ 16 = 65536 from rfl]; split <;> omega
      have bt : -32768 ≤ t ∧ t < 32768 := by rw [htt]; unfold sgn; rw [show (2 : Nat) ^ (16 - 1) = 32768 from rfl, show (2 : Int) ^ 16 = 65536 from rfl]; split <;> omega
      have ex : x = (s % 65536).toNat := by rw [hss]; unfold sgn; rw [show (2 : Nat) ^ (16 - 1) = 32768 from rfl, show (2 : Int) ^ 16 = 65536 from rfl]; split <;> omega
      have ey : y = (t % 65536).toNat := by rw [htt]; unfold sgn; rw [show (2 : Nat) ^ (16 - 1) = 32768 from rfl, show (2 : Int) ^ 16 = 65536 from rfl]; split <;> omega
      clear hss htt hxx hyy
      by_cases hc : t < s
      · as_aux_lemma =>
        have HM : y % 65536 = laneR 16 22 a b i % 65536 := by
          rw [HL1, show laneZ 16 22 x y s t = min s t from rfl]
          unfold Pl.u64; omega
        have HE := Lib.hid (step_eq 16 (laneR 16 22 a b) 0#128 i y HM)
        have HZL : y < 2 ^ 64 := by first | exact u64_lt _ | omega
        have HZ2 := Lib.hid HZL
        clear HZL HM HL1
        have q : decide (t < s) = true := decide_eq_true hc
        clear hc
        clear ex ey bs bt bx b_y
        go_wp2_with (first | (go_at_call 34; ((with_reducible refine (rlanes16 _).mono ?_); rintro e w' ⟨rfl, rfl⟩)) | (with_reducible refine load_vec rfl _ rfl _ rfl _ (hs.kb.get hA (by omega)) ?_) | (with_reducible refine load_vec rfl _ rfl _ rfl _ (hs.kb.get hB (by omega)) ?_) | (with_reducible refine load_vec rfl _ rfl _ rfl _ hs.this ?_) | (go_at_call 35; (with_reducible refine (HGA.out _).mono ?_); rintro e u ⟨rfl, hb⟩; replace hs := hs.below hb; clear hb) | (go_at_call 35; (with_reducible refine (HGB.out _).mono ?_); rintro e u ⟨rfl, hb⟩; replace hs := hs.below hb; clear hb) | (go_at_call 44; (with_reducible refine (HSA.out _).mono ?_); rintro e u ⟨rfl, hb⟩; replace hs := hs.below hb; clear hb) | (go_at_call 44; (with_reducible refine (HSB.out _).mono ?_); rintro e u ⟨rfl, hb⟩; replace hs := hs.below hb; clear hb) | (go_at_call 45; (with_reducible refine (rhold_any _ _ _ _ (by decide)).mono ?_); rintro e u ⟨rfl, hb⟩; replace hs := hs.below hb; clear hb) | (go_at_call 36; (with_reducible refine (rset16z (buildOn 0#128 16 (laneR 16 22 a b) i) _ _ i y _ rfl rfl hlt HZ2.out).mono ?_); rintro e u ⟨rfl, hb⟩; replace hs := hs.below hb; clear hb) | (with_reducible refine store_vec rfl _ _ rfl O _ rfl rfl _ hs.this ?_; intro wq hq; replace hs := hs.sets hq; clear hq))
        go_roundw
        case rel => first | exact ⟨i + 1, by omega, by go_num, HE.out ▸ hs⟩ | ((repeat apply Exists.intro); exact ⟨⟨i + 1, by omega, by go_num, HE.out ▸ hs⟩, rfl⟩)
        case measure => (simp [intOf] <;> omega)
      · as_aux_lemma =>
        have HM : x % 65536 = laneR 16 22 a b i % 65536 := by
          rw [HL1, show laneZ 16 22 x y s t = min s t from rfl]
          unfold Pl.u64; omega
        have HE := Lib.hid (step_eq 16 (laneR 16 22 a b) 0#128 i x HM)
        have HZL : x < 2 ^ 64 := by first | exact u64_lt _ | omega
        have HZ2 := Lib.hid HZL
        clear HZL HM HL1
        have q : decide (t < s) = false := decide_eq_false hc
        clear hc
        clear ex ey bs bt bx b_y
        go_wp2_with (first | (go_at_call 34; ((with_reducible refine (rlanes16 _).mono ?_); rintro e w' ⟨rfl, rfl⟩)) | (with_reducible refine load_vec rfl _ rfl _ rfl _ (hs.kb.get hA (by omega)) ?_) | (with_reducible refine load_vec rfl _ rfl _ rfl _ (hs.kb.get hB (by omega)) ?_) | (with_reducible refine load_vec rfl _ rfl _ rfl _ hs.this ?_) | (go_at_call 35; (with_reducible refine (HGA.out _).mono ?_); rintro e u ⟨rfl, hb⟩; replace hs := hs.below hb; clear hb) | (go_at_call 35; (with_reducible refine (HGB.out _).mono ?_); rintro e u ⟨rfl, hb⟩; replace hs := hs.below hb; clear hb) | (go_at_call 44; (with_reducible refine (HSA.out _).mono ?_); rintro e u ⟨rfl, hb⟩; replace hs := hs.below hb; clear hb) | (go_at_call 44; (with_reducible refine (HSB.out _).mono ?_); rintro e u ⟨rfl, hb⟩; replace hs := hs.below hb; clear hb) | (go_at_call 45; (with_reducible refine (rhold_any _ _ _ _ (by decide)).mono ?_); rintro e u ⟨rfl, hb⟩; replace hs := hs.below hb; clear hb) | (go_at_call 36; (with_reducible refine (rset16z (buildOn 0#128 16 (laneR 16 22 a b) i) _ _ i x _ rfl rfl hlt HZ2.out).mono ?_); rintro e u ⟨rfl, hb⟩; replace hs := hs.below hb; clear hb) | (with_reducible refine store_vec rfl _ _ rfl O _ rfl rfl _ hs.this ?_; intro wq hq; replace hs := hs.sets hq; clear hq))
        go_roundw
        case rel => first | exact ⟨i + 1, by omega, by go_num, HE.out ▸ hs⟩ | ((repeat apply Exists.intro); exact ⟨⟨i + 1, by omega, by go_num, HE.out ▸ hs⟩, rfl⟩)
        case measure => (simp [intOf] <;> omega)
    · obtain rfl : i = 8 := by omega
      have hR' := hs.kb.get hR (by omega)
      go_wp2_with (first | (go_at_call 34; ((with_reducible refine (rlanes16 _).mono ?_); rintro e w' ⟨rfl, rfl⟩)) | (with_reducible refine load_vec rfl _ rfl _ rfl _ hs.this ?_) | (with_reducible refine store_vec rfl _ _ rfl (w.heap.size + 2) _ rfl rfl _ hR' ?_; intro wq hq))
      exact bodyPost_ret (results_vec_tmp rfl _ _ (w.heap.size + 2) _ _ rfl rfl hq.this) rfl ⟨rfl, (hs.kb.to_below hZ hWO).trans (hq.below.mono (by omega))⟩

set_option maxRecDepth 100000 in
set_option maxHeartbeats 4000000 in
theorem rbin_16_23 (a b : Vec) (w : World) : Calls Try.prog 31 #[.int .i64 64919, .agg (cells a), .agg (cells b)] w fun e w' => e = .returned (.tuple #[.agg (cells (vb 16 23 a b)), .int .i64 0]) ∧ Below w.heap.size w w' := by
  have hs : HL w [(w.heap.size + 2, 0), (w.heap.size + 1, b), (w.heap.size, a)] _ := HL.three w a b 0
  rw [cells_zero] at hs
  have T := Lib.hid (fun W => rwidth_any 64919 W (by decide))
  rw [show wF 64919 = 16 by decide] at T
  have K := Lib.hid (fun W => roff_some 64919 23 W (by decide) (by decide) (by decide))
  go_enter Try.func31, Try.ntmps31
  go_wp2_with (first | (go_at_call 30; (with_reducible refine (T.out _).mono ?_); rintro e u ⟨rfl, hb⟩; replace hs := hs.below hb; clear hb) | (go_at_call 33; (with_reducible refine (K.out _).mono ?_); rintro e u ⟨rfl, hb⟩; replace hs := hs.below hb; clear hb))
  rw [← cells_zero]
  obtain ⟨O, hOO⟩ : ∃ B, B = u.heap.size := ⟨_, rfl⟩
  have hlow := HL.low hs
  rw [← hOO] at hlow ⊢
  obtain ⟨W, hW⟩ : ∃ W, W = u.alloc (.cells (cells 0) 23) := ⟨_, rfl⟩
  have hA : W.heap[w.heap.size]? = some (.cells (cells a) 23 (0, 0)) := hW ▸ blk_alloc (hs.hold (_, a) (List.mem_cons_of_mem _ (List.mem_cons_of_mem _ List.mem_cons_self))) _
  have hB : W.heap[w.heap.size + 1]? = some (.cells (cells b) 23 (0, 0)) := hW ▸ blk_alloc (hs.hold (_, b) (List.mem_cons_of_mem _ List.mem_cons_self)) _
  have hR : W.heap[w.heap.size + 2]? = some (.cells (cells 0) 23 (0, 0)) := hW ▸ blk_alloc (hs.hold (_, 0) List.mem_cons_self) _
  have hO : W.heap[O]? = some (.cells (cells 0) 23 (0, 0)) := by rw [hW, hOO]; exact heap_alloc_new _ _
  have hZ : Below w.heap.size w W := hW ▸ hs.bel.alloc hs.bel.size _
  have nR : w.heap.size + 2 < O := hlow (_, 0) List.mem_cons_self
  have hWO : w.heap.size ≤ O := by omega
  rw [← hW]
  clear hW hOO hlow hs T K u
  go_loopw [11] (fun iv wr => ∃ i : Nat, i ≤ 8 ∧ iv = .int .i64 i ∧ St W O (buildOn 0#128 16 (laneR 16 23 a b) i) wr) (fun iv _ => 8 - (intOf iv).toNat)
  case atStart => exact ⟨0, Nat.zero_le _, rfl, St.start hO⟩
  case round =>
    obtain ⟨i, hi, rfl, hs⟩ := hrel
    by_cases hlt : i < 8
    · obtain ⟨x, hxx⟩ : ∃ x, x = getN a 16 i := ⟨_, rfl⟩
      obtain ⟨y, hyy⟩ : ∃ x, x = getN b 16 i := ⟨_, rfl⟩
      have bx : x < 65536 := hxx ▸ getN_lt a 16 i
      have b_y : y < 65536 := hyy ▸ getN_lt b 16 i
      obtain ⟨s, hss⟩ : ∃ s, s = sgn 16 x := ⟨_, rfl⟩
      obtain ⟨t, htt⟩ : ∃ s, s = sgn 16 y := ⟨_, rfl⟩
      have GA := fun W => rget16z a i i W rfl hlt
      have GB := fun W => rget16z b i i W rfl hlt
      have SA := fun W => rsigned16z a i i W rfl hlt
      have SB := fun W => rsigned16z b i i W rfl hlt
      rw [← hxx] at GA SA
      rw [← hyy] at GB SB
      rw [← hss] at SA
      rw [← htt] at SB
      have HGA := Lib.hid GA
      have HGB := Lib.hid GB
      have HSA := Lib.hid SA
      have HSB := Lib.hid SB
      clear GA GB SA SB
      have HL1 : laneR 16 23 a b i = Pl.u64 (laneZ 16 23 x y s t) := by rw [hss, htt, hxx, hyy]; rfl
      have bs : -32768 ≤ s ∧ s < 32768 := by rw [hss]; unfold sgn; rw [show (2 : Nat) ^ (16 - 1) = 32768 from rfl, show (2 : Int) ^ 16 = 65536 from rfl]; split <;> omega
      have bt : -32768 ≤ t ∧ t < 32768 := by rw [htt]; unfold sgn; rw [show (2 : Nat) ^ (16 - 1) = 32768 from rfl, show (2 : Int) ^ 16 = 65536 from rfl]; split <;> omega
      have ex : x = (s % 65536).toNat := by rw [hss]; unfold sgn; rw [show (2 : Nat) ^ (16 - 1) = 32768 from rfl, show (2 : Int) ^ 16 = 65536 from rfl]; split <;> omega
      have ey : y = (t % 65536).toNat := by rw [htt]; unfold sgn; rw [show (2 : Nat) ^ (16 - 1) = 32768 from rfl, show (2 : Int) ^ 16 = 65536 from rfl]; split <;> omega
      clear hss htt hxx hyy
      by_cases hc : y < x
      · as_aux_lemma =>
        have HM : y % 65536 = laneR 16 23 a b i % 65536 := by
          rw [HL1, show laneZ 16 23 x y s t = min (x : Int) (y : Int) from rfl]
          unfold Pl.u64; omega
        have HE := Lib.hid (step_eq 16 (laneR 16 23 a b) 0#128 i y HM)
        have HZL : y < 2 ^ 64 := by first | exact u64_lt _ | omega
        have HZ2 := Lib.hid HZL
        clear HZL HM HL1
        have q : decide (y < x) = true := decide_eq_true hc
        clear hc
        clear ex ey bs bt bx b_y
        go_wp2_with (first | (go_at_call 34; ((with_reducible refine (rlanes16 _).mono ?_); rintro e w' ⟨rfl, rfl⟩)) | (with_reducible refine load_vec rfl _ rfl _ rfl _ (hs.kb.get hA (by omega)) ?_) | (with_reducible refine load_vec rfl _ rfl _ rfl _ (hs.kb.get hB (by omega)) ?_) | (with_reducible refine load_vec rfl _ rfl _ rfl _ hs.this ?_) | (go_at_call 35; (with_reducible refine (HGA.out _).mono ?_); rintro e u ⟨rfl, hb⟩; replace hs := hs.below hb; clear hb) | (go_at_call 35; (with_reducible refine (HGB.out _).mono ?_); rintro e u ⟨rfl, hb⟩; replace hs := hs.below hb; clear hb) | (go_at_call 44; (with_reducible refine (HSA.out _).mono ?_); rintro e u ⟨rfl, hb⟩; replace hs := hs.below hb; clear hb) | (go_at_call 44; (with_reducible refine (HSB.out _).mono ?_); rintro e u ⟨rfl, hb⟩; replace hs := hs.below hb; clear hb) | (go_at_call 45; (with_reducible refine (rhold_any _ _ _ _ (by decide)).mono ?_); rintro e u ⟨rfl, hb⟩; replace hs := hs.below hb; clear hb) | (go_at_call 36; (with_reducible refine (rset16z (buildOn 0#128 16 (laneR 16 23 a b) i) _ _ i y _ rfl rfl hlt HZ2.out).mono ?_); rintro e u ⟨rfl, hb⟩; replace hs := hs.below hb; clear hb) | (with_reducible refine store_vec rfl _ _ rfl O _ rfl rfl _ hs.this ?_; intro wq hq; replace hs := hs.sets hq; clear hq))
        go_roundw
        case rel => first | exact ⟨i + 1, by omega, by go_num, HE.out ▸ hs⟩ | ((repeat apply Exists.intro); exact ⟨⟨i + 1, by omega, by go_num, HE.out ▸ hs⟩, rfl⟩)
        case measure => (simp [intOf] <;> omega)
      · as_aux_lemma =>
        have HM : x % 65536 = laneR 16 23 a b i % 65536 := by
          rw [HL1, show laneZ 16 23 x y s t = min (x : Int) (y : Int) from rfl]
          unfold Pl.u64; omega
        have HE := Lib.hid (step_eq 16 (laneR 16 23 a b) 0#128 i x HM)
        have HZL : x < 2 ^ 64 := by first | exact u64_lt _ | omega
        have HZ2 := Lib.hid HZL
        clear HZL HM HL1
        have q : decide (y < x) = false := decide_eq_false hc
        clear hc
        clear ex ey bs bt bx b_y
        go_wp2_with (first | (go_at_call 34; ((with_reducible refine (rlanes16 _).mono ?_); rintro e w' ⟨rfl, rfl⟩)) | (with_reducible refine load_vec rfl _ rfl _ rfl _ (hs.kb.get hA (by omega)) ?_) | (with_reducible refine load_vec rfl _ rfl _ rfl _ (hs.kb.get hB (by omega)) ?_) | (with_reducible refine load_vec rfl _ rfl _ rfl _ hs.this ?_) | (go_at_call 35; (with_reducible refine (HGA.out _).mono ?_); rintro e u ⟨rfl, hb⟩; replace hs := hs.below hb; clear hb) | (go_at_call 35; (with_reducible refine (HGB.out _).mono ?_); rintro e u ⟨rfl, hb⟩; replace hs := hs.below hb; clear hb) | (go_at_call 44; (with_reducible refine (HSA.out _).mono ?_); rintro e u ⟨rfl, hb⟩; replace hs := hs.below hb; clear hb) | (go_at_call 44; (with_reducible refine (HSB.out _).mono ?_); rintro e u ⟨rfl, hb⟩; replace hs := hs.below hb; clear hb) | (go_at_call 45; (with_reducible refine (rhold_any _ _ _ _ (by decide)).mono ?_); rintro e u ⟨rfl, hb⟩; replace hs := hs.below hb; clear hb) | (go_at_call 36; (with_reducible refine (rset16z (buildOn 0#128 16 (laneR 16 23 a b) i) _ _ i x _ rfl rfl hlt HZ2.out).mono ?_); rintro e u ⟨rfl, hb⟩; replace hs := hs.below hb; clear hb) | (with_reducible refine store_vec rfl _ _ rfl O _ rfl rfl _ hs.this ?_; intro wq hq; replace hs := hs.sets hq; clear hq))
        go_roundw
        case rel => first | exact ⟨i + 1, by omega, by go_num, HE.out ▸ hs⟩ | ((repeat apply Exists.intro); exact ⟨⟨i + 1, by omega, by go_num, HE.out ▸ hs⟩, rfl⟩)
        case measure => (simp [intOf] <;> omega)
    · obtain rfl : i = 8 := by omega
      have hR' := hs.kb.get hR (by omega)
      go_wp2_with (first | (go_at_call 34; ((with_reducible refine (rlanes16 _).mono ?_); rintro e w' ⟨rfl, rfl⟩)) | (with_reducible refine load_vec rfl _ rfl _ rfl _ hs.this ?_) | (with_reducible refine store_vec rfl _ _ rfl (w.heap.size + 2) _ rfl rfl _ hR' ?_; intro wq hq))
      exact bodyPost_ret (results_vec_tmp rfl _ _ (w.heap.size + 2) _ _ rfl rfl hq.this) rfl ⟨rfl, (hs.kb.to_below hZ hWO).trans (hq.below.mono (by omega))⟩

set_option maxRecDepth 100000 in
set_option maxHeartbeats 4000000 in
theorem rbin_16_24 (a b : Vec) (w : World) : Calls Try.prog 31 #[.int .i64 64920, .agg (cells a), .agg (cells b)] w fun e w' => e = .returned (.tuple #[.agg (cells (vb 16 24 a b)), .int .i64 0]) ∧ Below w.heap.size w w' := by
  have hs : HL w [(w.heap.size + 2, 0), (w.heap.size + 1, b), (w.heap.size, a)] _ := HL.three w a b 0
  rw [cells_zero] at hs
  have T := Lib.hid (fun W => rwidth_any 64920 W (by decide))
  rw [show wF 64920 = 16 by decide] at T
  have K := Lib.hid (fun W => roff_some 64920 24 W (by decide) (by decide) (by decide))
  go_enter Try.func31, Try.ntmps31
  go_wp2_with (first | (go_at_call 30; (with_reducible refine (T.out _).mono ?_); rintro e u ⟨rfl, hb⟩; replace hs := hs.below hb; clear hb) | (go_at_call 33; (with_reducible refine (K.out _).mono ?_); rintro e u ⟨rfl, hb⟩; replace hs := hs.below hb; clear hb))
  rw [← cells_zero]
  obtain ⟨O, hOO⟩ : ∃ B, B = u.heap.size := ⟨_, rfl⟩
  have hlow := HL.low hs
  rw [← hOO] at hlow ⊢
  obtain ⟨W, hW⟩ : ∃ W, W = u.alloc (.cells (cells 0) 23) := ⟨_, rfl⟩
  have hA : W.heap[w.heap.size]? = some (.cells (cells a) 23 (0, 0)) := hW ▸ blk_alloc (hs.hold (_, a) (List.mem_cons_of_mem _ (List.mem_cons_of_mem _ List.mem_cons_self))) _
  have hB : W.heap[w.heap.size + 1]? = some (.cells (cells b) 23 (0, 0)) := hW ▸ blk_alloc (hs.hold (_, b) (List.mem_cons_of_mem _ List.mem_cons_self)) _
  have hR : W.heap[w.heap.size + 2]? = some (.cells (cells 0) 23 (0, 0)) := hW ▸ blk_alloc (hs.hold (_, 0) List.mem_cons_self) _
  have hO : W.heap[O]? = some (.cells (cells 0) 23 (0, 0)) := by rw [hW, hOO]; exact heap_alloc_new _ _
  have hZ : Below w.heap.size w W := hW ▸ hs.bel.alloc hs.bel.size _
  have nR : w.heap.size + 2 < O := hlow (_, 0) List.mem_cons_self
  have hWO : w.heap.size ≤ O := by omega
  rw [← hW]
  clear hW hOO hlow hs T K u
  go_loopw [11] (fun iv wr => ∃ i : Nat, i ≤ 8 ∧ iv = .int .i64 i ∧ St W O (buildOn 0#128 16 (laneR 16 24 a b) i) wr) (fun iv _ => 8 - (intOf iv).toNat)
  case atStart => exact ⟨0, Nat.zero_le _, rfl, St.start hO⟩
  case round =>
    obtain ⟨i, hi, rfl, hs⟩ := hrel
    by_cases hlt : i < 8
    · obtain ⟨x, hxx⟩ : ∃ x, x = getN a 16 i := ⟨_, rfl⟩
      obtain ⟨y, hyy⟩ : ∃ x, x = getN b 16 i := ⟨_, rfl⟩
      have bx : x < 65536 := hxx ▸ getN_lt a 16 i
      have b_y : y < 65536 := hyy ▸ getN_lt b 16 i
      obtain ⟨s, hss⟩ : ∃ s, s = sgn 16 x := ⟨_, rfl⟩
      obtain ⟨t, htt⟩ : ∃ s, s = sgn 16 y := ⟨_, rfl⟩
      have GA := fun W => rget16z a i i W rfl hlt
      have GB := fun W => rget16z b i i W rfl hlt
      have SA := fun W => rsigned16z a i i W rfl hlt
      have SB := fun W => rsigned16z b i i W rfl hlt
      rw [← hxx] at GA SA
      rw [← hyy] at GB SB
      rw [← hss] at SA
      rw [← htt] at SB
      have HGA := Lib.hid GA
      have HGB := Lib.hid GB
      have HSA := Lib.hid SA
      have HSB := Lib.hid SB
      clear GA GB SA SB
      have HL1 : laneR 16 24 a b i = Pl.u64 (laneZ 16 24 x y s t) := by rw [hss, htt, hxx, hyy]; rfl
      have bs : -32768 ≤ s ∧ s < 32768 := by rw [hss]; unfold sgn; rw [show (2 : Nat) ^ (16 - 1) = 32768 from rfl, show (2 : Int) ^ 16 = 65536 from rfl]; split <;> omega
      have bt : -32768 ≤ t ∧ t < 32768 := by rw [htt]; unfold sgn; rw [show (2 : Nat) ^ (16 - 1) = 32768 from rfl, show (2 : Int) ^ 16 = 65536 from rfl]; split <;> omega
      have ex : x = (s % 65536).toNat := by rw [hss]; unfold sgn; rw [show (2 : Nat) ^ (16 - 1) = 32768 from rfl, show (2 : Int) ^ 16 = 65536 from rfl]; split <;> omega
      have ey : y = (t % 65536).toNat := by rw [htt]; unfold sgn; rw [show (2 : Nat) ^ (16 - 1) = 32768 from rfl, show (2 : Int) ^ 16 = 65536 from rfl]; split <;> omega
      clear hss htt hxx hyy
      by_cases hc : s < t
      · as_aux_lemma =>
        have HM : y % 65536 = laneR 16 24 a b i % 65536 := by
          rw [HL1, show laneZ 16 24 x y s t = max s t from rfl]
          unfold Pl.u64; omega
        have HE := Lib.hid (step_eq 16 (laneR 16 24 a b) 0#128 i y HM)
        have HZL : y < 2 ^ 64 := by first | exact u64_lt _ | omega
        have HZ2 := Lib.hid HZL
        clear HZL HM HL1
        have q : decide (s < t) = true := decide_eq_true hc
        clear hc
        clear ex ey bs bt bx b_y
        go_wp2_with (first | (go_at_call 34; ((with_reducible refine (rlanes16 _).mono ?_); rintro e w' ⟨rfl, rfl⟩)) | (with_reducible refine load_vec rfl _ rfl _ rfl _ (hs.kb.get hA (by omega)) ?_) | (with_reducible refine load_vec rfl _ rfl _ rfl _ (hs.kb.get hB (by omega)) ?_) | (with_reducible refine load_vec rfl _ rfl _ rfl _ hs.this ?_) | (go_at_call 35; (with_reducible refine (HGA.out _).mono ?_); rintro e u ⟨rfl, hb⟩; replace hs := hs.below hb; clear hb) | (go_at_call 35; (with_reducible refine (HGB.out _).mono ?_); rintro e u ⟨rfl, hb⟩; replace hs := hs.below hb; clear hb) | (go_at_call 44; (with_reducible refine (HSA.out _).mono ?_); rintro e u ⟨rfl, hb⟩; replace hs := hs.below hb; clear hb) | (go_at_call 44; (with_reducible refine (HSB.out _).mono ?_); rintro e u ⟨rfl, hb⟩; replace hs := hs.below hb; clear hb) | (go_at_call 45; (with_reducible refine (rhold_any _ _ _ _ (by decide)).mono ?_); rintro e u ⟨rfl, hb⟩; replace hs := hs.below hb; clear hb) | (go_at_call 36; (with_reducible refine (rset16z (buildOn 0#128 16 (laneR 16 24 a b) i) _ _ i y _ rfl rfl hlt HZ2.out).mono ?_); rintro e u ⟨rfl, hb⟩; replace hs := hs.below hb; clear hb) | (with_reducible refine store_vec rfl _ _ rfl O _ rfl rfl _ hs.this ?_; intro wq hq; replace hs := hs.sets hq; clear hq))
        go_roundw
        case rel => first | exact ⟨i + 1, by omega, by go_num, HE.out ▸ hs⟩ | ((repeat apply Exists.intro); exact ⟨⟨i + 1, by omega, by go_num, HE.out ▸ hs⟩, rfl⟩)
        case measure => (simp [intOf] <;> omega)
      · as_aux_lemma =>
        have HM : x % 65536 = laneR 16 24 a b i % 65536 := by
          rw [HL1, show laneZ 16 24 x y s t = max s t from rfl]
          unfold Pl.u64; omega
        have HE := Lib.hid (step_eq 16 (laneR 16 24 a b) 0#128 i x HM)
        have HZL : x < 2 ^ 64 := by first | exact u64_lt _ | omega
        have HZ2 := Lib.hid HZL
        clear HZL HM HL1
        have q : decide (s < t) = false := decide_eq_false hc
        clear hc
        clear ex ey bs bt bx b_y
        go_wp2_with (first | (go_at_call 34; ((with_reducible refine (rlanes16 _).mono ?_); rintro e w' ⟨rfl, rfl⟩)) | (with_reducible refine load_vec rfl _ rfl _ rfl _ (hs.kb.get hA (by omega)) ?_) | (with_reducible refine load_vec rfl _ rfl _ rfl _ (hs.kb.get hB (by omega)) ?_) | (with_reducible refine load_vec rfl _ rfl _ rfl _ hs.this ?_) | (go_at_call 35; (with_reducible refine (HGA.out _).mono ?_); rintro e u ⟨rfl, hb⟩; replace hs := hs.below hb; clear hb) | (go_at_call 35; (with_reducible refine (HGB.out _).mono ?_); rintro e u ⟨rfl, hb⟩; replace hs := hs.below hb; clear hb) | (go_at_call 44; (with_reducible refine (HSA.out _).mono ?_); rintro e u ⟨rfl, hb⟩; replace hs := hs.below hb; clear hb) | (go_at_call 44; (with_reducible refine (HSB.out _).mono ?_); rintro e u ⟨rfl, hb⟩; replace hs := hs.below hb; clear hb) | (go_at_call 45; (with_reducible refine (rhold_any _ _ _ _ (by decide)).mono ?_); rintro e u ⟨rfl, hb⟩; replace hs := hs.below hb; clear hb) | (go_at_call 36; (with_reducible refine (rset16z (buildOn 0#128 16 (laneR 16 24 a b) i) _ _ i x _ rfl rfl hlt HZ2.out).mono ?_); rintro e u ⟨rfl, hb⟩; replace hs := hs.below hb; clear hb) | (with_reducible refine store_vec rfl _ _ rfl O _ rfl rfl _ hs.this ?_; intro wq hq; replace hs := hs.sets hq; clear hq))
        go_roundw
        case rel => first | exact ⟨i + 1, by omega, by go_num, HE.out ▸ hs⟩ | ((repeat apply Exists.intro); exact ⟨⟨i + 1, by omega, by go_num, HE.out ▸ hs⟩, rfl⟩)
        case measure => (simp [intOf] <;> omega)
    · obtain rfl : i = 8 := by omega
      have hR' := hs.kb.get hR (by omega)
      go_wp2_with (first | (go_at_call 34; ((with_reducible refine (rlanes16 _).mono ?_); rintro e w' ⟨rfl, rfl⟩)) | (with_reducible refine load_vec rfl _ rfl _ rfl _ hs.this ?_) | (with_reducible refine store_vec rfl _ _ rfl (w.heap.size + 2) _ rfl rfl _ hR' ?_; intro wq hq))
      exact bodyPost_ret (results_vec_tmp rfl _ _ (w.heap.size + 2) _ _ rfl rfl hq.this) rfl ⟨rfl, (hs.kb.to_below hZ hWO).trans (hq.below.mono (by omega))⟩

set_option maxRecDepth 100000 in
set_option maxHeartbeats 4000000 in
theorem rbin_16_25 (a b : Vec) (w : World) : Calls Try.prog 31 #[.int .i64 64921, .agg (cells a), .agg (cells b)] w fun e w' => e = .returned (.tuple #[.agg (cells (vb 16 25 a b)), .int .i64 0]) ∧ Below w.heap.size w w' := by
  have hs : HL w [(w.heap.size + 2, 0), (w.heap.size + 1, b), (w.heap.size, a)] _ := HL.three w a b 0
  rw [cells_zero] at hs
  have T := Lib.hid (fun W => rwidth_any 64921 W (by decide))
  rw [show wF 64921 = 16 by decide] at T
  have K := Lib.hid (fun W => roff_some 64921 25 W (by decide) (by decide) (by decide))
  go_enter Try.func31, Try.ntmps31
  go_wp2_with (first | (go_at_call 30; (with_reducible refine (T.out _).mono ?_); rintro e u ⟨rfl, hb⟩; replace hs := hs.below hb; clear hb) | (go_at_call 33; (with_reducible refine (K.out _).mono ?_); rintro e u ⟨rfl, hb⟩; replace hs := hs.below hb; clear hb))
  rw [← cells_zero]
  obtain ⟨O, hOO⟩ : ∃ B, B = u.heap.size := ⟨_, rfl⟩
  have hlow := HL.low hs
  rw [← hOO] at hlow ⊢
  obtain ⟨W, hW⟩ : ∃ W, W = u.alloc (.cells (cells 0) 23) := ⟨_, rfl⟩
  have hA : W.heap[w.heap.size]? = some (.cells (cells a) 23 (0, 0)) := hW ▸ blk_alloc (hs.hold (_, a) (List.mem_cons_of_mem _ (List.mem_cons_of_mem _ List.mem_cons_self))) _
  have hB : W.heap[w.heap.size + 1]? = some (.cells (cells b) 23 (0, 0)) := hW ▸ blk_alloc (hs.hold (_, b) (List.mem_cons_of_mem _ List.mem_cons_self)) _
  have hR : W.heap[w.heap.size + 2]? = some (.cells (cells 0) 23 (0, 0)) := hW ▸ blk_alloc (hs.hold (_, 0) List.mem_cons_self) _
  have hO : W.heap[O]? = some (.cells (cells 0) 23 (0, 0)) := by rw [hW, hOO]; exact heap_alloc_new _ _
  have hZ : Below w.heap.size w W := hW ▸ hs.bel.alloc hs.bel.size _
  have nR : w.heap.size + 2 < O := hlow (_, 0) List.mem_cons_self
  have hWO : w.heap.size ≤ O := by omega
  rw [← hW]
  clear hW hOO hlow hs T K u
  go_loopw [11] (fun iv wr => ∃ i : Nat, i ≤ 8 ∧ iv = .int .i64 i ∧ St W O (buildOn 0#128 16 (laneR 16 25 a b) i) wr) (fun iv _ => 8 - (intOf iv).toNat)
  case atStart => exact ⟨0, Nat.zero_le _, rfl, St.start hO⟩
  case round =>
    obtain ⟨i, hi, rfl, hs⟩ := hrel
    by_cases hlt : i < 8
    · obtain ⟨x, hxx⟩ : ∃ x, x = getN a 16 i := ⟨_, rfl⟩
      obtain ⟨y, hyy⟩ : ∃ x, x = getN b 16 i := ⟨_, rfl⟩
      have bx : x < 65536 := hxx ▸ getN_lt a 16 i
      have b_y : y < 65536 := hyy ▸ getN_lt b 16 i
      obtain ⟨s, hss⟩ : ∃ s, s = sgn 16 x := ⟨_, rfl⟩
      obtain ⟨t, htt⟩ : ∃ s, s = sgn 16 y := ⟨_, rfl⟩
      have GA := fun W => rget16z a i i W rfl hlt
      have GB := fun W => rget16z b i i W rfl hlt
      have SA := fun W => rsigned16z a i i W rfl hlt
      have SB := fun W => rsigned16z b i i W rfl hlt
      rw [← hxx] at GA SA
      rw [← hyy] at GB SB
      rw [← hss] at SA
      rw [← htt] at SB
      have HGA := Lib.hid GA
      have HGB := Lib.hid GB
      have HSA := Lib.hid SA
      have HSB := Lib.hid SB
      clear GA GB SA SB
      have HL1 : laneR 16 25 a b i = Pl.u64 (laneZ 16 25 x y s t) := by rw [hss, htt, hxx, hyy]; rfl
      have bs : -32768 ≤ s ∧ s < 32768 := by rw [hss]; unfold sgn; rw [show (2 : Nat) ^ (16 - 1) = 32768 from rfl, show (2 : Int) ^ 16 = 65536 from rfl]; split <;> omega
      have bt : -32768 ≤ t ∧ t < 32768 := by rw [htt]; unfold sgn; rw [show (2 : Nat) ^ (16 - 1) = 32768 from rfl, show (2 : Int) ^ 16 = 65536 from rfl]; split <;> omega
      have ex : x = (s % 65536).toNat := by rw [hss]; unfold sgn; rw [show (2 : Nat) ^ (16 - 1) = 32768 from rfl, show (2 : Int) ^ 16 = 65536 from rfl]; split <;> omega
      have ey : y = (t % 65536).toNat := by rw [htt]; unfold sgn; rw [show (2 : Nat) ^ (16 - 1) = 32768 from rfl, show (2 : Int) ^ 16 = 65536 from rfl]; split <;> omega
      clear hss htt hxx hyy
      by_cases hc : x < y
      · as_aux_lemma =>
        have HM : y % 65536 = laneR 16 25 a b i % 65536 := by
          rw [HL1, show laneZ 16 25 x y s t = max (x : Int) (y : Int) from rfl]
          unfold Pl.u64; omega
        have HE := Lib.hid (step_eq 16 (laneR 16 25 a b) 0#128 i y HM)
        have HZL : y < 2 ^ 64 := by first | exact u64_lt _ | omega
        have HZ2 := Lib.hid HZL
        clear HZL HM HL1
        have q : decide (x < y) = true := decide_eq_true hc
        clear hc
        clear ex ey bs bt bx b_y
        go_wp2_with (first | (go_at_call 34; ((with_reducible refine (rlanes16 _).mono ?_); rintro e w' ⟨rfl, rfl⟩)) | (with_reducible refine load_vec rfl _ rfl _ rfl _ (hs.kb.get hA (by omega)) ?_) | (with_reducible refine load_vec rfl _ rfl _ rfl _ (hs.kb.get hB (by omega)) ?_) | (with_reducible refine load_vec rfl _ rfl _ rfl _ hs.this ?_) | (go_at_call 35; (with_reducible refine (HGA.out _).mono ?_); rintro e u ⟨rfl, hb⟩; replace hs := hs.below hb; clear hb) | (go_at_call 35; (with_reducible refine (HGB.out _).mono ?_); rintro e u ⟨rfl, hb⟩; replace hs := hs.below hb; clear hb) | (go_at_call 44; (with_reducible refine (HSA.out _).mono ?_); rintro e u ⟨rfl, hb⟩; replace hs := hs.below hb; clear hb) | (go_at_call 44; (with_reducible refine (HSB.out _).mono ?_); rintro e u ⟨rfl, hb⟩; replace hs := hs.below hb; clear hb) | (go_at_call 45; (with_reducible refine (rhold_any _ _ _ _ (by decide)).mono ?_); rintro e u ⟨rfl, hb⟩; replace hs := hs.below hb; clear hb) | (go_at_call 36; (with_reducible refine (rset16z (buildOn 0#128 16 (laneR 16 25 a b) i) _ _ i y _ rfl rfl hlt HZ2.out).mono ?_); rintro e u ⟨rfl, hb⟩; replace hs := hs.below hb; clear hb) | (with_reducible refine store_vec rfl _ _ rfl O _ rfl rfl _ hs.this ?_; intro wq hq; replace hs := hs.sets hq; clear hq))
        go_roundw
        case rel => first | exact ⟨i + 1, by omega, by go_num, HE.out ▸ hs⟩ | ((repeat apply Exists.intro); exact ⟨⟨i + 1, by omega, by go_num, HE.out ▸ hs⟩, rfl⟩)
        case measure => (simp [intOf] <;> omega)
      · as_aux_lemma =>
        have HM : x % 65536 = laneR 16 25 a b i % 65536 := by
          rw [HL1, show laneZ 16 25 x y s t = max (x : Int) (y : Int) from rfl]
          unfold Pl.u64; omega
        have HE := Lib.hid (step_eq 16 (laneR 16 25 a b) 0#128 i x HM)
        have HZL : x < 2 ^ 64 := by first | exact u64_lt _ | omega
        have HZ2 := Lib.hid HZL
        clear HZL HM HL1
        have q : decide (x < y) = false := decide_eq_false hc
        clear hc
        clear ex ey bs bt bx b_y
        go_wp2_with (first | (go_at_call 34; ((with_reducible refine (rlanes16 _).mono ?_); rintro e w' ⟨rfl, rfl⟩)) | (with_reducible refine load_vec rfl _ rfl _ rfl _ (hs.kb.get hA (by omega)) ?_) | (with_reducible refine load_vec rfl _ rfl _ rfl _ (hs.kb.get hB (by omega)) ?_) | (with_reducible refine load_vec rfl _ rfl _ rfl _ hs.this ?_) | (go_at_call 35; (with_reducible refine (HGA.out _).mono ?_); rintro e u ⟨rfl, hb⟩; replace hs := hs.below hb; clear hb) | (go_at_call 35; (with_reducible refine (HGB.out _).mono ?_); rintro e u ⟨rfl, hb⟩; replace hs := hs.below hb; clear hb) | (go_at_call 44; (with_reducible refine (HSA.out _).mono ?_); rintro e u ⟨rfl, hb⟩; replace hs := hs.below hb; clear hb) | (go_at_call 44; (with_reducible refine (HSB.out _).mono ?_); rintro e u ⟨rfl, hb⟩; replace hs := hs.below hb; clear hb) | (go_at_call 45; (with_reducible refine (rhold_any _ _ _ _ (by decide)).mono ?_); rintro e u ⟨rfl, hb⟩; replace hs := hs.below hb; clear hb) | (go_at_call 36; (with_reducible refine (rset16z (buildOn 0#128 16 (laneR 16 25 a b) i) _ _ i x _ rfl rfl hlt HZ2.out).mono ?_); rintro e u ⟨rfl, hb⟩; replace hs := hs.below hb; clear hb) | (with_reducible refine store_vec rfl _ _ rfl O _ rfl rfl _ hs.this ?_; intro wq hq; replace hs := hs.sets hq; clear hq))
        go_roundw
        case rel => first | exact ⟨i + 1, by omega, by go_num, HE.out ▸ hs⟩ | ((repeat apply Exists.intro); exact ⟨⟨i + 1, by omega, by go_num, HE.out ▸ hs⟩, rfl⟩)
        case measure => (simp [intOf] <;> omega)
    · obtain rfl : i = 8 := by omega
      have hR' := hs.kb.get hR (by omega)
      go_wp2_with (first | (go_at_call 34; ((with_reducible refine (rlanes16 _).mono ?_); rintro e w' ⟨rfl, rfl⟩)) | (with_reducible refine load_vec rfl _ rfl _ rfl _ hs.this ?_) | (with_reducible refine store_vec rfl _ _ rfl (w.heap.size + 2) _ rfl rfl _ hR' ?_; intro wq hq))
      exact bodyPost_ret (results_vec_tmp rfl _ _ (w.heap.size + 2) _ _ rfl rfl hq.this) rfl ⟨rfl, (hs.kb.to_below hZ hWO).trans (hq.below.mono (by omega))⟩

set_option maxRecDepth 100000 in
set_option maxHeartbeats 4000000 in
theorem rbin_16_27 (a b : Vec) (w : World) : Calls Try.prog 31 #[.int .i64 64923, .agg (cells a), .agg (cells b)] w fun e w' => e = .returned (.tuple #[.agg (cells (vb 16 27 a b)), .int .i64 0]) ∧ Below w.heap.size w w' := by
  have hs : HL w [(w.heap.size + 2, 0), (w.heap.size + 1, b), (w.heap.size, a)] _ := HL.three w a b 0
  rw [cells_zero] at hs
  have T := Lib.hid (fun W => rwidth_any 64923 W (by decide))
  rw [show wF 64923 = 16 by decide] at T
  have K := Lib.hid (fun W => roff_some 64923 27 W (by decide) (by decide) (by decide))
  go_enter Try.func31, Try.ntmps31
  go_wp2_with (first | (go_at_call 30; (with_reducible refine (T.out _).mono ?_); rintro e u ⟨rfl, hb⟩; replace hs := hs.below hb; clear hb) | (go_at_call 33; (with_reducible refine (K.out _).mono ?_); rintro e u ⟨rfl, hb⟩; replace hs := hs.below hb; clear hb))
  rw [← cells_zero]
  obtain ⟨O, hOO⟩ : ∃ B, B = u.heap.size := ⟨_, rfl⟩
  have hlow := HL.low hs
  rw [← hOO] at hlow ⊢
  obtain ⟨W, hW⟩ : ∃ W, W = u.alloc (.cells (cells 0) 23) := ⟨_, rfl⟩
  have hA : W.heap[w.heap.size]? = some (.cells (cells a) 23 (0, 0)) := hW ▸ blk_alloc (hs.hold (_, a) (List.mem_cons_of_mem _ (List.mem_cons_of_mem _ List.mem_cons_self))) _
  have hB : W.heap[w.heap.size + 1]? = some (.cells (cells b) 23 (0, 0)) := hW ▸ blk_alloc (hs.hold (_, b) (List.mem_cons_of_mem _ List.mem_cons_self)) _
  have hR : W.heap[w.heap.size + 2]? = some (.cells (cells 0) 23 (0, 0)) := hW ▸ blk_alloc (hs.hold (_, 0) List.mem_cons_self) _
  have hO : W.heap[O]? = some (.cells (cells 0) 23 (0, 0)) := by rw [hW, hOO]; exact heap_alloc_new _ _
  have hZ : Below w.heap.size w W := hW ▸ hs.bel.alloc hs.bel.size _
  have nR : w.heap.size + 2 < O := hlow (_, 0) List.mem_cons_self
  have hWO : w.heap.size ≤ O := by omega
  rw [← hW]
  clear hW hOO hlow hs T K u
  go_loopw [11] (fun iv wr => ∃ i : Nat, i ≤ 8 ∧ iv = .int .i64 i ∧ St W O (buildOn 0#128 16 (laneR 16 27 a b) i) wr) (fun iv _ => 8 - (intOf iv).toNat)
  case atStart => exact ⟨0, Nat.zero_le _, rfl, St.start hO⟩
  case round =>
    obtain ⟨i, hi, rfl, hs⟩ := hrel
    by_cases hlt : i < 8
    · obtain ⟨x, hxx⟩ : ∃ x, x = getN a 16 i := ⟨_, rfl⟩
      obtain ⟨y, hyy⟩ : ∃ x, x = getN b 16 i := ⟨_, rfl⟩
      have bx : x < 65536 := hxx ▸ getN_lt a 16 i
      have b_y : y < 65536 := hyy ▸ getN_lt b 16 i
      obtain ⟨s, hss⟩ : ∃ s, s = sgn 16 x := ⟨_, rfl⟩
      obtain ⟨t, htt⟩ : ∃ s, s = sgn 16 y := ⟨_, rfl⟩
      have GA := fun W => rget16z a i i W rfl hlt
      have GB := fun W => rget16z b i i W rfl hlt
      have SA := fun W => rsigned16z a i i W rfl hlt
      have SB := fun W => rsigned16z b i i W rfl hlt
      rw [← hxx] at GA SA
      rw [← hyy] at GB SB
      rw [← hss] at SA
      rw [← htt] at SB
      have HGA := Lib.hid GA
      have HGB := Lib.hid GB
      have HSA := Lib.hid SA
      have HSB := Lib.hid SB
      clear GA GB SA SB
      have HL1 : laneR 16 27 a b i = Pl.u64 (laneZ 16 27 x y s t) := by rw [hss, htt, hxx, hyy]; rfl
      have bs : -32768 ≤ s ∧ s < 32768 := by rw [hss]; unfold sgn; rw [show (2 : Nat) ^ (16 - 1) = 32768 from rfl, show (2 : Int) ^ 16 = 65536 from rfl]; split <;> omega
      have bt : -32768 ≤ t ∧ t < 32768 := by rw [htt]; unfold sgn; rw [show (2 : Nat) ^ (16 - 1) = 32768 from rfl, show (2 : Int) ^ 16 = 65536 from rfl]; split <;> omega
      have ex : x = (s % 65536).toNat := by rw [hss]; unfold sgn; rw [show (2 : Nat) ^ (16 - 1) = 32768 from rfl, show (2 : Int) ^ 16 = 65536 from rfl]; split <;> omega
      have ey : y = (t % 65536).toNat := by rw [htt]; unfold sgn; rw [show (2 : Nat) ^ (16 - 1) = 32768 from rfl, show (2 : Int) ^ 16 = 65536 from rfl]; split <;> omega
      clear hss htt hxx hyy
      obtain ⟨Z, hZZ⟩ : ∃ Z, Z = (x + y + 1) / 2 := ⟨_, rfl⟩
      have HM : Z % 65536 = laneR 16 27 a b i % 65536 := by
        rw [HL1, show laneZ 16 27 x y s t = ((x : Int) + (y : Int) + 1) / 2 from rfl]
        unfold Pl.u64; omega
      have HE := Lib.hid (step_eq 16 (laneR 16 27 a b) 0#128 i Z HM)
      have HZL : Z < 2 ^ 64 := by first | exact u64_lt _ | omega
      have HZ2 := Lib.hid HZL
      clear HZL HM HL1
      have q : IntKind.u64.wrap ((x : Int) + (y : Int)) = (x : Int) + (y : Int) := IntWalk.u64_in _ (by omega)
      have q1 : IntKind.u64.wrap ((x : Int) + (y : Int) + 1) = (x : Int) + (y : Int) + 1 := IntWalk.u64_in _ (by omega)
      have q2 : ((x : Int) + (y : Int) + 1) / 2 = (Z : Int) := by omega
      have q4 : ((x : Int) + (y : Int) + 1).tdiv 2 = (Z : Int) := by rw [Int.tdiv_eq_ediv_of_nonneg (by omega)]; exact q2
      have q3 : IntKind.u64.wrap (Z : Int) = (Z : Int) := IntWalk.u64_in _ (by omega)
      clear hZZ
      clear ex ey bs bt bx b_y
      go_wp2_with (first | (go_at_call 34; ((with_reducible refine (rlanes16 _).mono ?_); rintro e w' ⟨rfl, rfl⟩)) | (with_reducible refine load_vec rfl _ rfl _ rfl _ (hs.kb.get hA (by omega)) ?_) | (with_reducible refine load_vec rfl _ rfl _ rfl _ (hs.kb.get hB (by omega)) ?_) | (with_reducible refine load_vec rfl _ rfl _ rfl _ hs.this ?_) | (go_at_call 35; (with_reducible refine (HGA.out _).mono ?_); rintro e u ⟨rfl, hb⟩; replace hs := hs.below hb; clear hb) | (go_at_call 35; (with_reducible refine (HGB.out _).mono ?_); rintro e u ⟨rfl, hb⟩; replace hs := hs.below hb; clear hb) | (go_at_call 44; (with_reducible refine (HSA.out _).mono ?_); rintro e u ⟨rfl, hb⟩; replace hs := hs.below hb; clear hb) | (go_at_call 44; (with_reducible refine (HSB.out _).mono ?_); rintro e u ⟨rfl, hb⟩; replace hs := hs.below hb; clear hb) | (go_at_call 45; (with_reducible refine (rhold_any _ _ _ _ (by decide)).mono ?_); rintro e u ⟨rfl, hb⟩; replace hs := hs.below hb; clear hb) | (go_at_call 36; (with_reducible refine (rset16z (buildOn 0#128 16 (laneR 16 27 a b) i) _ _ i Z _ rfl rfl hlt HZ2.out).mono ?_); rintro e u ⟨rfl, hb⟩; replace hs := hs.below hb; clear hb) | (with_reducible refine store_vec rfl _ _ rfl O _ rfl rfl _ hs.this ?_; intro wq hq; replace hs := hs.sets hq; clear hq))
      go_roundw
      case rel => first | exact ⟨i + 1, by omega, by go_num, HE.out ▸ hs⟩ | ((repeat apply Exists.intro); exact ⟨⟨i + 1, by omega, by go_num, HE.out ▸ hs⟩, rfl⟩)
      case measure => (simp [intOf] <;> omega)
    · obtain rfl : i = 8 := by omega
      have hR' := hs.kb.get hR (by omega)
      go_wp2_with (first | (go_at_call 34; ((with_reducible refine (rlanes16 _).mono ?_); rintro e w' ⟨rfl, rfl⟩)) | (with_reducible refine load_vec rfl _ rfl _ rfl _ hs.this ?_) | (with_reducible refine store_vec rfl _ _ rfl (w.heap.size + 2) _ rfl rfl _ hR' ?_; intro wq hq))
      exact bodyPost_ret (results_vec_tmp rfl _ _ (w.heap.size + 2) _ _ rfl rfl hq.this) rfl ⟨rfl, (hs.kb.to_below hZ hWO).trans (hq.below.mono (by omega))⟩

end Go.Proofs.Ytgemlndpmbeaeaa
