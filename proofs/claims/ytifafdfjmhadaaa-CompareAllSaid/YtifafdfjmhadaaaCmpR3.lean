/-
  plaitref06.Cmp: lanes of 64 bits.
-/
import Derived.Test.YtifafdfjmhadaaaCmpRP
set_option linter.unusedSimpArgs false
set_option linter.unusedVariables false
namespace Go.Proofs.Ytifafdfjmhadaaa
open Go.RowKit Pl

set_option maxRecDepth 100000 in
set_option maxHeartbeats 8000000 in
theorem rcmp_64_0 (a b : Vec) (w : World) :
    Calls Try.prog 12 #[.int .i64 64982, .agg (cells a), .agg (cells b)] w fun e w' => e = .returned (.tuple #[.agg (cells (CV 64 0 a b)), .int .i64 0]) ∧ Below w.heap.size w w' := by
  go_enter Try.func12, Try.ntmps12
  go_wp2_with fail
  rw [← cells_zero]
  obtain ⟨W0, hW⟩ : ∃ W0, W0 = ((w.alloc (.cells (cells a) 23)).alloc (.cells (cells b) 23)).alloc (.cells (cells 0) 23) := ⟨_, rfl⟩
  have hA0 : W0.heap[w.heap.size]? = some (.cells (cells a) 23 (0, 0)) := hW ▸ heap_alloc3_0 _ _ _ _
  have hB0 : W0.heap[w.heap.size + 1]? = some (.cells (cells b) 23 (0, 0)) := hW ▸ heap_alloc3_1 _ _ _ _
  have hR0 : W0.heap[w.heap.size + 2]? = some (.cells (cells 0) 23 (0, 0)) := hW ▸ heap_alloc3_2 _ _ _ _
  have hZ0 : Below w.heap.size w W0 := hW ▸ below_alloc3 _ _ _ _
  have hN : W0.heap.size = w.heap.size + 3 := by rw [hW]; simp
  rw [← hW]
  clear hW
  go_loopw [9, 10, 11] (fun wv nv ov wr => ∃ i : Nat, i ≤ 3 ∧ ov = .int .i64 i ∧ wv = .int .i64 0 ∧ nv = .int .i64 0 ∧ W0 = wr) (fun _ _ ov _ => 3 - (intOf ov).toNat)
  case atStart => exact ⟨0, by decide, rfl, rfl, rfl, rfl⟩
  case round =>
    obtain ⟨i, hi, rfl, rfl, rfl, rfl⟩ := hrel
    obtain rfl | rfl | rfl | rfl : i = 0 ∨ i = 1 ∨ i = 2 ∨ i = 3 := by omega
    · as_aux_lemma =>
      go_wp2_with fail
      go_roundw
      case rel => first | exact ⟨1, by decide, rfl, rfl, rfl, (by first | trivial | rfl)⟩ | ((repeat apply Exists.intro); exact ⟨⟨1, by decide, rfl, rfl, rfl, (by first | trivial | rfl)⟩, rfl⟩)
      case measure => (simp [intOf] <;> omega)
    · as_aux_lemma =>
      go_wp2_with fail
      go_roundw
      case rel => first | exact ⟨2, by decide, rfl, rfl, rfl, (by first | trivial | rfl)⟩ | ((repeat apply Exists.intro); exact ⟨⟨2, by decide, rfl, rfl, rfl, (by first | trivial | rfl)⟩, rfl⟩)
      case measure => (simp [intOf] <;> omega)
    · as_aux_lemma =>
      go_wp2_with fail
      go_roundw
      case rel => first | exact ⟨3, by decide, rfl, rfl, rfl, (by first | trivial | rfl)⟩ | ((repeat apply Exists.intro); exact ⟨⟨3, by decide, rfl, rfl, rfl, (by first | trivial | rfl)⟩, rfl⟩)
      case measure => (simp [intOf] <;> omega)
    · go_wp2_with fail
      rw [← cells_zero]
      try rw [hN]
      obtain ⟨W, hW⟩ : ∃ W1, W1 = W0.alloc (.cells (cells 0) 23) := ⟨_, rfl⟩
      have hA : W.heap[w.heap.size]? = some (.cells (cells a) 23 (0, 0)) := hW ▸ blk_alloc hA0 _
      have hB : W.heap[w.heap.size + 1]? = some (.cells (cells b) 23 (0, 0)) := hW ▸ blk_alloc hB0 _
      have hR : W.heap[w.heap.size + 2]? = some (.cells (cells 0) 23 (0, 0)) := hW ▸ blk_alloc hR0 _
      have hO : W.heap[w.heap.size + 3]? = some (.cells (cells 0) 23 (0, 0)) := by rw [hW, ← hN]; exact heap_alloc_new _ _
      have hZ : Below w.heap.size w W := hW ▸ hZ0.alloc (by omega) _
      rw [← hW]
      clear hW hA0 hB0 hR0 hZ0 hN
      go_loopw [14] (fun iv wr => ∃ i : Nat, i ≤ 2 ∧ iv = .int .i64 i ∧ St W (w.heap.size + 3) (buildOn 0 64 (mskN 64 0 a b) i) wr) (fun iv _ => 2 - (intOf iv).toNat)
      case atStart => exact ⟨0, Nat.zero_le _, rfl, St.start hO⟩
      case round =>
        obtain ⟨i, hi, rfl, hs⟩ := hrel
        by_cases hlt : i < 2
        · as_aux_lemma =>
            obtain ⟨s, hsx⟩ : ∃ s, s = sgn 64 (getN a 64 i) := ⟨_, rfl⟩
            obtain ⟨t, htx⟩ : ∃ t, t = sgn 64 (getN b 64 i) := ⟨_, rfl⟩
            have GA := fun W => rsigned64z a i i W rfl hlt
            have GB := fun W => rsigned64z b i i W rfl hlt
            rw [← hsx] at GA
            rw [← htx] at GB
            have HGA := Lib.hid GA
            have HGB := Lib.hid GB
            clear GA GB
            have HM : ∀ v, holdC 0 s t = v → mskN 64 0 a b i = if v = true then 18446744073709551615 else 0 := fun v hv => by unfold mskN; rw [← hsx, ← htx, hv]
            clear hsx htx
            rcases (show s < t ∨ t < s ∨ s = t by omega) with hc1 | hc1 | hc1
            · as_aux_lemma =>
              have hm : mskN 64 0 a b i = 0 := HM false (by show decide (s = t) = _; simp; omega)
              clear HM
              have l1 : decide (s < t) = true := decide_eq_true (by omega)
              have l2 : decide (t < s) = false := decide_eq_false (by omega)
              clear hc1
              have e2 : buildOn 0 64 (mskN 64 0 a b) (i + 1) = buildOn 0 64 (mskN 64 0 a b) i := msk_zero 64 _ i hlt hm
              have HE2 := Lib.hid e2
              clear e2 hm
              go_wp2_with (first | (with_reducible refine load_vec rfl _ rfl _ rfl _ (hs.kb.get hA (by omega)) ?_) | (with_reducible refine load_vec rfl _ rfl _ rfl _ (hs.kb.get hB (by omega)) ?_) | (go_at_call 29; (with_reducible refine (HGA.out _).mono ?_); rintro e u2 ⟨rfl, hb⟩; replace hs := hs.below hb; clear hb) | (go_at_call 29; (with_reducible refine (HGB.out _).mono ?_); rintro e u2 ⟨rfl, hb⟩; replace hs := hs.below hb; clear hb))
              go_loopw [20] (fun jv wr => jv = .int .i64 0 ∧ St W (w.heap.size + 3) (buildOn 0 64 (mskN 64 0 a b) i) wr) (fun jv _ => 0)
              case atStart => exact ⟨rfl, hs⟩
              case round =>
                clear hs
                obtain ⟨rfl, hs⟩ := hrel
                go_wp2_with fail
                go_roundw
                case rel => first | exact ⟨i + 1, by omega, by go_num, St.eqX HE2.out hs⟩ | ((repeat apply Exists.intro); exact ⟨⟨i + 1, by omega, by go_num, St.eqX HE2.out hs⟩, rfl⟩)
                case measure => (simp [intOf] <;> omega)
            · as_aux_lemma =>
              have hm : mskN 64 0 a b i = 0 := HM false (by show decide (s = t) = _; simp; omega)
              clear HM
              have l1 : decide (s < t) = false := decide_eq_false (by omega)
              have l2 : decide (t < s) = true := decide_eq_true (by omega)
              clear hc1
              have e2 : buildOn 0 64 (mskN 64 0 a b) (i + 1) = buildOn 0 64 (mskN 64 0 a b) i := msk_zero 64 _ i hlt hm
              have HE2 := Lib.hid e2
              clear e2 hm
              go_wp2_with (first | (with_reducible refine load_vec rfl _ rfl _ rfl _ (hs.kb.get hA (by omega)) ?_) | (with_reducible refine load_vec rfl _ rfl _ rfl _ (hs.kb.get hB (by omega)) ?_) | (go_at_call 29; (with_reducible refine (HGA.out _).mono ?_); rintro e u2 ⟨rfl, hb⟩; replace hs := hs.below hb; clear hb) | (go_at_call 29; (with_reducible refine (HGB.out _).mono ?_); rintro e u2 ⟨rfl, hb⟩; replace hs := hs.below hb; clear hb))
              go_loopw [20] (fun jv wr => jv = .int .i64 0 ∧ St W (w.heap.size + 3) (buildOn 0 64 (mskN 64 0 a b) i) wr) (fun jv _ => 0)
              case atStart => exact ⟨rfl, hs⟩
              case round =>
                clear hs
                obtain ⟨rfl, hs⟩ := hrel
                go_wp2_with fail
                go_roundw
                case rel => first | exact ⟨i + 1, by omega, by go_num, St.eqX HE2.out hs⟩ | ((repeat apply Exists.intro); exact ⟨⟨i + 1, by omega, by go_num, St.eqX HE2.out hs⟩, rfl⟩)
                case measure => (simp [intOf] <;> omega)
            · as_aux_lemma =>
              have hm : mskN 64 0 a b i = 18446744073709551615 := HM true (by show decide (s = t) = _; simp; omega)
              clear HM
              have l1 : decide (s < t) = false := decide_eq_false (by omega)
              have l2 : decide (t < s) = false := decide_eq_false (by omega)
              clear hc1
              go_wp2_with (first | (with_reducible refine load_vec rfl _ rfl _ rfl _ (hs.kb.get hA (by omega)) ?_) | (with_reducible refine load_vec rfl _ rfl _ rfl _ (hs.kb.get hB (by omega)) ?_) | (go_at_call 29; (with_reducible refine (HGA.out _).mono ?_); rintro e u2 ⟨rfl, hb⟩; replace hs := hs.below hb; clear hb) | (go_at_call 29; (with_reducible refine (HGB.out _).mono ?_); rintro e u2 ⟨rfl, hb⟩; replace hs := hs.below hb; clear hb))
              go_loopw [20] (fun jv wr => ∃ j : Nat, j ≤ 8 ∧ jv = .int .i64 j ∧ St W (w.heap.size + 3) (putAt (buildOn 0 64 (mskN 64 0 a b) i) (8 * (i * 8)) (8 * j) 18446744073709551615) wr) (fun jv _ => 8 - (intOf jv).toNat)
              case atStart => exact ⟨0, Nat.zero_le _, rfl, by rw [putAt_zero _ _ _ (by omega)]; exact hs⟩
              case round =>
                clear hs
                obtain ⟨j, hj, rfl, hs⟩ := hrel
                by_cases hjl : j < 8
                · have q1 : IntKind.i64.wrap ((i : Int) * 64) = i * 64 := IntWalk.i64_in _ (by omega)
                  have q2 : (i : Int) * 64 / 8 = ((i * 8 : Nat) : Int) := by omega
                  have q3 : (255 : Int) = ((18446744073709551615 / 2 ^ (8 * j) % 256 : Nat) : Int) := by rw [ones_byte j (by omega)]; rfl
                  have hq3 := Lib.hid q3
                  clear q3
                  go_wp2_with (with_reducible refine store_byte rfl _ _ rfl (w.heap.size + 3) (i * 8 + j) _ (18446744073709551615 / 2 ^ (8 * j)) rfl rfl _ hs.this (by omega) hq3.out ?_; intro wq hq)
                  go_roundw
                  case rel =>
                    first | refine ⟨j + 1, by omega, by go_num, ?_⟩ | ((repeat apply Exists.intro); refine ⟨⟨j + 1, by omega, by go_num, ?_⟩, rfl⟩)
                    have := hs.sets hq
                    rw [show 8 * (i * 8 + j) = 8 * (i * 8) + 8 * j by omega, putAt_more _ _ _ _ _ (by omega)] at this
                    exact this
                  case measure => (simp [intOf] <;> omega)
                · obtain rfl : j = 8 := by omega
                  have e2 : putAt (buildOn 0 64 (mskN 64 0 a b) i) (8 * (i * 8)) (8 * 8) 18446744073709551615 = buildOn 0 64 (mskN 64 0 a b) (i + 1) := by
                    rw [buildOn, hm, show 8 * (i * 8) = 64 * i by omega]; rfl
                  rw [e2] at hs
                  clear e2 hm
                  go_wp2_with fail
                  go_roundw
                  case rel => first | exact ⟨i + 1, by omega, by go_num, hs⟩ | ((repeat apply Exists.intro); exact ⟨⟨i + 1, by omega, by go_num, hs⟩, rfl⟩)
                  case measure => (simp [intOf] <;> omega)
        · obtain rfl : i = 2 := by omega
          have hR' := hs.kb.get hR (by omega)
          go_wp2_with (first | (with_reducible refine load_vec rfl _ rfl _ rfl _ hs.this ?_) | (with_reducible refine store_vec rfl _ _ rfl (w.heap.size + 2) _ rfl rfl _ hR' ?_; intro wq hq))
          exact bodyPost_ret (results_vec_tmp rfl _ _ (w.heap.size + 2) _ _ rfl rfl hq.this) rfl ⟨rfl, (hs.kb.to_below hZ (by omega)).trans (hq.below.mono (by omega))⟩
set_option maxRecDepth 100000 in
set_option maxHeartbeats 8000000 in
theorem rcmp_64_1 (a b : Vec) (w : World) :
    Calls Try.prog 12 #[.int .i64 64983, .agg (cells a), .agg (cells b)] w fun e w' => e = .returned (.tuple #[.agg (cells (CV 64 1 a b)), .int .i64 0]) ∧ Below w.heap.size w w' := by
  go_enter Try.func12, Try.ntmps12
  go_wp2_with fail
  rw [← cells_zero]
  obtain ⟨W0, hW⟩ : ∃ W0, W0 = ((w.alloc (.cells (cells a) 23)).alloc (.cells (cells b) 23)).alloc (.cells (cells 0) 23) := ⟨_, rfl⟩
  have hA0 : W0.heap[w.heap.size]? = some (.cells (cells a) 23 (0, 0)) := hW ▸ heap_alloc3_0 _ _ _ _
  have hB0 : W0.heap[w.heap.size + 1]? = some (.cells (cells b) 23 (0, 0)) := hW ▸ heap_alloc3_1 _ _ _ _
  have hR0 : W0.heap[w.heap.size + 2]? = some (.cells (cells 0) 23 (0, 0)) := hW ▸ heap_alloc3_2 _ _ _ _
  have hZ0 : Below w.heap.size w W0 := hW ▸ below_alloc3 _ _ _ _
  have hN : W0.heap.size = w.heap.size + 3 := by rw [hW]; simp
  rw [← hW]
  clear hW
  go_loopw [9, 10, 11] (fun wv nv ov wr => ∃ i : Nat, i ≤ 3 ∧ ov = .int .i64 i ∧ wv = .int .i64 0 ∧ nv = .int .i64 0 ∧ W0 = wr) (fun _ _ ov _ => 3 - (intOf ov).toNat)
  case atStart => exact ⟨0, by decide, rfl, rfl, rfl, rfl⟩
  case round =>
    obtain ⟨i, hi, rfl, rfl, rfl, rfl⟩ := hrel
    obtain rfl | rfl | rfl | rfl : i = 0 ∨ i = 1 ∨ i = 2 ∨ i = 3 := by omega
    · as_aux_lemma =>
      go_wp2_with fail
      go_roundw
      case rel => first | exact ⟨1, by decide, rfl, rfl, rfl, (by first | trivial | rfl)⟩ | ((repeat apply Exists.intro); exact ⟨⟨1, by decide, rfl, rfl, rfl, (by first | trivial | rfl)⟩, rfl⟩)
      case measure => (simp [intOf] <;> omega)
    · as_aux_lemma =>
      go_wp2_with fail
      go_roundw
      case rel => first | exact ⟨2, by decide, rfl, rfl, rfl, (by first | trivial | rfl)⟩ | ((repeat apply Exists.intro); exact ⟨⟨2, by decide, rfl, rfl, rfl, (by first | trivial | rfl)⟩, rfl⟩)
      case measure => (simp [intOf] <;> omega)
    · as_aux_lemma =>
      go_wp2_with fail
      go_roundw
      case rel => first | exact ⟨3, by decide, rfl, rfl, rfl, (by first | trivial | rfl)⟩ | ((repeat apply Exists.intro); exact ⟨⟨3, by decide, rfl, rfl, rfl, (by first | trivial | rfl)⟩, rfl⟩)
      case measure => (simp [intOf] <;> omega)
    · go_wp2_with fail
      rw [← cells_zero]
      try rw [hN]
      obtain ⟨W, hW⟩ : ∃ W1, W1 = W0.alloc (.cells (cells 0) 23) := ⟨_, rfl⟩
      have hA : W.heap[w.heap.size]? = some (.cells (cells a) 23 (0, 0)) := hW ▸ blk_alloc hA0 _
      have hB : W.heap[w.heap.size + 1]? = some (.cells (cells b) 23 (0, 0)) := hW ▸ blk_alloc hB0 _
      have hR : W.heap[w.heap.size + 2]? = some (.cells (cells 0) 23 (0, 0)) := hW ▸ blk_alloc hR0 _
      have hO : W.heap[w.heap.size + 3]? = some (.cells (cells 0) 23 (0, 0)) := by rw [hW, ← hN]; exact heap_alloc_new _ _
      have hZ : Below w.heap.size w W := hW ▸ hZ0.alloc (by omega) _
      rw [← hW]
      clear hW hA0 hB0 hR0 hZ0 hN
      go_loopw [14] (fun iv wr => ∃ i : Nat, i ≤ 2 ∧ iv = .int .i64 i ∧ St W (w.heap.size + 3) (buildOn 0 64 (mskN 64 1 a b) i) wr) (fun iv _ => 2 - (intOf iv).toNat)
      case atStart => exact ⟨0, Nat.zero_le _, rfl, St.start hO⟩
      case round =>
        obtain ⟨i, hi, rfl, hs⟩ := hrel
        by_cases hlt : i < 2
        · as_aux_lemma =>
            obtain ⟨s, hsx⟩ : ∃ s, s = sgn 64 (getN a 64 i) := ⟨_, rfl⟩
            obtain ⟨t, htx⟩ : ∃ t, t = sgn 64 (getN b 64 i) := ⟨_, rfl⟩
            have GA := fun W => rsigned64z a i i W rfl hlt
            have GB := fun W => rsigned64z b i i W rfl hlt
            rw [← hsx] at GA
            rw [← htx] at GB
            have HGA := Lib.hid GA
            have HGB := Lib.hid GB
            clear GA GB
            have HM : ∀ v, holdC 1 s t = v → mskN 64 1 a b i = if v = true then 18446744073709551615 else 0 := fun v hv => by unfold mskN; rw [← hsx, ← htx, hv]
            clear hsx htx
            rcases (show s < t ∨ t < s ∨ s = t by omega) with hc1 | hc1 | hc1
            · as_aux_lemma =>
              have hm : mskN 64 1 a b i = 18446744073709551615 := HM true (by show (!decide (s = t)) = _; simp; omega)
              clear HM
              have l1 : decide (s < t) = true := decide_eq_true (by omega)
              have l2 : decide (t < s) = false := decide_eq_false (by omega)
              clear hc1
              go_wp2_with (first | (with_reducible refine load_vec rfl _ rfl _ rfl _ (hs.kb.get hA (by omega)) ?_) | (with_reducible refine load_vec rfl _ rfl _ rfl _ (hs.kb.get hB (by omega)) ?_) | (go_at_call 29; (with_reducible refine (HGA.out _).mono ?_); rintro e u2 ⟨rfl, hb⟩; replace hs := hs.below hb; clear hb) | (go_at_call 29; (with_reducible refine (HGB.out _).mono ?_); rintro e u2 ⟨rfl, hb⟩; replace hs := hs.below hb; clear hb))
              go_loopw [20] (fun jv wr => ∃ j : Nat, j ≤ 8 ∧ jv = .int .i64 j ∧ St W (w.heap.size + 3) (putAt (buildOn 0 64 (mskN 64 1 a b) i) (8 * (i * 8)) (8 * j) 18446744073709551615) wr) (fun jv _ => 8 - (intOf jv).toNat)
              case atStart => exact ⟨0, Nat.zero_le _, rfl, by rw [putAt_zero _ _ _ (by omega)]; exact hs⟩
              case round =>
                clear hs
                obtain ⟨j, hj, rfl, hs⟩ := hrel
                by_cases hjl : j < 8
                · have q1 : IntKind.i64.wrap ((i : Int) * 64) = i * 64 := IntWalk.i64_in _ (by omega)
                  have q2 : (i : Int) * 64 / 8 = ((i * 8 : Nat) : Int) := by omega
                  have q3 : (255 : Int) = ((18446744073709551615 / 2 ^ (8 * j) % 256 : Nat) : Int) := by rw [ones_byte j (by omega)]; rfl
                  have hq3 := Lib.hid q3
                  clear q3
                  go_wp2_with (with_reducible refine store_byte rfl _ _ rfl (w.heap.size + 3) (i * 8 + j) _ (18446744073709551615 / 2 ^ (8 * j)) rfl rfl _ hs.this (by omega) hq3.out ?_; intro wq hq)
                  go_roundw
                  case rel =>
                    first | refine ⟨j + 1, by omega, by go_num, ?_⟩ | ((repeat apply Exists.intro); refine ⟨⟨j + 1, by omega, by go_num, ?_⟩, rfl⟩)
                    have := hs.sets hq
                    rw [show 8 * (i * 8 + j) = 8 * (i * 8) + 8 * j by omega, putAt_more _ _ _ _ _ (by omega)] at this
                    exact this
                  case measure => (simp [intOf] <;> omega)
                · obtain rfl : j = 8 := by omega
                  have e2 : putAt (buildOn 0 64 (mskN 64 1 a b) i) (8 * (i * 8)) (8 * 8) 18446744073709551615 = buildOn 0 64 (mskN 64 1 a b) (i + 1) := by
                    rw [buildOn, hm, show 8 * (i * 8) = 64 * i by omega]; rfl
                  rw [e2] at hs
                  clear e2 hm
                  go_wp2_with fail
                  go_roundw
                  case rel => first | exact ⟨i + 1, by omega, by go_num, hs⟩ | ((repeat apply Exists.intro); exact ⟨⟨i + 1, by omega, by go_num, hs⟩, rfl⟩)
                  case measure => (simp [intOf] <;> omega)
            · as_aux_lemma =>
              have hm : mskN 64 1 a b i = 18446744073709551615 := HM true (by show (!decide (s = t)) = _; simp; omega)
              clear HM
              have l1 : decide (s < t) = false := decide_eq_false (by omega)
              have l2 : decide (t < s) = true := decide_eq_true (by omega)
              clear hc1
              go_wp2_with (first | (with_reducible refine load_vec rfl _ rfl _ rfl _ (hs.kb.get hA (by omega)) ?_) | (with_reducible refine load_vec rfl _ rfl _ rfl _ (hs.kb.get hB (by omega)) ?_) | (go_at_call 29; (with_reducible refine (HGA.out _).mono ?_); rintro e u2 ⟨rfl, hb⟩; replace hs := hs.below hb; clear hb) | (go_at_call 29; (with_reducible refine (HGB.out _).mono ?_); rintro e u2 ⟨rfl, hb⟩; replace hs := hs.below hb; clear hb))
              go_loopw [20] (fun jv wr => ∃ j : Nat, j ≤ 8 ∧ jv = .int .i64 j ∧ St W (w.heap.size + 3) (putAt (buildOn 0 64 (mskN 64 1 a b) i) (8 * (i * 8)) (8 * j) 18446744073709551615) wr) (fun jv _ => 8 - (intOf jv).toNat)
              case atStart => exact ⟨0, Nat.zero_le _, rfl, by rw [putAt_zero _ _ _ (by omega)]; exact hs⟩
              case round =>
                clear hs
                obtain ⟨j, hj, rfl, hs⟩ := hrel
                by_cases hjl : j < 8
                · have q1 : IntKind.i64.wrap ((i : Int) * 64) = i * 64 := IntWalk.i64_in _ (by omega)
                  have q2 : (i : Int) * 64 / 8 = ((i * 8 : Nat) : Int) := by omega
                  have q3 : (255 : Int) = ((18446744073709551615 / 2 ^ (8 * j) % 256 : Nat) : Int) := by rw [ones_byte j (by omega)]; rfl
                  have hq3 := Lib.hid q3
                  clear q3
                  go_wp2_with (with_reducible refine store_byte rfl _ _ rfl (w.heap.size + 3) (i * 8 + j) _ (18446744073709551615 / 2 ^ (8 * j)) rfl rfl _ hs.this (by omega) hq3.out ?_; intro wq hq)
                  go_roundw
                  case rel =>
                    first | refine ⟨j + 1, by omega, by go_num, ?_⟩ | ((repeat apply Exists.intro); refine ⟨⟨j + 1, by omega, by go_num, ?_⟩, rfl⟩)
                    have := hs.sets hq
                    rw [show 8 * (i * 8 + j) = 8 * (i * 8) + 8 * j by omega, putAt_more _ _ _ _ _ (by omega)] at this
                    exact this
                  case measure => (simp [intOf] <;> omega)
                · obtain rfl : j = 8 := by omega
                  have e2 : putAt (buildOn 0 64 (mskN 64 1 a b) i) (8 * (i * 8)) (8 * 8) 18446744073709551615 = buildOn 0 64 (mskN 64 1 a b) (i + 1) := by
                    rw [buildOn, hm, show 8 * (i * 8) = 64 * i by omega]; rfl
                  rw [e2] at hs
                  clear e2 hm
                  go_wp2_with fail
                  go_roundw
                  case rel => first | exact ⟨i + 1, by omega, by go_num, hs⟩ | ((repeat apply Exists.intro); exact ⟨⟨i + 1, by omega, by go_num, hs⟩, rfl⟩)
                  case measure => (simp [intOf] <;> omega)
            · as_aux_lemma =>
              have hm : mskN 64 1 a b i = 0 := HM false (by show (!decide (s = t)) = _; simp; omega)
              clear HM
              have l1 : decide (s < t) = false := decide_eq_false (by omega)
              have l2 : decide (t < s) = false := decide_eq_false (by omega)
              clear hc1
              have e2 : buildOn 0 64 (mskN 64 1 a b) (i + 1) = buildOn 0 64 (mskN 64 1 a b) i := msk_zero 64 _ i hlt hm
              have HE2 := Lib.hid e2
              clear e2 hm
              go_wp2_with (first | (with_reducible refine load_vec rfl _ rfl _ rfl _ (hs.kb.get hA (by omega)) ?_) | (with_reducible refine load_vec rfl _ rfl _ rfl _ (hs.kb.get hB (by omega)) ?_) | (go_at_call 29; (with_reducible refine (HGA.out _).mono ?_); rintro e u2 ⟨rfl, hb⟩; replace hs := hs.below hb; clear hb) | (go_at_call 29; (with_reducible refine (HGB.out _).mono ?_); rintro e u2 ⟨rfl, hb⟩; replace hs := hs.below hb; clear hb))
              go_loopw [20] (fun jv wr => jv = .int .i64 0 ∧ St W (w.heap.size + 3) (buildOn 0 64 (mskN 64 1 a b) i) wr) (fun jv _ => 0)
              case atStart => exact ⟨rfl, hs⟩
              case round =>
                clear hs
                obtain ⟨rfl, hs⟩ := hrel
                go_wp2_with fail
                go_roundw
                case rel => first | exact ⟨i + 1, by omega, by go_num, St.eqX HE2.out hs⟩ | ((repeat apply Exists.intro); exact ⟨⟨i + 1, by omega, by go_num, St.eqX HE2.out hs⟩, rfl⟩)
                case measure => (simp [intOf] <;> omega)
        · obtain rfl : i = 2 := by omega
          have hR' := hs.kb.get hR (by omega)
          go_wp2_with (first | (with_reducible refine load_vec rfl _ rfl _ rfl _ hs.this ?_) | (with_reducible refine store_vec rfl _ _ rfl (w.heap.size + 2) _ rfl rfl _ hR' ?_; intro wq hq))
          exact bodyPost_ret (results_vec_tmp rfl _ _ (w.heap.size + 2) _ _ rfl rfl hq.this) rfl ⟨rfl, (hs.kb.to_below hZ (by omega)).trans (hq.below.mono (by omega))⟩
set_option maxRecDepth 100000 in
set_option maxHeartbeats 8000000 in
theorem rcmp_64_2 (a b : Vec) (w : World) :
    Calls Try.prog 12 #[.int .i64 64984, .agg (cells a), .agg (cells b)] w fun e w' => e = .returned (.tuple #[.agg (cells (CV 64 2 a b)), .int .i64 0]) ∧ Below w.heap.size w w' := by
  go_enter Try.func12, Try.ntmps12
  go_wp2_with fail
  rw [← cells_zero]
  obtain ⟨W0, hW⟩ : ∃ W0, W0 = ((w.alloc (.cells (cells a) 23)).alloc (.cells (cells b) 23)).alloc (.cells (cells 0) 23) := ⟨_, rfl⟩
  have hA0 : W0.heap[w.heap.size]? = some (.cells (cells a) 23 (0, 0)) := hW ▸ heap_alloc3_0 _ _ _ _
  have hB0 : W0.heap[w.heap.size + 1]? = some (.cells (cells b) 23 (0, 0)) := hW ▸ heap_alloc3_1 _ _ _ _
  have hR0 : W0.heap[w.heap.size + 2]? = some (.cells (cells 0) 23 (0, 0)) := hW ▸ heap_alloc3_2 _ _ _ _
  have hZ0 : Below w.heap.size w W0 := hW ▸ below_alloc3 _ _ _ _
  have hN : W0.heap.size = w.heap.size + 3 := by rw [hW]; simp
  rw [← hW]
  clear hW
  go_loopw [9, 10, 11] (fun wv nv ov wr => ∃ i : Nat, i ≤ 3 ∧ ov = .int .i64 i ∧ wv = .int .i64 0 ∧ nv = .int .i64 0 ∧ W0 = wr) (fun _ _ ov _ => 3 - (intOf ov).toNat)
  case atStart => exact ⟨0, by decide, rfl, rfl, rfl, rfl⟩
  case round =>
    obtain ⟨i, hi, rfl, rfl, rfl, rfl⟩ := hrel
    obtain rfl | rfl | rfl | rfl : i = 0 ∨ i = 1 ∨ i = 2 ∨ i = 3 := by omega
    · as_aux_lemma =>
      go_wp2_with fail
      go_roundw
      case rel => first | exact ⟨1, by decide, rfl, rfl, rfl, (by first | trivial | rfl)⟩ | ((repeat apply Exists.intro); exact ⟨⟨1, by decide, rfl, rfl, rfl, (by first | trivial | rfl)⟩, rfl⟩)
      case measure => (simp [intOf] <;> omega)
    · as_aux_lemma =>
      go_wp2_with fail
      go_roundw
      case rel => first | exact ⟨2, by decide, rfl, rfl, rfl, (by first | trivial | rfl)⟩ | ((repeat apply Exists.intro); exact ⟨⟨2, by decide, rfl, rfl, rfl, (by first | trivial | rfl)⟩, rfl⟩)
      case measure => (simp [intOf] <;> omega)
    · as_aux_lemma =>
      go_wp2_with fail
      go_roundw
      case rel => first | exact ⟨3, by decide, rfl, rfl, rfl, (by first | trivial | rfl)⟩ | ((repeat apply Exists.intro); exact ⟨⟨3, by decide, rfl, rfl, rfl, (by first | trivial | rfl)⟩, rfl⟩)
      case measure => (simp [intOf] <;> omega)
    · go_wp2_with fail
      rw [← cells_zero]
      try rw [hN]
      obtain ⟨W, hW⟩ : ∃ W1, W1 = W0.alloc (.cells (cells 0) 23) := ⟨_, rfl⟩
      have hA : W.heap[w.heap.size]? = some (.cells (cells a) 23 (0, 0)) := hW ▸ blk_alloc hA0 _
      have hB : W.heap[w.heap.size + 1]? = some (.cells (cells b) 23 (0, 0)) := hW ▸ blk_alloc hB0 _
      have hR : W.heap[w.heap.size + 2]? = some (.cells (cells 0) 23 (0, 0)) := hW ▸ blk_alloc hR0 _
      have hO : W.heap[w.heap.size + 3]? = some (.cells (cells 0) 23 (0, 0)) := by rw [hW, ← hN]; exact heap_alloc_new _ _
      have hZ : Below w.heap.size w W := hW ▸ hZ0.alloc (by omega) _
      rw [← hW]
      clear hW hA0 hB0 hR0 hZ0 hN
      go_loopw [14] (fun iv wr => ∃ i : Nat, i ≤ 2 ∧ iv = .int .i64 i ∧ St W (w.heap.size + 3) (buildOn 0 64 (mskN 64 2 a b) i) wr) (fun iv _ => 2 - (intOf iv).toNat)
      case atStart => exact ⟨0, Nat.zero_le _, rfl, St.start hO⟩
      case round =>
        obtain ⟨i, hi, rfl, hs⟩ := hrel
        by_cases hlt : i < 2
        · as_aux_lemma =>
            obtain ⟨s, hsx⟩ : ∃ s, s = sgn 64 (getN a 64 i) := ⟨_, rfl⟩
            obtain ⟨t, htx⟩ : ∃ t, t = sgn 64 (getN b 64 i) := ⟨_, rfl⟩
            have GA := fun W => rsigned64z a i i W rfl hlt
            have GB := fun W => rsigned64z b i i W rfl hlt
            rw [← hsx] at GA
            rw [← htx] at GB
            have HGA := Lib.hid GA
            have HGB := Lib.hid GB
            clear GA GB
            have HM : ∀ v, holdC 2 s t = v → mskN 64 2 a b i = if v = true then 18446744073709551615 else 0 := fun v hv => by unfold mskN; rw [← hsx, ← htx, hv]
            clear hsx htx
            rcases (show s < t ∨ ¬ s < t by omega) with hc1 | hc1
            · as_aux_lemma =>
              have hm : mskN 64 2 a b i = 18446744073709551615 := HM true (by show decide (s < t) = _; simp; omega)
              clear HM
              have l1 : decide (s < t) = true := decide_eq_true (by omega)
              clear hc1
              go_wp2_with (first | (with_reducible refine load_vec rfl _ rfl _ rfl _ (hs.kb.get hA (by omega)) ?_) | (with_reducible refine load_vec rfl _ rfl _ rfl _ (hs.kb.get hB (by omega)) ?_) | (go_at_call 29; (with_reducible refine (HGA.out _).mono ?_); rintro e u2 ⟨rfl, hb⟩; replace hs := hs.below hb; clear hb) | (go_at_call 29; (with_reducible refine (HGB.out _).mono ?_); rintro e u2 ⟨rfl, hb⟩; replace hs := hs.below hb; clear hb))
              go_loopw [20] (fun jv wr => ∃ j : Nat, j ≤ 8 ∧ jv = .int .i64 j ∧ St W (w.heap.size + 3) (putAt (buildOn 0 64 (mskN 64 2 a b) i) (8 * (i * 8)) (8 * j) 18446744073709551615) wr) (fun jv _ => 8 - (intOf jv).toNat)
              case atStart => exact ⟨0, Nat.zero_le _, rfl, by rw [putAt_zero _ _ _ (by omega)]; exact hs⟩
              case round =>
                clear hs
                obtain ⟨j, hj, rfl, hs⟩ := hrel
                by_cases hjl : j < 8
                · have q1 : IntKind.i64.wrap ((i : Int) * 64) = i * 64 := IntWalk.i64_in _ (by omega)
                  have q2 : (i : Int) * 64 / 8 = ((i * 8 : Nat) : Int) := by omega
                  have q3 : (255 : Int) = ((18446744073709551615 / 2 ^ (8 * j) % 256 : Nat) : Int) := by rw [ones_byte j (by omega)]; rfl
                  have hq3 := Lib.hid q3
                  clear q3
                  go_wp2_with (with_reducible refine store_byte rfl _ _ rfl (w.heap.size + 3) (i * 8 + j) _ (18446744073709551615 / 2 ^ (8 * j)) rfl rfl _ hs.this (by omega) hq3.out ?_; intro wq hq)
                  go_roundw
                  case rel =>
                    first | refine ⟨j + 1, by omega, by go_num, ?_⟩ | ((repeat apply Exists.intro); refine ⟨⟨j + 1, by omega, by go_num, ?_⟩, rfl⟩)
                    have := hs.sets hq
                    rw [show 8 * (i * 8 + j) = 8 * (i * 8) + 8 * j by omega, putAt_more _ _ _ _ _ (by omega)] at this
                    exact this
                  case measure => (simp [intOf] <;> omega)
                · obtain rfl : j = 8 := by omega
                  have e2 : putAt (buildOn 0 64 (mskN 64 2 a b) i) (8 * (i * 8)) (8 * 8) 18446744073709551615 = buildOn 0 64 (mskN 64 2 a b) (i + 1) := by
                    rw [buildOn, hm, show 8 * (i * 8) = 64 * i by omega]; rfl
                  rw [e2] at hs
                  clear e2 hm
                  go_wp2_with fail
                  go_roundw
                  case rel => first | exact ⟨i + 1, by omega, by go_num, hs⟩ | ((repeat apply Exists.intro); exact ⟨⟨i + 1, by omega, by go_num, hs⟩, rfl⟩)
                  case measure => (simp [intOf] <;> omega)
            · as_aux_lemma =>
              have hm : mskN 64 2 a b i = 0 := HM false (by show decide (s < t) = _; simp; omega)
              clear HM
              have l1 : decide (s < t) = false := decide_eq_false (by omega)
              clear hc1
              have e2 : buildOn 0 64 (mskN 64 2 a b) (i + 1) = buildOn 0 64 (mskN 64 2 a b) i := msk_zero 64 _ i hlt hm
              have HE2 := Lib.hid e2
              clear e2 hm
              go_wp2_with (first | (with_reducible refine load_vec rfl _ rfl _ rfl _ (hs.kb.get hA (by omega)) ?_) | (with_reducible refine load_vec rfl _ rfl _ rfl _ (hs.kb.get hB (by omega)) ?_) | (go_at_call 29; (with_reducible refine (HGA.out _).mono ?_); rintro e u2 ⟨rfl, hb⟩; replace hs := hs.below hb; clear hb) | (go_at_call 29; (with_reducible refine (HGB.out _).mono ?_); rintro e u2 ⟨rfl, hb⟩; replace hs := hs.below hb; clear hb))
              go_loopw [20] (fun jv wr => jv = .int .i64 0 ∧ St W (w.heap.size + 3) (buildOn 0 64 (mskN 64 2 a b) i) wr) (fun jv _ => 0)
              case atStart => exact ⟨rfl, hs⟩
              case round =>
                clear hs
                obtain ⟨rfl, hs⟩ := hrel
                go_wp2_with fail
                go_roundw
                case rel => first | exact ⟨i + 1, by omega, by go_num, St.eqX HE2.out hs⟩ | ((repeat apply Exists.intro); exact ⟨⟨i + 1, by omega, by go_num, St.eqX HE2.out hs⟩, rfl⟩)
                case measure => (simp [intOf] <;> omega)
        · obtain rfl : i = 2 := by omega
          have hR' := hs.kb.get hR (by omega)
          go_wp2_with (first | (with_reducible refine load_vec rfl _ rfl _ rfl _ hs.this ?_) | (with_reducible refine store_vec rfl _ _ rfl (w.heap.size + 2) _ rfl rfl _ hR' ?_; intro wq hq))
          exact bodyPost_ret (results_vec_tmp rfl _ _ (w.heap.size + 2) _ _ rfl rfl hq.this) rfl ⟨rfl, (hs.kb.to_below hZ (by omega)).trans (hq.below.mono (by omega))⟩
set_option maxRecDepth 100000 in
set_option maxHeartbeats 8000000 in
theorem rcmp_64_4 (a b : Vec) (w : World) :
    Calls Try.prog 12 #[.int .i64 64985, .agg (cells a), .agg (cells b)] w fun e w' => e = .returned (.tuple #[.agg (cells (CV 64 4 a b)), .int .i64 0]) ∧ Below w.heap.size w w' := by
  go_enter Try.func12, Try.ntmps12
  go_wp2_with fail
  rw [← cells_zero]
  obtain ⟨W0, hW⟩ : ∃ W0, W0 = ((w.alloc (.cells (cells a) 23)).alloc (.cells (cells b) 23)).alloc (.cells (cells 0) 23) := ⟨_, rfl⟩
  have hA0 : W0.heap[w.heap.size]? = some (.cells (cells a) 23 (0, 0)) := hW ▸ heap_alloc3_0 _ _ _ _
  have hB0 : W0.heap[w.heap.size + 1]? = some (.cells (cells b) 23 (0, 0)) := hW ▸ heap_alloc3_1 _ _ _ _
  have hR0 : W0.heap[w.heap.size + 2]? = some (.cells (cells 0) 23 (0, 0)) := hW ▸ heap_alloc3_2 _ _ _ _
  have hZ0 : Below w.heap.size w W0 := hW ▸ below_alloc3 _ _ _ _
  have hN : W0.heap.size = w.heap.size + 3 := by rw [hW]; simp
  rw [← hW]
  clear hW
  go_loopw [9, 10, 11] (fun wv nv ov wr => ∃ i : Nat, i ≤ 3 ∧ ov = .int .i64 i ∧ wv = .int .i64 0 ∧ nv = .int .i64 0 ∧ W0 = wr) (fun _ _ ov _ => 3 - (intOf ov).toNat)
  case atStart => exact ⟨0, by decide, rfl, rfl, rfl, rfl⟩
  case round =>
    obtain ⟨i, hi, rfl, rfl, rfl, rfl⟩ := hrel
    obtain rfl | rfl | rfl | rfl : i = 0 ∨ i = 1 ∨ i = 2 ∨ i = 3 := by omega
    · as_aux_lemma =>
      go_wp2_with fail
      go_roundw
      case rel => first | exact ⟨1, by decide, rfl, rfl, rfl, (by first | trivial | rfl)⟩ | ((repeat apply Exists.intro); exact ⟨⟨1, by decide, rfl, rfl, rfl, (by first | trivial | rfl)⟩, rfl⟩)
      case measure => (simp [intOf] <;> omega)
    · as_aux_lemma =>
      go_wp2_with fail
      go_roundw
      case rel => first | exact ⟨2, by decide, rfl, rfl, rfl, (by first | trivial | rfl)⟩ | ((repeat apply Exists.intro); exact ⟨⟨2, by decide, rfl, rfl, rfl, (by first | trivial | rfl)⟩, rfl⟩)
      case measure => (simp [intOf] <;> omega)
    · as_aux_lemma =>
      go_wp2_with fail
      go_roundw
      case rel => first | exact ⟨3, by decide, rfl, rfl, rfl, (by first | trivial | rfl)⟩ | ((repeat apply Exists.intro); exact ⟨⟨3, by decide, rfl, rfl, rfl, (by first | trivial | rfl)⟩, rfl⟩)
      case measure => (simp [intOf] <;> omega)
    · go_wp2_with fail
      rw [← cells_zero]
      try rw [hN]
      obtain ⟨W, hW⟩ : ∃ W1, W1 = W0.alloc (.cells (cells 0) 23) := ⟨_, rfl⟩
      have hA : W.heap[w.heap.size]? = some (.cells (cells a) 23 (0, 0)) := hW ▸ blk_alloc hA0 _
      have hB : W.heap[w.heap.size + 1]? = some (.cells (cells b) 23 (0, 0)) := hW ▸ blk_alloc hB0 _
      have hR : W.heap[w.heap.size + 2]? = some (.cells (cells 0) 23 (0, 0)) := hW ▸ blk_alloc hR0 _
      have hO : W.heap[w.heap.size + 3]? = some (.cells (cells 0) 23 (0, 0)) := by rw [hW, ← hN]; exact heap_alloc_new _ _
      have hZ : Below w.heap.size w W := hW ▸ hZ0.alloc (by omega) _
      rw [← hW]
      clear hW hA0 hB0 hR0 hZ0 hN
      go_loopw [14] (fun iv wr => ∃ i : Nat, i ≤ 2 ∧ iv = .int .i64 i ∧ St W (w.heap.size + 3) (buildOn 0 64 (mskN 64 4 a b) i) wr) (fun iv _ => 2 - (intOf iv).toNat)
      case atStart => exact ⟨0, Nat.zero_le _, rfl, St.start hO⟩
      case round =>
        obtain ⟨i, hi, rfl, hs⟩ := hrel
        by_cases hlt : i < 2
        · as_aux_lemma =>
            obtain ⟨s, hsx⟩ : ∃ s, s = sgn 64 (getN a 64 i) := ⟨_, rfl⟩
            obtain ⟨t, htx⟩ : ∃ t, t = sgn 64 (getN b 64 i) := ⟨_, rfl⟩
            have GA := fun W => rsigned64z a i i W rfl hlt
            have GB := fun W => rsigned64z b i i W rfl hlt
            rw [← hsx] at GA
            rw [← htx] at GB
            have HGA := Lib.hid GA
            have HGB := Lib.hid GB
            clear GA GB
            have HM : ∀ v, holdC 4 s t = v → mskN 64 4 a b i = if v = true then 18446744073709551615 else 0 := fun v hv => by unfold mskN; rw [← hsx, ← htx, hv]
            clear hsx htx
            rcases (show t < s ∨ ¬ t < s by omega) with hc1 | hc1
            · as_aux_lemma =>
              have hm : mskN 64 4 a b i = 18446744073709551615 := HM true (by show decide (t < s) = _; simp; omega)
              clear HM
              have l2 : decide (t < s) = true := decide_eq_true (by omega)
              clear hc1
              go_wp2_with (first | (with_reducible refine load_vec rfl _ rfl _ rfl _ (hs.kb.get hA (by omega)) ?_) | (with_reducible refine load_vec rfl _ rfl _ rfl _ (hs.kb.get hB (by omega)) ?_) | (go_at_call 29; (with_reducible refine (HGA.out _).mono ?_); rintro e u2 ⟨rfl, hb⟩; replace hs := hs.below hb; clear hb) | (go_at_call 29; (with_reducible refine (HGB.out _).mono ?_); rintro e u2 ⟨rfl, hb⟩; replace hs := hs.below hb; clear hb))
              go_loopw [20] (fun jv wr => ∃ j : Nat, j ≤ 8 ∧ jv = .int .i64 j ∧ St W (w.heap.size + 3) (putAt (buildOn 0 64 (mskN 64 4 a b) i) (8 * (i * 8)) (8 * j) 18446744073709551615) wr) (fun jv _ => 8 - (intOf jv).toNat)
              case atStart => exact ⟨0, Nat.zero_le _, rfl, by rw [putAt_zero _ _ _ (by omega)]; exact hs⟩
              case round =>
                clear hs
                obtain ⟨j, hj, rfl, hs⟩ := hrel
                by_cases hjl : j < 8
                · have q1 : IntKind.i64.wrap ((i : Int) * 64) = i * 64 := IntWalk.i64_in _ (by omega)
                  have q2 : (i : Int) * 64 / 8 = ((i * 8 : Nat) : Int) := by omega
                  have q3 : (255 : Int) = ((18446744073709551615 / 2 ^ (8 * j) % 256 : Nat) : Int) := by rw [ones_byte j (by omega)]; rfl
                  have hq3 := Lib.hid q3
                  clear q3
                  go_wp2_with (with_reducible refine store_byte rfl _ _ rfl (w.heap.size + 3) (i * 8 + j) _ (18446744073709551615 / 2 ^ (8 * j)) rfl rfl _ hs.this (by omega) hq3.out ?_; intro wq hq)
                  go_roundw
                  case rel =>
                    first | refine ⟨j + 1, by omega, by go_num, ?_⟩ | ((repeat apply Exists.intro); refine ⟨⟨j + 1, by omega, by go_num, ?_⟩, rfl⟩)
                    have := hs.sets hq
                    rw [show 8 * (i * 8 + j) = 8 * (i * 8) + 8 * j by omega, putAt_more _ _ _ _ _ (by omega)] at this
                    exact this
                  case measure => (simp [intOf] <;> omega)
                · obtain rfl : j = 8 := by omega
                  have e2 : putAt (buildOn 0 64 (mskN 64 4 a b) i) (8 * (i * 8)) (8 * 8) 18446744073709551615 = buildOn 0 64 (mskN 64 4 a b) (i + 1) := by
                    rw [buildOn, hm, show 8 * (i * 8) = 64 * i by omega]; rfl
                  rw [e2] at hs
                  clear e2 hm
                  go_wp2_with fail
                  go_roundw
                  case rel => first | exact ⟨i + 1, by omega, by go_num, hs⟩ | ((repeat apply Exists.intro); exact ⟨⟨i + 1, by omega, by go_num, hs⟩, rfl⟩)
                  case measure => (simp [intOf] <;> omega)
            · as_aux_lemma =>
              have hm : mskN 64 4 a b i = 0 := HM false (by show decide (t < s) = _; simp; omega)
              clear HM
              have l2 : decide (t < s) = false := decide_eq_false (by omega)
              clear hc1
              have e2 : buildOn 0 64 (mskN 64 4 a b) (i + 1) = buildOn 0 64 (mskN 64 4 a b) i := msk_zero 64 _ i hlt hm
              have HE2 := Lib.hid e2
              clear e2 hm
              go_wp2_with (first | (with_reducible refine load_vec rfl _ rfl _ rfl _ (hs.kb.get hA (by omega)) ?_) | (with_reducible refine load_vec rfl _ rfl _ rfl _ (hs.kb.get hB (by omega)) ?_) | (go_at_call 29; (with_reducible refine (HGA.out _).mono ?_); rintro e u2 ⟨rfl, hb⟩; replace hs := hs.below hb; clear hb) | (go_at_call 29; (with_reducible refine (HGB.out _).mono ?_); rintro e u2 ⟨rfl, hb⟩; replace hs := hs.below hb; clear hb))
              go_loopw [20] (fun jv wr => jv = .int .i64 0 ∧ St W (w.heap.size + 3) (buildOn 0 64 (mskN 64 4 a b) i) wr) (fun jv _ => 0)
              case atStart => exact ⟨rfl, hs⟩
              case round =>
                clear hs
                obtain ⟨rfl, hs⟩ := hrel
                go_wp2_with fail
                go_roundw
                case rel => first | exact ⟨i + 1, by omega, by go_num, St.eqX HE2.out hs⟩ | ((repeat apply Exists.intro); exact ⟨⟨i + 1, by omega, by go_num, St.eqX HE2.out hs⟩, rfl⟩)
                case measure => (simp [intOf] <;> omega)
        · obtain rfl : i = 2 := by omega
          have hR' := hs.kb.get hR (by omega)
          go_wp2_with (first | (with_reducible refine load_vec rfl _ rfl _ rfl _ hs.this ?_) | (with_reducible refine store_vec rfl _ _ rfl (w.heap.size + 2) _ rfl rfl _ hR' ?_; intro wq hq))
          exact bodyPost_ret (results_vec_tmp rfl _ _ (w.heap.size + 2) _ _ rfl rfl hq.this) rfl ⟨rfl, (hs.kb.to_below hZ (by omega)).trans (hq.below.mono (by omega))⟩
set_option maxRecDepth 100000 in
set_option maxHeartbeats 8000000 in
theorem rcmp_64_6 (a b : Vec) (w : World) :
    Calls Try.prog 12 #[.int .i64 64986, .agg (cells a), .agg (cells b)] w fun e w' => e = .returned (.tuple #[.agg (cells (CV 64 6 a b)), .int .i64 0]) ∧ Below w.heap.size w w' := by
  go_enter Try.func12, Try.ntmps12
  go_wp2_with fail
  rw [← cells_zero]
  obtain ⟨W0, hW⟩ : ∃ W0, W0 = ((w.alloc (.cells (cells a) 23)).alloc (.cells (cells b) 23)).alloc (.cells (cells 0) 23) := ⟨_, rfl⟩
  have hA0 : W0.heap[w.heap.size]? = some (.cells (cells a) 23 (0, 0)) := hW ▸ heap_alloc3_0 _ _ _ _
  have hB0 : W0.heap[w.heap.size + 1]? = some (.cells (cells b) 23 (0, 0)) := hW ▸ heap_alloc3_1 _ _ _ _
  have hR0 : W0.heap[w.heap.size + 2]? = some (.cells (cells 0) 23 (0, 0)) := hW ▸ heap_alloc3_2 _ _ _ _
  have hZ0 : Below w.heap.size w W0 := hW ▸ below_alloc3 _ _ _ _
  have hN : W0.heap.size = w.heap.size + 3 := by rw [hW]; simp
  rw [← hW]
  clear hW
  go_loopw [9, 10, 11] (fun wv nv ov wr => ∃ i : Nat, i ≤ 3 ∧ ov = .int .i64 i ∧ wv = .int .i64 0 ∧ nv = .int .i64 0 ∧ W0 = wr) (fun _ _ ov _ => 3 - (intOf ov).toNat)
  case atStart => exact ⟨0, by decide, rfl, rfl, rfl, rfl⟩
  case round =>
    obtain ⟨i, hi, rfl, rfl, rfl, rfl⟩ := hrel
    obtain rfl | rfl | rfl | rfl : i = 0 ∨ i = 1 ∨ i = 2 ∨ i = 3 := by omega
    · as_aux_lemma =>
      go_wp2_with fail
      go_roundw
      case rel => first | exact ⟨1, by decide, rfl, rfl, rfl, (by first | trivial | rfl)⟩ | ((repeat apply Exists.intro); exact ⟨⟨1, by decide, rfl, rfl, rfl, (by first | trivial | rfl)⟩, rfl⟩)
      case measure => (simp [intOf] <;> omega)
    · as_aux_lemma =>
      go_wp2_with fail
      go_roundw
      case rel => first | exact ⟨2, by decide, rfl, rfl, rfl, (by first | trivial | rfl)⟩ | ((repeat apply Exists.intro); exact ⟨⟨2, by decide, rfl, rfl, rfl, (by first | trivial | rfl)⟩, rfl⟩)
      case measure => (simp [intOf] <;> omega)
    · as_aux_lemma =>
      go_wp2_with fail
      go_roundw
      case rel => first | exact ⟨3, by decide, rfl, rfl, rfl, (by first | trivial | rfl)⟩ | ((repeat apply Exists.intro); exact ⟨⟨3, by decide, rfl, rfl, rfl, (by first | trivial | rfl)⟩, rfl⟩)
      case measure => (simp [intOf] <;> omega)
    · go_wp2_with fail
      rw [← cells_zero]
      try rw [hN]
      obtain ⟨W, hW⟩ : ∃ W1, W1 = W0.alloc (.cells (cells 0) 23) := ⟨_, rfl⟩
      have hA : W.heap[w.heap.size]? = some (.cells (cells a) 23 (0, 0)) := hW ▸ blk_alloc hA0 _
      have hB : W.heap[w.heap.size + 1]? = some (.cells (cells b) 23 (0, 0)) := hW ▸ blk_alloc hB0 _
      have hR : W.heap[w.heap.size + 2]? = some (.cells (cells 0) 23 (0, 0)) := hW ▸ blk_alloc hR0 _
      have hO : W.heap[w.heap.size + 3]? = some (.cells (cells 0) 23 (0, 0)) := by rw [hW, ← hN]; exact heap_alloc_new _ _
      have hZ : Below w.heap.size w W := hW ▸ hZ0.alloc (by omega) _
      rw [← hW]
      clear hW hA0 hB0 hR0 hZ0 hN
      go_loopw [14] (fun iv wr => ∃ i : Nat, i ≤ 2 ∧ iv = .int .i64 i ∧ St W (w.heap.size + 3) (buildOn 0 64 (mskN 64 6 a b) i) wr) (fun iv _ => 2 - (intOf iv).toNat)
      case atStart => exact ⟨0, Nat.zero_le _, rfl, St.start hO⟩
      case round =>
        obtain ⟨i, hi, rfl, hs⟩ := hrel
        by_cases hlt : i < 2
        · as_aux_lemma =>
            obtain ⟨s, hsx⟩ : ∃ s, s = sgn 64 (getN a 64 i) := ⟨_, rfl⟩
            obtain ⟨t, htx⟩ : ∃ t, t = sgn 64 (getN b 64 i) := ⟨_, rfl⟩
            have GA := fun W => rsigned64z a i i W rfl hlt
            have GB := fun W => rsigned64z b i i W rfl hlt
            rw [← hsx] at GA
            rw [← htx] at GB
            have HGA := Lib.hid GA
            have HGB := Lib.hid GB
            clear GA GB
            have HM : ∀ v, holdC 6 s t = v → mskN 64 6 a b i = if v = true then 18446744073709551615 else 0 := fun v hv => by unfold mskN; rw [← hsx, ← htx, hv]
            clear hsx htx
            rcases (show t < s ∨ ¬ t < s by omega) with hc1 | hc1
            · as_aux_lemma =>
              have hm : mskN 64 6 a b i = 0 := HM false (by show decide (s ≤ t) = _; simp; omega)
              clear HM
              have l2 : decide (t < s) = true := decide_eq_true (by omega)
              clear hc1
              have e2 : buildOn 0 64 (mskN 64 6 a b) (i + 1) = buildOn 0 64 (mskN 64 6 a b) i := msk_zero 64 _ i hlt hm
              have HE2 := Lib.hid e2
              clear e2 hm
              go_wp2_with (first | (with_reducible refine load_vec rfl _ rfl _ rfl _ (hs.kb.get hA (by omega)) ?_) | (with_reducible refine load_vec rfl _ rfl _ rfl _ (hs.kb.get hB (by omega)) ?_) | (go_at_call 29; (with_reducible refine (HGA.out _).mono ?_); rintro e u2 ⟨rfl, hb⟩; replace hs := hs.below hb; clear hb) | (go_at_call 29; (with_reducible refine (HGB.out _).mono ?_); rintro e u2 ⟨rfl, hb⟩; replace hs := hs.below hb; clear hb))
              go_loopw [20] (fun jv wr => jv = .int .i64 0 ∧ St W (w.heap.size + 3) (buildOn 0 64 (mskN 64 6 a b) i) wr) (fun jv _ => 0)
              case atStart => exact ⟨rfl, hs⟩
              case round =>
                clear hs
                obtain ⟨rfl, hs⟩ := hrel
                go_wp2_with fail
                go_roundw
                case rel => first | exact ⟨i + 1, by omega, by go_num, St.eqX HE2.out hs⟩ | ((repeat apply Exists.intro); exact ⟨⟨i + 1, by omega, by go_num, St.eqX HE2.out hs⟩, rfl⟩)
                case measure => (simp [intOf] <;> omega)
            · as_aux_lemma =>
              have hm : mskN 64 6 a b i = 18446744073709551615 := HM true (by show decide (s ≤ t) = _; simp; omega)
              clear HM
              have l2 : decide (t < s) = false := decide_eq_false (by omega)
              clear hc1
              go_wp2_with (first | (with_reducible refine load_vec rfl _ rfl _ rfl _ (hs.kb.get hA (by omega)) ?_) | (with_reducible refine load_vec rfl _ rfl _ rfl _ (hs.kb.get hB (by omega)) ?_) | (go_at_call 29; (with_reducible refine (HGA.out _).mono ?_); rintro e u2 ⟨rfl, hb⟩; replace hs := hs.below hb; clear hb) | (go_at_call 29; (with_reducible refine (HGB.out _).mono ?_); rintro e u2 ⟨rfl, hb⟩; replace hs := hs.below hb; clear hb))
              go_loopw [20] (fun jv wr => ∃ j : Nat, j ≤ 8 ∧ jv = .int .i64 j ∧ St W (w.heap.size + 3) (putAt (buildOn 0 64 (mskN 64 6 a b) i) (8 * (i * 8)) (8 * j) 18446744073709551615) wr) (fun jv _ => 8 - (intOf jv).toNat)
              case atStart => exact ⟨0, Nat.zero_le _, rfl, by rw [putAt_zero _ _ _ (by omega)]; exact hs⟩
              case round =>
                clear hs
                obtain ⟨j, hj, rfl, hs⟩ := hrel
                by_cases hjl : j < 8
                · have q1 : IntKind.i64.wrap ((i : Int) * 64) = i * 64 := IntWalk.i64_in _ (by omega)
                  have q2 : (i : Int) * 64 / 8 = ((i * 8 : Nat) : Int) := by omega
                  have q3 : (255 : Int) = ((18446744073709551615 / 2 ^ (8 * j) % 256 : Nat) : Int) := by rw [ones_byte j (by omega)]; rfl
                  have hq3 := Lib.hid q3
                  clear q3
                  go_wp2_with (with_reducible refine store_byte rfl _ _ rfl (w.heap.size + 3) (i * 8 + j) _ (18446744073709551615 / 2 ^ (8 * j)) rfl rfl _ hs.this (by omega) hq3.out ?_; intro wq hq)
                  go_roundw
                  case rel =>
                    first | refine ⟨j + 1, by omega, by go_num, ?_⟩ | ((repeat apply Exists.intro); refine ⟨⟨j + 1, by omega, by go_num, ?_⟩, rfl⟩)
                    have := hs.sets hq
                    rw [show 8 * (i * 8 + j) = 8 * (i * 8) + 8 * j by omega, putAt_more _ _ _ _ _ (by omega)] at this
                    exact this
                  case measure => (simp [intOf] <;> omega)
                · obtain rfl : j = 8 := by omega
                  have e2 : putAt (buildOn 0 64 (mskN 64 6 a b) i) (8 * (i * 8)) (8 * 8) 18446744073709551615 = buildOn 0 64 (mskN 64 6 a b) (i + 1) := by
                    rw [buildOn, hm, show 8 * (i * 8) = 64 * i by omega]; rfl
                  rw [e2] at hs
                  clear e2 hm
                  go_wp2_with fail
                  go_roundw
                  case rel => first | exact ⟨i + 1, by omega, by go_num, hs⟩ | ((repeat apply Exists.intro); exact ⟨⟨i + 1, by omega, by go_num, hs⟩, rfl⟩)
                  case measure => (simp [intOf] <;> omega)
        · obtain rfl : i = 2 := by omega
          have hR' := hs.kb.get hR (by omega)
          go_wp2_with (first | (with_reducible refine load_vec rfl _ rfl _ rfl _ hs.this ?_) | (with_reducible refine store_vec rfl _ _ rfl (w.heap.size + 2) _ rfl rfl _ hR' ?_; intro wq hq))
          exact bodyPost_ret (results_vec_tmp rfl _ _ (w.heap.size + 2) _ _ rfl rfl hq.this) rfl ⟨rfl, (hs.kb.to_below hZ (by omega)).trans (hq.below.mono (by omega))⟩
set_option maxRecDepth 100000 in
set_option maxHeartbeats 8000000 in
theorem rcmp_64_8 (a b : Vec) (w : World) :
    Calls Try.prog 12 #[.int .i64 64987, .agg (cells a), .agg (cells b)] w fun e w' => e = .returned (.tuple #[.agg (cells (CV 64 8 a b)), .int .i64 0]) ∧ Below w.heap.size w w' := by
  go_enter Try.func12, Try.ntmps12
  go_wp2_with fail
  rw [← cells_zero]
  obtain ⟨W0, hW⟩ : ∃ W0, W0 = ((w.alloc (.cells (cells a) 23)).alloc (.cells (cells b) 23)).alloc (.cells (cells 0) 23) := ⟨_, rfl⟩
  have hA0 : W0.heap[w.heap.size]? = some (.cells (cells a) 23 (0, 0)) := hW ▸ heap_alloc3_0 _ _ _ _
  have hB0 : W0.heap[w.heap.size + 1]? = some (.cells (cells b) 23 (0, 0)) := hW ▸ heap_alloc3_1 _ _ _ _
  have hR0 : W0.heap[w.heap.size + 2]? = some (.cells (cells 0) 23 (0, 0)) := hW ▸ heap_alloc3_2 _ _ _ _
  have hZ0 : Below w.heap.size w W0 := hW ▸ below_alloc3 _ _ _ _
  have hN : W0.heap.size = w.heap.size + 3 := by rw [hW]; simp
  rw [← hW]
  clear hW
  go_loopw [9, 10, 11] (fun wv nv ov wr => ∃ i : Nat, i ≤ 3 ∧ ov = .int .i64 i ∧ wv = .int .i64 0 ∧ nv = .int .i64 0 ∧ W0 = wr) (fun _ _ ov _ => 3 - (intOf ov).toNat)
  case atStart => exact ⟨0, by decide, rfl, rfl, rfl, rfl⟩
  case round =>
    obtain ⟨i, hi, rfl, rfl, rfl, rfl⟩ := hrel
    obtain rfl | rfl | rfl | rfl : i = 0 ∨ i = 1 ∨ i = 2 ∨ i = 3 := by omega
    · as_aux_lemma =>
      go_wp2_with fail
      go_roundw
      case rel => first | exact ⟨1, by decide, rfl, rfl, rfl, (by first | trivial | rfl)⟩ | ((repeat apply Exists.intro); exact ⟨⟨1, by decide, rfl, rfl, rfl, (by first | trivial | rfl)⟩, rfl⟩)
      case measure => (simp [intOf] <;> omega)
    · as_aux_lemma =>
      go_wp2_with fail
      go_roundw
      case rel => first | exact ⟨2, by decide, rfl, rfl, rfl, (by first | trivial | rfl)⟩ | ((repeat apply Exists.intro); exact ⟨⟨2, by decide, rfl, rfl, rfl, (by first | trivial | rfl)⟩, rfl⟩)
      case measure => (simp [intOf] <;> omega)
    · as_aux_lemma =>
      go_wp2_with fail
      go_roundw
      case rel => first | exact ⟨3, by decide, rfl, rfl, rfl, (by first | trivial | rfl)⟩ | ((repeat apply Exists.intro); exact ⟨⟨3, by decide, rfl, rfl, rfl, (by first | trivial | rfl)⟩, rfl⟩)
      case measure => (simp [intOf] <;> omega)
    · go_wp2_with fail
      rw [← cells_zero]
      try rw [hN]
      obtain ⟨W, hW⟩ : ∃ W1, W1 = W0.alloc (.cells (cells 0) 23) := ⟨_, rfl⟩
      have hA : W.heap[w.heap.size]? = some (.cells (cells a) 23 (0, 0)) := hW ▸ blk_alloc hA0 _
      have hB : W.heap[w.heap.size + 1]? = some (.cells (cells b) 23 (0, 0)) := hW ▸ blk_alloc hB0 _
      have hR : W.heap[w.heap.size + 2]? = some (.cells (cells 0) 23 (0, 0)) := hW ▸ blk_alloc hR0 _
      have hO : W.heap[w.heap.size + 3]? = some (.cells (cells 0) 23 (0, 0)) := by rw [hW, ← hN]; exact heap_alloc_new _ _
      have hZ : Below w.heap.size w W := hW ▸ hZ0.alloc (by omega) _
      rw [← hW]
      clear hW hA0 hB0 hR0 hZ0 hN
      go_loopw [14] (fun iv wr => ∃ i : Nat, i ≤ 2 ∧ iv = .int .i64 i ∧ St W (w.heap.size + 3) (buildOn 0 64 (mskN 64 8 a b) i) wr) (fun iv _ => 2 - (intOf iv).toNat)
      case atStart => exact ⟨0, Nat.zero_le _, rfl, St.start hO⟩
      case round =>
        obtain ⟨i, hi, rfl, hs⟩ := hrel
        by_cases hlt : i < 2
        · as_aux_lemma =>
            obtain ⟨s, hsx⟩ : ∃ s, s = sgn 64 (getN a 64 i) := ⟨_, rfl⟩
            obtain ⟨t, htx⟩ : ∃ t, t = sgn 64 (getN b 64 i) := ⟨_, rfl⟩
            have GA := fun W => rsigned64z a i i W rfl hlt
            have GB := fun W => rsigned64z b i i W rfl hlt
            rw [← hsx] at GA
            rw [← htx] at GB
            have HGA := Lib.hid GA
            have HGB := Lib.hid GB
            clear GA GB
            have HM : ∀ v, holdC 8 s t = v → mskN 64 8 a b i = if v = true then 18446744073709551615 else 0 := fun v hv => by unfold mskN; rw [← hsx, ← htx, hv]
            clear hsx htx
            rcases (show s < t ∨ ¬ s < t by omega) with hc1 | hc1
            · as_aux_lemma =>
              have hm : mskN 64 8 a b i = 0 := HM false (by show decide (t ≤ s) = _; simp; omega)
              clear HM
              have l1 : decide (s < t) = true := decide_eq_true (by omega)
              clear hc1
              have e2 : buildOn 0 64 (mskN 64 8 a b) (i + 1) = buildOn 0 64 (mskN 64 8 a b) i := msk_zero 64 _ i hlt hm
              have HE2 := Lib.hid e2
              clear e2 hm
              go_wp2_with (first | (with_reducible refine load_vec rfl _ rfl _ rfl _ (hs.kb.get hA (by omega)) ?_) | (with_reducible refine load_vec rfl _ rfl _ rfl _ (hs.kb.get hB (by omega)) ?_) | (go_at_call 29; (with_reducible refine (HGA.out _).mono ?_); rintro e u2 ⟨rfl, hb⟩; replace hs := hs.below hb; clear hb) | (go_at_call 29; (with_reducible refine (HGB.out _).mono ?_); rintro e u2 ⟨rfl, hb⟩; replace hs := hs.below hb; clear hb))
              go_loopw [20] (fun jv wr => jv = .int .i64 0 ∧ St W (w.heap.size + 3) (buildOn 0 64 (mskN 64 8 a b) i) wr) (fun jv _ => 0)
              case atStart => exact ⟨rfl, hs⟩
              case round =>
                clear hs
                obtain ⟨rfl, hs⟩ := hrel
                go_wp2_with fail
                go_roundw
                case rel => first | exact ⟨i + 1, by omega, by go_num, St.eqX HE2.out hs⟩ | ((repeat apply Exists.intro); exact ⟨⟨i + 1, by omega, by go_num, St.eqX HE2.out hs⟩, rfl⟩)
                case measure => (simp [intOf] <;> omega)
            · as_aux_lemma =>
              have hm : mskN 64 8 a b i = 18446744073709551615 := HM true (by show decide (t ≤ s) = _; simp; omega)
              clear HM
              have l1 : decide (s < t) = false := decide_eq_false (by omega)
              clear hc1
              go_wp2_with (first | (with_reducible refine load_vec rfl _ rfl _ rfl _ (hs.kb.get hA (by omega)) ?_) | (with_reducible refine load_vec rfl _ rfl _ rfl _ (hs.kb.get hB (by omega)) ?_) | (go_at_call 29; (with_reducible refine (HGA.out _).mono ?_); rintro e u2 ⟨rfl, hb⟩; replace hs := hs.below hb; clear hb) | (go_at_call 29; (with_reducible refine (HGB.out _).mono ?_); rintro e u2 ⟨rfl, hb⟩; replace hs := hs.below hb; clear hb))
              go_loopw [20] (fun jv wr => ∃ j : Nat, j ≤ 8 ∧ jv = .int .i64 j ∧ St W (w.heap.size + 3) (putAt (buildOn 0 64 (mskN 64 8 a b) i) (8 * (i * 8)) (8 * j) 18446744073709551615) wr) (fun jv _ => 8 - (intOf jv).toNat)
              case atStart => exact ⟨0, Nat.zero_le _, rfl, by rw [putAt_zero _ _ _ (by omega)]; exact hs⟩
              case round =>
                clear hs
                obtain ⟨j, hj, rfl, hs⟩ := hrel
                by_cases hjl : j < 8
                · have q1 : IntKind.i64.wrap ((i : Int) * 64) = i * 64 := IntWalk.i64_in _ (by omega)
                  have q2 : (i : Int) * 64 / 8 = ((i * 8 : Nat) : Int) := by omega
                  have q3 : (255 : Int) = ((18446744073709551615 / 2 ^ (8 * j) % 256 : Nat) : Int) := by rw [ones_byte j (by omega)]; rfl
                  have hq3 := Lib.hid q3
                  clear q3
                  go_wp2_with (with_reducible refine store_byte rfl _ _ rfl (w.heap.size + 3) (i * 8 + j) _ (18446744073709551615 / 2 ^ (8 * j)) rfl rfl _ hs.this (by omega) hq3.out ?_; intro wq hq)
                  go_roundw
                  case rel =>
                    first | refine ⟨j + 1, by omega, by go_num, ?_⟩ | ((repeat apply Exists.intro); refine ⟨⟨j + 1, by omega, by go_num, ?_⟩, rfl⟩)
                    have := hs.sets hq
                    rw [show 8 * (i * 8 + j) = 8 * (i * 8) + 8 * j by omega, putAt_more _ _ _ _ _ (by omega)] at this
                    exact this
                  case measure => (simp [intOf] <;> omega)
                · obtain rfl : j = 8 := by omega
                  have e2 : putAt (buildOn 0 64 (mskN 64 8 a b) i) (8 * (i * 8)) (8 * 8) 18446744073709551615 = buildOn 0 64 (mskN 64 8 a b) (i + 1) := by
                    rw [buildOn, hm, show 8 * (i * 8) = 64 * i by omega]; rfl
                  rw [e2] at hs
                  clear e2 hm
                  go_wp2_with fail
                  go_roundw
                  case rel => first | exact ⟨i + 1, by omega, by go_num, hs⟩ | ((repeat apply Exists.intro); exact ⟨⟨i + 1, by omega, by go_num, hs⟩, rfl⟩)
                  case measure => (simp [intOf] <;> omega)
        · obtain rfl : i = 2 := by omega
          have hR' := hs.kb.get hR (by omega)
          go_wp2_with (first | (with_reducible refine load_vec rfl _ rfl _ rfl _ hs.this ?_) | (with_reducible refine store_vec rfl _ _ rfl (w.heap.size + 2) _ rfl rfl _ hR' ?_; intro wq hq))
          exact bodyPost_ret (results_vec_tmp rfl _ _ (w.heap.size + 2) _ _ rfl rfl hq.this) rfl ⟨rfl, (hs.kb.to_below hZ (by omega)).trans (hq.below.mono (by omega))⟩
end Go.Proofs.Ytifafdfjmhadaaa
