/-
  plaitref05.Shift at width 16.
-/
import Derived.Test.YtgemlndpmbeaeaaAriRS
set_option linter.unusedSimpArgs false
set_option linter.unusedVariables false
namespace Go.Proofs.Ytgemlndpmbeaeaa
open Go.RowKit Pl

set_option maxRecDepth 100000 in
set_option maxHeartbeats 4000000 in
theorem rsh_16_11 (v : Vec) (n p : Nat) (hp : n % 16 = p) (hn : n < 4294967296) (w : World) : Calls Try.prog 15 #[.int .i64 64907, .agg (cells v), .int .u32 (n : Int)] w fun e w' => e = .returned (.tuple #[.agg (cells (vs 16 11 p v)), .int .i64 0]) ∧ Below w.heap.size w w' := by
  have hp2 : (n : Int) % 16 = (p : Int) := by omega
  have hp3 : p < 16 := by omega
  clear hp
  have hs : HL w [(w.heap.size + 1, 0), (w.heap.size, v)] _ := HL.two w v 0
  rw [cells_zero] at hs
  have T := Lib.hid (fun W => rwidth_any 64907 W (by decide))
  rw [show wF 64907 = 16 by decide] at T
  have K := Lib.hid (fun W => roff_some 64907 11 W (by decide) (by decide) (by decide))
  go_enter Try.func15, Try.ntmps15
  go_wp2_with (first | (go_at_call 30; (with_reducible refine (T.out _).mono ?_); rintro e u ⟨rfl, hb⟩; replace hs := hs.below hb; clear hb) | (go_at_call 33; (with_reducible refine (K.out _).mono ?_); rintro e u ⟨rfl, hb⟩; replace hs := hs.below hb; clear hb))
  rw [← cells_zero]
  obtain ⟨O, hOO⟩ : ∃ B, B = u.heap.size := ⟨_, rfl⟩
  have hlow := HL.low hs
  rw [← hOO] at hlow ⊢
  obtain ⟨W, hW⟩ : ∃ W, W = u.alloc (.cells (cells 0) 23) := ⟨_, rfl⟩
  have hA : W.heap[w.heap.size]? = some (.cells (cells v) 23 (0, 0)) := hW ▸ blk_alloc (hs.hold (_, v) (List.mem_cons_of_mem _ List.mem_cons_self)) _
  have hR : W.heap[w.heap.size + 1]? = some (.cells (cells 0) 23 (0, 0)) := hW ▸ blk_alloc (hs.hold (_, 0) List.mem_cons_self) _
  have hO : W.heap[O]? = some (.cells (cells 0) 23 (0, 0)) := by rw [hW, hOO]; exact heap_alloc_new _ _
  have hZ : Below w.heap.size w W := hW ▸ hs.bel.alloc hs.bel.size _
  have nR : w.heap.size + 1 < O := hlow (_, 0) List.mem_cons_self
  have hWO : w.heap.size ≤ O := by omega
  rw [← hW]
  clear hW hOO hlow hs T K u
  go_loopw [11] (fun iv wr => ∃ i : Nat, i ≤ 8 ∧ iv = .int .i64 i ∧ St W O (buildOn 0#128 16 (shR 16 11 p v) i) wr) (fun iv _ => 8 - (intOf iv).toNat)
  case atStart => exact ⟨0, Nat.zero_le _, rfl, St.start hO⟩
  case round =>
    obtain ⟨i, hi, rfl, hs⟩ := hrel
    by_cases hlt : i < 8
    · obtain ⟨x, hxx⟩ : ∃ x, x = getN v 16 i := ⟨_, rfl⟩
      have bx : x < 65536 := hxx ▸ getN_lt v 16 i
      have G := fun W => rget16z v i i W rfl hlt
      rw [← hxx] at G
      have HG := Lib.hid G
      clear G
      have HM : (shN 16 11 p x) % 2 ^ 16 = shR 16 11 p v i % 2 ^ 16 := by
        show _ = Pl.u64 ((getN v 16 i : Int) * 2 ^ p) % 2 ^ 16
        rw [← hxx]
        rfl
      have HE := Lib.hid (step_eq 16 (shR 16 11 p v) 0#128 i (shN 16 11 p x) HM)
      clear HM hxx
      obtain ⟨g, hg⟩ : ∃ g : Nat → Nat, g = fun t => shN 16 11 t x := ⟨_, rfl⟩
      have g0 : g 0 = x := by rw [hg]; show Pl.u64 ((x : Int) * 2 ^ 0) = x; rw [show (2 : Int) ^ 0 = 1 from rfl, Int.mul_one]; unfold Pl.u64; omega
      have gs : ∀ t, IntKind.u64.wrap ((g t : Int) * 2) = ((g (t + 1) : Nat) : Int) := fun t => by rw [hg]; exact sh11 t x
      have gl : ∀ t, g t < 2 ^ 64 := fun t => by rw [hg]; exact (u64_lt ((x : Int) * 2 ^ t))
      have hgp : (shN 16 11 p x) = g p := by rw [hg]
      rw [hgp] at HE
      have HZ2 := Lib.hid (gl p)
      have GS := Lib.hid gs
      have G0 := Lib.hid g0
      have GL := Lib.hid gl
      clear gs g0 hgp hg gl
      go_wp2_with (first | (go_at_call 34; ((with_reducible refine (rlanes16 _).mono ?_); rintro e w' ⟨rfl, rfl⟩)) | (with_reducible refine load_vec rfl _ rfl _ rfl _ (hs.kb.get hA (by omega)) ?_) | (go_at_call 35; (with_reducible refine (HG.out _).mono ?_); rintro e u ⟨rfl, hb⟩; replace hs := hs.below hb; clear hb))
      go_loopw [12, 14] (fun xv pv wx => ∃ t : Nat, t ≤ p ∧ pv = .int .i64 t ∧ xv = .int .u64 (g t : Nat) ∧ St W O (buildOn 0#128 16 (shR 16 11 p v) i) wx) (fun _ pv _ => p - (intOf pv).toNat)
      case atStart => exact ⟨0, Nat.zero_le _, rfl, by rw [G0.out], hs⟩
      case round =>
        clear hs
        obtain ⟨t, ht, rfl, rfl, hs⟩ := hrel
        by_cases htp : t < p
        · have gs1 := GS.out t
          have gw : IntKind.u64.wrap ((g (t + 1) : Nat) : Int) = ((g (t + 1) : Nat) : Int) := IntWalk.u64_in _ (by have := GL.out (t + 1); omega)
          go_wp2_with fail
          go_roundw
          case rel => first | exact ⟨t + 1, by omega, by go_num, by first | go_num | exact congrArg (Value.int .u64) gs1, hs⟩ | ((repeat apply Exists.intro); exact ⟨⟨t + 1, by omega, by go_num, by first | go_num | exact congrArg (Value.int .u64) gs1, hs⟩, rfl⟩)
          case measure => (simp [intOf] <;> omega)
        · obtain rfl : t = p := by omega
          go_wp2_with (first | (go_at_call 34; ((with_reducible refine (rlanes16 _).mono ?_); rintro e w' ⟨rfl, rfl⟩)) | (with_reducible refine load_vec rfl _ rfl _ rfl _ hs.this ?_) | (go_at_call 36; (with_reducible refine (rset16z (buildOn 0#128 16 (shR 16 11 t v) i) _ _ i (g t) _ rfl rfl hlt HZ2.out).mono ?_); rintro e u ⟨rfl, hb⟩; replace hs := hs.below hb; clear hb) | (with_reducible refine store_vec rfl _ _ rfl O _ rfl rfl _ hs.this ?_; intro wq hq; replace hs := hs.sets hq; clear hq))
          go_roundw
          case rel => first | exact ⟨i + 1, by omega, by go_num, St.eqY HE.out hs⟩ | ((repeat apply Exists.intro); exact ⟨⟨i + 1, by omega, by go_num, St.eqY HE.out hs⟩, rfl⟩)
          case measure => (simp [intOf] <;> omega)
    · obtain rfl : i = 8 := by omega
      have hR' := hs.kb.get hR (by omega)
      go_wp2_with (first | (go_at_call 34; ((with_reducible refine (rlanes16 _).mono ?_); rintro e w' ⟨rfl, rfl⟩)) | (with_reducible refine load_vec rfl _ rfl _ rfl _ hs.this ?_) | (with_reducible refine store_vec rfl _ _ rfl (w.heap.size + 1) _ rfl rfl _ hR' ?_; intro wq hq))
      refine bodyPost_ret (results_vec_tmp rfl _ _ (w.heap.size + 1) _ _ rfl rfl hq.this) rfl ⟨?_, (hs.kb.to_below hZ hWO).trans (hq.below.mono (by omega))⟩
      exact congrArg (fun z => Ending.returned (.tuple #[.agg (cells z), .int .i64 0])) (on_any 16 (shR 16 11 p v) v (by decide))

set_option maxRecDepth 100000 in
set_option maxHeartbeats 4000000 in
theorem rsh_16_12 (v : Vec) (n p : Nat) (hp : n % 16 = p) (hn : n < 4294967296) (w : World) : Calls Try.prog 15 #[.int .i64 64908, .agg (cells v), .int .u32 (n : Int)] w fun e w' => e = .returned (.tuple #[.agg (cells (vs 16 12 p v)), .int .i64 0]) ∧ Below w.heap.size w w' := by
  have hp2 : (n : Int) % 16 = (p : Int) := by omega
  have hp3 : p < 16 := by omega
  clear hp
  have hs : HL w [(w.heap.size + 1, 0), (w.heap.size, v)] _ := HL.two w v 0
  rw [cells_zero] at hs
  have T := Lib.hid (fun W => rwidth_any 64908 W (by decide))
  rw [show wF 64908 = 16 by decide] at T
  have K := Lib.hid (fun W => roff_some 64908 12 W (by decide) (by decide) (by decide))
  go_enter Try.func15, Try.ntmps15
  go_wp2_with (first | (go_at_call 30; (with_reducible refine (T.out _).mono ?_); rintro e u ⟨rfl, hb⟩; replace hs := hs.below hb; clear hb) | (go_at_call 33; (with_reducible refine (K.out _).mono ?_); rintro e u ⟨rfl, hb⟩; replace hs := hs.below hb; clear hb))
  rw [← cells_zero]
  obtain ⟨O, hOO⟩ : ∃ B, B = u.heap.size := ⟨_, rfl⟩
  have hlow := HL.low hs
  rw [← hOO] at hlow ⊢
  obtain ⟨W, hW⟩ : ∃ W, W = u.alloc (.cells (cells 0) 23) := ⟨_, rfl⟩
  have hA : W.heap[w.heap.size]? = some (.cells (cells v) 23 (0, 0)) := hW ▸ blk_alloc (hs.hold (_, v) (List.mem_cons_of_mem _ List.mem_cons_self)) _
  have hR : W.heap[w.heap.size + 1]? = some (.cells (cells 0) 23 (0, 0)) := hW ▸ blk_alloc (hs.hold (_, 0) List.mem_cons_self) _
  have hO : W.heap[O]? = some (.cells (cells 0) 23 (0, 0)) := by rw [hW, hOO]; exact heap_alloc_new _ _
  have hZ : Below w.heap.size w W := hW ▸ hs.bel.alloc hs.bel.size _
  have nR : w.heap.size + 1 < O := hlow (_, 0) List.mem_cons_self
  have hWO : w.heap.size ≤ O := by omega
  rw [← hW]
  clear hW hOO hlow hs T K u
  go_loopw [11] (fun iv wr => ∃ i : Nat, i ≤ 8 ∧ iv = .int .i64 i ∧ St W O (buildOn 0#128 16 (shR 16 12 p v) i) wr) (fun iv _ => 8 - (intOf iv).toNat)
  case atStart => exact ⟨0, Nat.zero_le _, rfl, St.start hO⟩
  case round =>
    obtain ⟨i, hi, rfl, hs⟩ := hrel
    by_cases hlt : i < 8
    · obtain ⟨x, hxx⟩ : ∃ x, x = getN v 16 i := ⟨_, rfl⟩
      have bx : x < 65536 := hxx ▸ getN_lt v 16 i
      have G := fun W => rget16z v i i W rfl hlt
      rw [← hxx] at G
      have HG := Lib.hid G
      clear G
      have HM : (shN 16 12 p x) % 2 ^ 16 = shR 16 12 p v i % 2 ^ 16 := by
        show _ = Pl.u64 (sgn 16 (getN v 16 i) / 2 ^ p) % 2 ^ 16
        rw [← hxx]
        exact Nat.mod_mod _ _
      have HE := Lib.hid (step_eq 16 (shR 16 12 p v) 0#128 i (shN 16 12 p x) HM)
      clear HM hxx
      by_cases hc : 0 ≤ sgn 16 x
      · skip
        obtain ⟨g, hg⟩ : ∃ g : Nat → Nat, g = fun t => shN 16 12 t x := ⟨_, rfl⟩
        have g0 : g 0 = x := by rw [hg]; show Pl.u64 (sgn 16 x / 2 ^ 0) % 2 ^ 16 = x; rw [show (2 : Int) ^ 0 = 1 from rfl, Int.ediv_one]; unfold Pl.u64 sgn; rw [show (2 : Nat) ^ (16 - 1) = 32768 from rfl, show (2 : Int) ^ 16 = 65536 from rfl, show (2 : Nat) ^ 16 = 65536 from rfl]; split <;> omega
        have gs : ∀ t, bits .or .u64 ((g t : Int) / 2) 0 = ((g (t + 1) : Nat) : Int) ∧ g t < 65536 := fun t => by rw [hg]; rw [show (((fun t => shN 16 12 t x) t : Nat) : Int) / 2 = ((shN 16 12 t x / 2 : Nat) : Int) by simp]; exact sh12p_16 x t bx hc
        have gl : ∀ t, g t < 2 ^ 64 := fun t => by rw [hg]; exact Nat.lt_of_lt_of_le (Nat.mod_lt _ (Nat.two_pow_pos _)) (Nat.pow_le_pow_right (by decide) (by decide))
        have hgp : (shN 16 12 p x) = g p := by rw [hg]
        rw [hgp] at HE
        have HZ2 := Lib.hid (gl p)
        have ex1 : (x : Int) / 32768 = 0 := by unfold sgn at hc; rw [show (2 : Nat) ^ (16 - 1) = 32768 from rfl, show (2 : Int) ^ 16 = 65536 from rfl] at hc; split at hc <;> omega
        have GS := Lib.hid gs
        have G0 := Lib.hid g0
        have GL := Lib.hid gl
        clear gs g0 hgp hg gl hc
        go_wp2_with (first | (go_at_call 34; ((with_reducible refine (rlanes16 _).mono ?_); rintro e w' ⟨rfl, rfl⟩)) | (with_reducible refine load_vec rfl _ rfl _ rfl _ (hs.kb.get hA (by omega)) ?_) | (go_at_call 35; (with_reducible refine (HG.out _).mono ?_); rintro e u ⟨rfl, hb⟩; replace hs := hs.below hb; clear hb))
        go_loopw [12, 14] (fun xv pv wx => ∃ t : Nat, t ≤ p ∧ pv = .int .i64 t ∧ xv = .int .u64 (g t : Nat) ∧ St W O (buildOn 0#128 16 (shR 16 12 p v) i) wx) (fun _ pv _ => p - (intOf pv).toNat)
        case atStart => exact ⟨0, Nat.zero_le _, rfl, by rw [G0.out], hs⟩
        case round =>
          clear hs
          obtain ⟨t, ht, rfl, rfl, hs⟩ := hrel
          by_cases htp : t < p
          · obtain ⟨gs1, gs2⟩ := GS.out t
            go_wp2_with fail
            go_roundw
            case rel => first | exact ⟨t + 1, by omega, by go_num, by first | go_num | exact congrArg (Value.int .u64) gs1, hs⟩ | ((repeat apply Exists.intro); exact ⟨⟨t + 1, by omega, by go_num, by first | go_num | exact congrArg (Value.int .u64) gs1, hs⟩, rfl⟩)
            case measure => (simp [intOf] <;> omega)
          · obtain rfl : t = p := by omega
            go_wp2_with (first | (go_at_call 34; ((with_reducible refine (rlanes16 _).mono ?_); rintro e w' ⟨rfl, rfl⟩)) | (with_reducible refine load_vec rfl _ rfl _ rfl _ hs.this ?_) | (go_at_call 36; (with_reducible refine (rset16z (buildOn 0#128 16 (shR 16 12 t v) i) _ _ i (g t) _ rfl rfl hlt HZ2.out).mono ?_); rintro e u ⟨rfl, hb⟩; replace hs := hs.below hb; clear hb) | (with_reducible refine store_vec rfl _ _ rfl O _ rfl rfl _ hs.this ?_; intro wq hq; replace hs := hs.sets hq; clear hq))
            go_roundw
            case rel => first | exact ⟨i + 1, by omega, by go_num, St.eqY HE.out hs⟩ | ((repeat apply Exists.intro); exact ⟨⟨i + 1, by omega, by go_num, St.eqY HE.out hs⟩, rfl⟩)
            case measure => (simp [intOf] <;> omega)
      · replace hc : sgn 16 x < 0 := by omega
        obtain ⟨g, hg⟩ : ∃ g : Nat → Nat, g = fun t => shN 16 12 t x := ⟨_, rfl⟩
        have g0 : g 0 = x := by rw [hg]; show Pl.u64 (sgn 16 x / 2 ^ 0) % 2 ^ 16 = x; rw [show (2 : Int) ^ 0 = 1 from rfl, Int.ediv_one]; unfold Pl.u64 sgn; rw [show (2 : Nat) ^ (16 - 1) = 32768 from rfl, show (2 : Int) ^ 16 = 65536 from rfl, show (2 : Nat) ^ 16 = 65536 from rfl]; split <;> omega
        have gs : ∀ t, bits .or .u64 ((g t : Int) / 2) 32768 = ((g (t + 1) : Nat) : Int) ∧ g t < 65536 := fun t => by rw [hg]; rw [show (((fun t => shN 16 12 t x) t : Nat) : Int) / 2 = ((shN 16 12 t x / 2 : Nat) : Int) by simp]; exact sh12n_16 x t bx hc
        have gl : ∀ t, g t < 2 ^ 64 := fun t => by rw [hg]; exact Nat.lt_of_lt_of_le (Nat.mod_lt _ (Nat.two_pow_pos _)) (Nat.pow_le_pow_right (by decide) (by decide))
        have hgp : (shN 16 12 p x) = g p := by rw [hg]
        rw [hgp] at HE
        have HZ2 := Lib.hid (gl p)
        have ex1 : (x : Int) / 32768 = 1 := by unfold sgn at hc; rw [show (2 : Nat) ^ (16 - 1) = 32768 from rfl, show (2 : Int) ^ 16 = 65536 from rfl] at hc; split at hc <;> omega
        have GS := Lib.hid gs
        have G0 := Lib.hid g0
        have GL := Lib.hid gl
        clear gs g0 hgp hg gl hc
        go_wp2_with (first | (go_at_call 34; ((with_reducible refine (rlanes16 _).mono ?_); rintro e w' ⟨rfl, rfl⟩)) | (with_reducible refine load_vec rfl _ rfl _ rfl _ (hs.kb.get hA (by omega)) ?_) | (go_at_call 35; (with_reducible refine (HG.out _).mono ?_); rintro e u ⟨rfl, hb⟩; replace hs := hs.below hb; clear hb))
        go_loopw [12, 14] (fun xv pv wx => ∃ t : Nat, t ≤ p ∧ pv = .int .i64 t ∧ xv = .int .u64 (g t : Nat) ∧ St W O (buildOn 0#128 16 (shR 16 12 p v) i) wx) (fun _ pv _ => p - (intOf pv).toNat)
        case atStart => exact ⟨0, Nat.zero_le _, rfl, by rw [G0.out], hs⟩
        case round =>
          clear hs
          obtain ⟨t, ht, rfl, rfl, hs⟩ := hrel
          by_cases htp : t < p
          · obtain ⟨gs1, gs2⟩ := GS.out t
            go_wp2_with fail
            go_roundw
            case rel => first | exact ⟨t + 1, by omega, by go_num, by first | go_num | exact congrArg (Value.int .u64) gs1, hs⟩ | ((repeat apply Exists.intro); exact ⟨⟨t + 1, by omega, by go_num, by first | go_num | exact congrArg (Value.int .u64) gs1, hs⟩, rfl⟩)
            case measure => (simp [intOf] <;> omega)
          · obtain rfl : t = p := by omega
            go_wp2_with (first | (go_at_call 34; ((with_reducible refine (rlanes16 _).mono ?_); rintro e w' ⟨rfl, rfl⟩)) | (with_reducible refine load_vec rfl _ rfl _ rfl _ hs.this ?_) | (go_at_call 36; (with_reducible refine (rset16z (buildOn 0#128 16 (shR 16 12 t v) i) _ _ i (g t) _ rfl rfl hlt HZ2.out).mono ?_); rintro e u ⟨rfl, hb⟩; replace hs := hs.below hb; clear hb) | (with_reducible refine store_vec rfl _ _ rfl O _ rfl rfl _ hs.this ?_; intro wq hq; replace hs := hs.sets hq; clear hq))
            go_roundw
            case rel => first | exact ⟨i + 1, by omega, by go_num, St.eqY HE.out hs⟩ | ((repeat apply Exists.intro); exact ⟨⟨i + 1, by omega, by go_num, St.eqY HE.out hs⟩, rfl⟩)
            case measure => (simp [intOf] <;> omega)
    · obtain rfl : i = 8 := by omega
      have hR' := hs.kb.get hR (by omega)
      go_wp2_with (first | (go_at_call 34; ((with_reducible refine (rlanes16 _).mono ?_); rintro e w' ⟨rfl, rfl⟩)) | (with_reducible refine load_vec rfl _ rfl _ rfl _ hs.this ?_) | (with_reducible refine store_vec rfl _ _ rfl (w.heap.size + 1) _ rfl rfl _ hR' ?_; intro wq hq))
      refine bodyPost_ret (results_vec_tmp rfl _ _ (w.heap.size + 1) _ _ rfl rfl hq.this) rfl ⟨?_, (hs.kb.to_below hZ hWO).trans (hq.below.mono (by omega))⟩
      exact congrArg (fun z => Ending.returned (.tuple #[.agg (cells z), .int .i64 0])) (on_any 16 (shR 16 12 p v) v (by decide))

set_option maxRecDepth 100000 in
set_option maxHeartbeats 4000000 in
theorem rsh_16_13 (v : Vec) (n p : Nat) (hp : n % 16 = p) (hn : n < 4294967296) (w : World) : Calls Try.prog 15 #[.int .i64 64909, .agg (cells v), .int .u32 (n : Int)] w fun e w' => e = .returned (.tuple #[.agg (cells (vs 16 13 p v)), .int .i64 0]) ∧ Below w.heap.size w w' := by
  have hp2 : (n : Int) % 16 = (p : Int) := by omega
  have hp3 : p < 16 := by omega
  clear hp
  have hs : HL w [(w.heap.size + 1, 0), (w.heap.size, v)] _ := HL.two w v 0
  rw [cells_zero] at hs
  have T := Lib.hid (fun W => rwidth_any 64909 W (by decide))
  rw [show wF 64909 = 16 by decide] at T
  have K := Lib.hid (fun W => roff_some 64909 13 W (by decide) (by decide) (by decide))
  go_enter Try.func15, Try.ntmps15
  go_wp2_with (first | (go_at_call 30; (with_reducible refine (T.out _).mono ?_); rintro e u ⟨rfl, hb⟩; replace hs := hs.below hb; clear hb) | (go_at_call 33; (with_reducible refine (K.out _).mono ?_); rintro e u ⟨rfl, hb⟩; replace hs := hs.below hb; clear hb))
  rw [← cells_zero]
  obtain ⟨O, hOO⟩ : ∃ B, B = u.heap.size := ⟨_, rfl⟩
  have hlow := HL.low hs
  rw [← hOO] at hlow ⊢
  obtain ⟨W, hW⟩ : ∃ W, W = u.alloc (.cells (cells 0) 23) := ⟨_, rfl⟩
  have hA : W.heap[w.heap.size]? = some (.cells (cells v) 23 (0, 0)) := hW ▸ blk_alloc (hs.hold (_, v) (List.mem_cons_of_mem _ List.mem_cons_self)) _
  have hR : W.heap[w.heap.size + 1]? = some (.cells (cells 0) 23 (0, 0)) := hW ▸ blk_alloc (hs.hold (_, 0) List.mem_cons_self) _
  have hO : W.heap[O]? = some (.cells (cells 0) 23 (0, 0)) := by rw [hW, hOO]; exact heap_alloc_new _ _
  have hZ : Below w.heap.size w W := hW ▸ hs.bel.alloc hs.bel.size _
  have nR : w.heap.size + 1 < O := hlow (_, 0) List.mem_cons_self
  have hWO : w.heap.size ≤ O := by omega
  rw [← hW]
  clear hW hOO hlow hs T K u
  go_loopw [11] (fun iv wr => ∃ i : Nat, i ≤ 8 ∧ iv = .int .i64 i ∧ St W O (buildOn 0#128 16 (shR 16 13 p v) i) wr) (fun iv _ => 8 - (intOf iv).toNat)
  case atStart => exact ⟨0, Nat.zero_le _, rfl, St.start hO⟩
  case round =>
    obtain ⟨i, hi, rfl, hs⟩ := hrel
    by_cases hlt : i < 8
    · obtain ⟨x, hxx⟩ : ∃ x, x = getN v 16 i := ⟨_, rfl⟩
      have bx : x < 65536 := hxx ▸ getN_lt v 16 i
      have G := fun W => rget16z v i i W rfl hlt
      rw [← hxx] at G
      have HG := Lib.hid G
      clear G
      have HM : (shN 16 13 p x) % 2 ^ 16 = shR 16 13 p v i % 2 ^ 16 := by
        show _ = Pl.u64 ((getN v 16 i : Int) / 2 ^ p) % 2 ^ 16
        rw [← hxx]
        rfl
      have HE := Lib.hid (step_eq 16 (shR 16 13 p v) 0#128 i (shN 16 13 p x) HM)
      clear HM hxx
      obtain ⟨g, hg⟩ : ∃ g : Nat → Nat, g = fun t => shN 16 13 t x := ⟨_, rfl⟩
      have g0 : g 0 = x := by rw [hg]; show Pl.u64 ((x : Int) / 2 ^ 0) = x; rw [show (2 : Int) ^ 0 = 1 from rfl, Int.ediv_one]; unfold Pl.u64; omega
      have gs : ∀ t, (g t : Int) / 2 = ((g (t + 1) : Nat) : Int) := fun t => by rw [hg]; exact sh13 t x (by omega)
      have gl : ∀ t, g t < 2 ^ 64 := fun t => by rw [hg]; exact (u64_lt ((x : Int) / 2 ^ t))
      have hgp : (shN 16 13 p x) = g p := by rw [hg]
      rw [hgp] at HE
      have HZ2 := Lib.hid (gl p)
      have GS := Lib.hid gs
      have G0 := Lib.hid g0
      have GL := Lib.hid gl
      clear gs g0 hgp hg gl
      go_wp2_with (first | (go_at_call 34; ((with_reducible refine (rlanes16 _).mono ?_); rintro e w' ⟨rfl, rfl⟩)) | (with_reducible refine load_vec rfl _ rfl _ rfl _ (hs.kb.get hA (by omega)) ?_) | (go_at_call 35; (with_reducible refine (HG.out _).mono ?_); rintro e u ⟨rfl, hb⟩; replace hs := hs.below hb; clear hb))
      go_loopw [12, 14] (fun xv pv wx => ∃ t : Nat, t ≤ p ∧ pv = .int .i64 t ∧ xv = .int .u64 (g t : Nat) ∧ St W O (buildOn 0#128 16 (shR 16 13 p v) i) wx) (fun _ pv _ => p - (intOf pv).toNat)
      case atStart => exact ⟨0, Nat.zero_le _, rfl, by rw [G0.out], hs⟩
      case round =>
        clear hs
        obtain ⟨t, ht, rfl, rfl, hs⟩ := hrel
        by_cases htp : t < p
        · have gs1 := GS.out t
          have gw : IntKind.u64.wrap ((g (t + 1) : Nat) : Int) = ((g (t + 1) : Nat) : Int) := IntWalk.u64_in _ (by have := GL.out (t + 1); omega)
          go_wp2_with fail
          go_roundw
          case rel => first | exact ⟨t + 1, by omega, by go_num, by first | go_num | exact congrArg (Value.int .u64) gs1, hs⟩ | ((repeat apply Exists.intro); exact ⟨⟨t + 1, by omega, by go_num, by first | go_num | exact congrArg (Value.int .u64) gs1, hs⟩, rfl⟩)
          case measure => (simp [intOf] <;> omega)
        · obtain rfl : t = p := by omega
          go_wp2_with (first | (go_at_call 34; ((with_reducible refine (rlanes16 _).mono ?_); rintro e w' ⟨rfl, rfl⟩)) | (with_reducible refine load_vec rfl _ rfl _ rfl _ hs.this ?_) | (go_at_call 36; (with_reducible refine (rset16z (buildOn 0#128 16 (shR 16 13 t v) i) _ _ i (g t) _ rfl rfl hlt HZ2.out).mono ?_); rintro e u ⟨rfl, hb⟩; replace hs := hs.below hb; clear hb) | (with_reducible refine store_vec rfl _ _ rfl O _ rfl rfl _ hs.this ?_; intro wq hq; replace hs := hs.sets hq; clear hq))
          go_roundw
          case rel => first | exact ⟨i + 1, by omega, by go_num, St.eqY HE.out hs⟩ | ((repeat apply Exists.intro); exact ⟨⟨i + 1, by omega, by go_num, St.eqY HE.out hs⟩, rfl⟩)
          case measure => (simp [intOf] <;> omega)
    · obtain rfl : i = 8 := by omega
      have hR' := hs.kb.get hR (by omega)
      go_wp2_with (first | (go_at_call 34; ((with_reducible refine (rlanes16 _).mono ?_); rintro e w' ⟨rfl, rfl⟩)) | (with_reducible refine load_vec rfl _ rfl _ rfl _ hs.this ?_) | (with_reducible refine store_vec rfl _ _ rfl (w.heap.size + 1) _ rfl rfl _ hR' ?_; intro wq hq))
      refine bodyPost_ret (results_vec_tmp rfl _ _ (w.heap.size + 1) _ _ rfl rfl hq.this) rfl ⟨?_, (hs.kb.to_below hZ hWO).trans (hq.below.mono (by omega))⟩
      exact congrArg (fun z => Ending.returned (.tuple #[.agg (cells z), .int .i64 0])) (on_any 16 (shR 16 13 p v) v (by decide))

end Go.Proofs.Ytgemlndpmbeaeaa
