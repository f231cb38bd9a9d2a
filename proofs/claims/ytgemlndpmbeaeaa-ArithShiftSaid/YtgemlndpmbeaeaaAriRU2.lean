/-
  plaitref05.Un: the count of ones.
-/
import Derived.Test.YtgemlndpmbeaeaaAriRU
set_option linter.unusedSimpArgs false
set_option linter.unusedVariables false
namespace Go.Proofs.Ytgemlndpmbeaeaa
open Go.RowKit Pl

set_option maxRecDepth 100000 in
set_option maxHeartbeats 4000000 in
theorem run_8_2 (v : Vec) (w : World) : Calls Try.prog 29 #[.int .i64 64866, .agg (cells v)] w fun e w' => e = .returned (.tuple #[.agg (cells (vu3 8 2 v)), .int .i64 0]) ∧ Below w.heap.size w w' := by
  have hs : HL w [(w.heap.size + 1, 0), (w.heap.size, v)] _ := HL.two w v 0
  rw [cells_zero] at hs
  have T := Lib.hid (fun W => rwidth_any 64866 W (by decide))
  rw [show wF 64866 = 8 by decide] at T
  have K := Lib.hid (fun W => roff_some 64866 2 W (by decide) (by decide) (by decide))
  go_enter Try.func29, Try.ntmps29
  go_wp2_with (first | (go_at_call 30; (with_reducible refine (T.out _).mono ?_); rintro e u ⟨rfl, hb⟩; replace hs := hs.below hb; clear hb) | (go_at_call 33; (with_reducible refine (K.out _).mono ?_); rintro e u ⟨rfl, hb⟩; replace hs := hs.below hb; clear hb))
  rw [← cells_zero]
  obtain ⟨O, hOO⟩ : ∃ B, B = u.heap.size := ⟨_, rfl⟩
  have hlow := HL.low hs
  rw [← hOO] at hlow ⊢
  obtain ⟨W, hW⟩ : ∃ W, W = u.alloc (.cells (cells 0) 23) := ⟨_, rfl⟩
  have hA : W.heap[w.heap.size]? = some (.cells (cells v) 23 (0, 0)) := hW ▸ blk_alloc (hs.hold (_, v) (List.mem_cons_of_mem _ List.mem_cons_self)) _
  have hR : W.heap[w.heap.size + 1]? = some (.cells (cells 0) 23 (0, 0)) := hW ▸ blk_alloc (hs.hold (_, 0) List.mem_cons_self) _
  have hO : W.heap[O]? = some (.cells (cells 0) 23 (0, 0)) := by rw [hW, hOO]; exact heap_alloc_new _ _
  have hZ : Below w.heap.size w W := hW ▸ hs.bel.alloc hs.bel.size _
  have nR : w.heap.size + 1 < O := hlow (_, 0) List.mem_cons_self
  have hWO : w.heap.size ≤ O := by omega
  rw [← hW]
  clear hW hOO hlow hs T K u
  go_loopw [9] (fun iv wr => ∃ i : Nat, i ≤ 16 ∧ iv = .int .i64 i ∧ St W O (buildOn 0#128 8 (unR3 8 2 v) i) wr) (fun iv _ => 16 - (intOf iv).toNat)
  case atStart => exact ⟨0, Nat.zero_le _, rfl, St.start hO⟩
  case round =>
    obtain ⟨i, hi, rfl, hs⟩ := hrel
    by_cases hlt : i < 16
    · obtain ⟨x, hxx⟩ : ∃ x, x = getN v 8 i := ⟨_, rfl⟩
      have bx : x < 256 := hxx ▸ getN_lt v 8 i
      have G := fun W => rget8z v i i W rfl hlt
      have S := fun W => rsigned8z v i i W rfl hlt
      rw [← hxx] at G S
      obtain ⟨s, hss⟩ : ∃ s, s = sgn 8 x := ⟨_, rfl⟩
      rw [← hss] at S
      have HG := Lib.hid G
      have HS := Lib.hid S
      clear G S
      obtain ⟨P, hP, hPX⟩ : ∃ P : Nat → Nat, Pop P ∧ unR3 8 2 v i = P x := ⟨Go.Lib.onesCount, pop_ones, by rw [hxx]; rfl⟩
      obtain ⟨Z, hZe⟩ : ∃ Z, Z = P x := ⟨_, rfl⟩
      have HE := Lib.hid (step_eq 8 (unR3 8 2 v) 0#128 i Z (by rw [hPX, hZe]))
      have hz8 : Z ≤ 8 := hZe ▸ hP.le x bx
      have HZ2 := Lib.hid (show Z < 2 ^ 64 by omega)
      have HZE := Lib.hid hZe
      have BX := Lib.hid bx
      have q2 : IntKind.u64.wrap (-(x : Int)) = ((Pl.u64 (-(x : Int)) : Nat) : Int) := wrap_u64 _
      clear hPX hZe hss hxx bx
      go_wp2_with (first | (go_at_call 34; ((with_reducible refine (rlanes8 _).mono ?_); rintro e w' ⟨rfl, rfl⟩)) | (with_reducible refine load_vec rfl _ rfl _ rfl _ (hs.kb.get hA (by omega)) ?_) | ((with_reducible refine load_vec_g ?_ _ rfl _ rfl _ (hs.kb.get hA (by omega)) ?_); (focus rfl)) | (with_reducible refine load_vec rfl _ rfl _ rfl _ hs.this ?_) | (go_at_call 35; (with_reducible refine (HG.out _).mono ?_); rintro e u ⟨rfl, hb⟩; replace hs := hs.below hb; clear hb) | (go_at_call 44; (with_reducible refine (HS.out _).mono ?_); rintro e u ⟨rfl, hb⟩; replace hs := hs.below hb; clear hb) | (go_at_call 36; (with_reducible refine (rset8z (buildOn 0#128 8 (unR3 8 2 v) i) _ _ i Z _ rfl rfl hlt HZ2.out).mono ?_); rintro e u ⟨rfl, hb⟩; replace hs := hs.below hb; clear hb) | (with_reducible refine store_vec rfl _ _ rfl O _ rfl rfl _ hs.this ?_; intro wq hq; replace hs := hs.sets hq; clear hq))
      go_loopw [10, 11] (fun xv nv wx => ∃ X N : Nat, xv = .int .u64 X ∧ nv = .int .u64 N ∧ X < 256 ∧ N + P X = Z ∧ St W O (buildOn 0#128 8 (unR3 8 2 v) i) wx) (fun xv _ _ => (intOf xv).toNat)
      case atStart => exact ⟨x, 0, rfl, rfl, BX.out, by rw [Nat.zero_add]; exact HZE.out.symm, hs⟩
      case round =>
        clear hs
        obtain ⟨X, N, rfl, rfl, hX, hN, hs⟩ := hrel
        by_cases h0 : 0 < X
        · have hst := hP.st X hX
          have e1 : IntKind.u64.wrap ((N : Int) + (X : Int) % 2) = ((N + X % 2 : Nat) : Int) := by rw [IntWalk.u64_in _ (by omega)]; omega
          have HST := Lib.hid (show N + X % 2 + P (X / 2) = Z by omega)
          clear hst hN
          go_wp2_with fail
          go_roundw
          case rel => first | exact ⟨X / 2, N + X % 2, by go_num, by go_num, by omega, HST.out, hs⟩ | ((repeat apply Exists.intro); exact ⟨⟨X / 2, N + X % 2, by go_num, by go_num, by omega, HST.out, hs⟩, rfl⟩)
          case measure => (simp [intOf] <;> omega)
        · obtain rfl : X = 0 := by omega
          rw [hP.z, Nat.add_zero] at hN
          subst hN
          go_wp2_with (first | (go_at_call 34; ((with_reducible refine (rlanes8 _).mono ?_); rintro e w' ⟨rfl, rfl⟩)) | (with_reducible refine load_vec rfl _ rfl _ rfl _ (hs.kb.get hA (by omega)) ?_) | ((with_reducible refine load_vec_g ?_ _ rfl _ rfl _ (hs.kb.get hA (by omega)) ?_); (focus rfl)) | (with_reducible refine load_vec rfl _ rfl _ rfl _ hs.this ?_) | (go_at_call 35; (with_reducible refine (HG.out _).mono ?_); rintro e u ⟨rfl, hb⟩; replace hs := hs.below hb; clear hb) | (go_at_call 44; (with_reducible refine (HS.out _).mono ?_); rintro e u ⟨rfl, hb⟩; replace hs := hs.below hb; clear hb) | (go_at_call 36; (with_reducible refine (rset8z (buildOn 0#128 8 (unR3 8 2 v) i) _ _ i N _ rfl rfl hlt HZ2.out).mono ?_); rintro e u ⟨rfl, hb⟩; replace hs := hs.below hb; clear hb) | (with_reducible refine store_vec rfl _ _ rfl O _ rfl rfl _ hs.this ?_; intro wq hq; replace hs := hs.sets hq; clear hq))
          go_roundw
          case rel => first | exact ⟨i + 1, by omega, by go_num, St.eqY HE.out hs⟩ | ((repeat apply Exists.intro); exact ⟨⟨i + 1, by omega, by go_num, St.eqY HE.out hs⟩, rfl⟩)
          case measure => (simp [intOf] <;> omega)
    · obtain rfl : i = 16 := by omega
      have hR' := hs.kb.get hR (by omega)
      go_wp2_with (first | (go_at_call 34; ((with_reducible refine (rlanes8 _).mono ?_); rintro e w' ⟨rfl, rfl⟩)) | (with_reducible refine load_vec rfl _ rfl _ rfl _ hs.this ?_) | (with_reducible refine store_vec rfl _ _ rfl (w.heap.size + 1) _ rfl rfl _ hR' ?_; intro wq hq))
      refine bodyPost_ret (results_vec_tmp rfl _ _ (w.heap.size + 1) _ _ rfl rfl hq.this) rfl ⟨?_, (hs.kb.to_below hZ hWO).trans (hq.below.mono (by omega))⟩
      exact congrArg (fun z => Ending.returned (.tuple #[.agg (cells z), .int .i64 0])) (on_any 8 (unR3 8 2 v) v (by decide))

end Go.Proofs.Ytgemlndpmbeaeaa
