/-
  Texts TaV4, SwB, SwP.
-/
import Derived.Test.YtmfmokblmipagaaGreatR03
import Derived.Test.YtmfmokblmipagaaGreatR24
import Derived.Test.YtmfmokblmipagaaGreatR26
import Derived.Test.YtmfmokblmipagaaGreatR38
set_option linter.unusedSimpArgs false
set_option linter.unusedVariables false
set_option maxHeartbeats 8000000
open Pl
section
namespace Go.Proofs.YtmfmokblmipagaaGreat
open Go.RowKit Pl
set_option maxRecDepth 100000 in
theorem seq_11 (a : Int) (off lo b : Nat) (hi : Int) (L : Value) (w : World) (hb : b ≤ 1000) (h2 : off < 4294967296) :
 Calls Tryz.prog 11 #[inV 64779 a off lo hi L, .int .i64 (b : Int)] w fun e w' => ∃ v, e = .returned (.tuple #[v, .int .i64 3, .int .i64 0]) ∧ SQ w ([setc (b + 2), setc (b + 1), setc b, getc b, getc (b + 2), atc 55 (off + 8), getc b, getc (b + 1), atc 55 off]) v w' := by
 have hZ : ∀ W, Calls Tryz.prog 13 #[.int .i64 64779] W fun e w' => e = .returned (.int .i64 16) ∧ w' = W := fun W => vsize_any 64779 W (by decide)
 have HZ := Lib.hid hZ
 clear hZ
 unfold inV
 have e1 : IntKind.i64.wrap 11 = 11 := IntWalk.i64_in _ (by decide)
 have e2 : IntKind.u64.wrap (off : Int) = (off : Int) := by rw [IntKind.wrap_u64]; omega
 have d1 : decide ((b : Int) < 0) = false := decide_eq_false (by omega)
 have d2 : decide ((4032 : Int) < (b : Int)) = false := decide_eq_false (by omega)
 have d3 : decide ((off : Int) < 0) = false := decide_eq_false (by omega)
 have d4 : decide ((4294967296 : Int) ≤ (off : Int)) = false := decide_eq_false (by omega)
 have ew16 : IntKind.i64.wrap 16 = 16 := IntWalk.i64_in _ (by decide)
 go_enter Tryz.func11, Tryz.ntmps11
 go_wp2_with fail
 go_quiet ((go_at_call 13; exact Calls.quiet_of_same (HZ.out _)))
 have hs : IB w w.heap.size (.cells #[.int .i64 64779, .int .i64 (a : Int), .int .i64 (off : Int), .int .u64 (lo : Int), .int .u64 hi, L] 25 (0, 0)) ((w.alloc (.cells #[.int .i64 64779, .int .i64 (a : Int), .int .i64 (off : Int), .int .u64 (lo : Int), .int .u64 hi, L] 25)).drewN nq) := ⟨((Below.refl _ _).alloc (Nat.le_refl _) _).trans ⟨rfl, rfl, rfl, Nat.le_refl _, fun _ _ => rfl⟩, heap_alloc_new _ _⟩
 generalize ((w.alloc (.cells #[.int .i64 64779, .int .i64 (a : Int), .int .i64 (off : Int), .int .u64 (lo : Int), .int .u64 hi, L] 25)).drewN nq) = W at *
 simp only [Exit.then]
 go_at_K
 go_wp2_with fail
 refine region_do (IB w w.heap.size (.cells #[.int .i64 64779, .int .i64 (a : Int), .int .i64 (off : Int), .int .u64 (lo : Int), .int .u64 hi, L] 25 (0, 0))) 30 (by kernel_rfl) (by kernel_rfl) hs.drew ?_
 simp only [zF, zE, zD, zC]
 repeat (first | (refine do_ldi rfl _ rfl _ 0 rfl (.int .i64 64779) (fun u hS => hS.cell 0 rfl) ?_; simp only [Act.put, z5, z6, z7]) | (refine do_ldi rfl _ rfl _ 2 rfl (.int .i64 (off : Int)) (fun u hS => hS.cell 2 rfl) ?_; simp only [Act.put, z5, z6, z7]) | (refine do_ldu rfl _ rfl _ 3 rfl (.int .u64 (lo : Int)) (fun u hS => hS.cell 3 rfl) ?_; simp only [Act.put, z5, z6, z7]) | (refine wpD_pure (v := ?_) rfl (fun u => ?_) ?_; rotate_left; (focus (go_simp; (try with_reducible rfl); done)); simp only [Act.put, z5, z6, z7]) | (refine wpD_pureg (v := ?_) rfl (fun u => ?_) ?_; rotate_left; (focus (go_simp; (try with_reducible rfl); done)); simp only [Act.put, z5, z6, z7]) | (refine wpD_skip rfl ?_; simp only [Act.put, z5, z6, z7]))
 apply wpD_nil
 intro wq hq
 have hI := hq.blk
 have hbq := hq.bel
 clear hq hs
 go_wp2_with fail
 refine region_cv (SS wq b 16 off) (fun v => ∃ A, v = .pointer (some ⟨A, 0, none⟩)) 8 1 7 [0, 2, 3, 4, 5] [6] [] rfl (by kernel_rfl) (by decide) rfl rfl rfl rfl SS.start ?_
 simp only [opsAt, List.getElem?_cons_zero, List.getElem?_cons_succ, List.drop_succ_cons, List.drop_zero]
 repeat (first | (refine wpDA_here rfl (fun D w2 hS => run_ldq _ isAgg_int _ rfl w.heap.size 2 rfl (.int .i64 (off : Int)) (by rw [cell_of_row w2 w.heap.size 2 _ _ _ (hS.get hI)]; rfl)) ?_; simp only [Act.put, z5, z6, z7]) | (refine wpDA_pure (v := ?_) rfl (fun u => ?_) ?_; rotate_left; (focus (go_simp; (try with_reducible rfl); done)); simp only [Act.put, z5, z6, z7]))
 refine wpDA_nil ⟨22, #[.int .i64 (b : Int)], fun u => ?_, fun u hS => ?_, ?_⟩
 ·go_simp
  try with_reducible rfl
 ·refine (at_k b u).mono ?_
  rintro e u2 ⟨rfl, hT, hb2⟩
  exact ⟨_, ⟨_, rfl⟩, ⟨hS.bel.trans (hb2.mono hS.bel.size), fun p hp => ⟨_, (by simpa using hp.symm), hS.bel.size, hT⟩, fun m p hp => by simp at hp⟩, rfl⟩
 rintro v ⟨A, rfl⟩
 simp only [opsAt, List.getElem?_cons_zero, List.getElem?_cons_succ, List.drop_succ_cons, List.drop_zero, Act.put, List.setIfInBounds_toArray, List.set_cons_zero, List.set_cons_succ]
 repeat (refine wpDA_pure (v := ?_) rfl (fun u => ?_) ?_; rotate_left; (focus (go_simp; (try with_reducible rfl); done)); simp only [Act.put, z5, z6, z7])
 refine wpDA_nil ⟨fun u hS => ?_, fun v => ?_⟩
 ·obtain ⟨A1, e, hS2⟩ := hS.box
  injection e with e
  injection e with e
  injection e with e
  subst e
  exact ⟨_, _, hS2, run_boxM _ _ _ _ _ _ (by first | rfl | omega) (by first | rfl | omega) rfl rfl⟩
 refine wpDA_nil fun u hS => ?_
 simp only [Act.put, z5, z6, z7]
 obtain ⟨A1, M, e3, rfl, hA, hM0, hT, hM⟩ := hS.d2 _ _ rfl
 injection e3 with e3
 injection e3 with e3
 injection e3 with e3
 subst e3
 have hbu := Lib.hid (hbq.trans (hS.bel.mono hbq.size))
 have hAw := Nat.le_trans hbq.size hA
 have HI := hS.get hI
 clear hS hI hbq hM0
 have T := hT.start
 have hB := hM.blk
 have HM := Lib.hid hM
 clear hT
 go_wp2_with (first | ((with_reducible refine load_w ?_ 77 isAgg_asm _ rfl _ _ rfl _ _ (T.get hB hM.ne hM.nr) _ rfl ?_); (focus rfl)) | (go_at_call 29; obtain ⟨R1, hA1, hC1, hF1⟩ := T.ex; have hM1 := hM.to hC1 hF1; refine Calls.mono (save_k A b 0 3 _ R1 _ hA1 (by decide) (by omega) (by (try simp only [zP, zN, zM, zL, zH, regs_len]); omega)) ?_; clear T; rintro e u3 ⟨v, R3, rfl, hA3, hC3, hF3, hI⟩; have hM := hM1.to hC3 hF3; have hC := Chg.trans hC1 hC3 hF1; have hF := Frsh.trans hF1 hF3 hC1.size; clear hC1 hC3 hF1 hF3 hM1 hA1; have T := hA3.start; have hB := hM.blk; obtain ⟨g, c, rfl, h3⟩ := hI.three; clear hA3 hI))
 obtain ⟨hv0, hv1, hv2⟩ := h3.get T
 have hB4 := T.get hB hM.ne hM.nr
 refine region_sp1 (LS _ #[.int .i64 ((b + 0 : Nat) : Int), .int .i64 ((b + 0 + 2 : Nat) : Int)] 3 2) 13 12 [0, 1, 2, 3, 4, 5, 6, 7, 8, 9, 10, 11] rfl (by kernel_rfl) rfl rfl LS.start ?_
 simp only [opsAt, List.getElem?_cons_zero, List.getElem?_cons_succ, List.drop_succ_cons, List.drop_zero]
 repeat (first | (refine wpDA_here rfl (fun D w hS => run_ldq _ isAgg_asm _ rfl M 0 rfl (.pointer (some ⟨A, 0, none⟩)) (by rw [cell_of_row w M 0 _ _ _ (hS.get hB4)]; rfl)) ?_; simp only [Act.put, z5, z6, z7]) | (refine wpDA_here rfl (fun D w hS => run_ldq _ isAgg_int _ rfl g 0 rfl (.int .i64 ((b + 0 : Nat) : Int)) (cell_keep hv0 hS.bel)) ?_; simp only [Act.put, z5, z6, z7]) | (refine wpDA_here rfl (fun D w hS => run_ldq _ isAgg_int _ rfl g 2 rfl (.int .i64 ((b + 0 + 2 : Nat) : Int)) (cell_keep hv2 hS.bel)) ?_; simp only [Act.put, z5, z6, z7]) | (refine wpDA_pure (v := ?_) rfl (fun u => ?_) ?_; rotate_left; (focus (go_simp; (try with_reducible rfl); done)); simp only [Act.put, z5, z6, z7]))
 refine wpDA_nil ⟨fun w hS => ⟨_, _, hS.mk1, run_bi2_op _ _ _ _ rfl rfl rfl⟩, fun s w1 hS => ?_⟩
 obtain ⟨x2, rfl, hx3, hx4⟩ := hS.new s rfl
 have hb1 := hS.bel
 clear hS hv0 hv1 hv2 hB4
 go_wp2_with (first | (go_at_call 38; refine Calls.mono (TR.stepB T hb1 fun R2 h => get_k A b _ _ _ [b + 0, b + 0 + 2] R2 _ (h.below hb1) (IL.far h x2 hx3 _ _ hx4 _ _ _ rfl (vals2 (b + 0) (b + 0 + 2))) (by (try simp only [zP, zN, zM, zL, zH, regs_len]); omega)) ?_; clear hb1; rintro e u2 ⟨rfl, T⟩) | (go_at_call 39; (with_reducible refine Calls.mono (TR.stepM T hM fun R2 h m => mat_z M A 16 off b _ 55 8 _ _ (by decide) (by decide) _ R2 _ h m (by (try simp only [zP, zN, zM, zL, zH, regs_len]); omega) (by omega)) ?_); rintro e u2 ⟨rfl, T⟩))
 clear hx3 hx4
 obtain ⟨hv0, hv1, hv2⟩ := h3.get T
 have hB4 := T.get hB hM.ne hM.nr
 refine region_sp1 (LS _ #[.int .i64 ((b + 0 : Nat) : Int), .int .i64 ((b + 0 + 1 : Nat) : Int)] 3 2) 13 12 [0, 1, 2, 3, 4, 5, 6, 7, 8, 9, 10, 11] rfl (by kernel_rfl) rfl rfl LS.start ?_
 simp only [opsAt, List.getElem?_cons_zero, List.getElem?_cons_succ, List.drop_succ_cons, List.drop_zero]
 repeat (first | (refine wpDA_here rfl (fun D w hS => run_ldq _ isAgg_asm _ rfl M 0 rfl (.pointer (some ⟨A, 0, none⟩)) (by rw [cell_of_row w M 0 _ _ _ (hS.get hB4)]; rfl)) ?_; simp only [Act.put, z5, z6, z7]) | (refine wpDA_here rfl (fun D w hS => run_ldq _ isAgg_int _ rfl g 0 rfl (.int .i64 ((b + 0 : Nat) : Int)) (cell_keep hv0 hS.bel)) ?_; simp only [Act.put, z5, z6, z7]) | (refine wpDA_here rfl (fun D w hS => run_ldq _ isAgg_int _ rfl g 1 rfl (.int .i64 ((b + 0 + 1 : Nat) : Int)) (cell_keep hv1 hS.bel)) ?_; simp only [Act.put, z5, z6, z7]) | (refine wpDA_pure (v := ?_) rfl (fun u => ?_) ?_; rotate_left; (focus (go_simp; (try with_reducible rfl); done)); simp only [Act.put, z5, z6, z7]))
 refine wpDA_nil ⟨fun w hS => ⟨_, _, hS.mk1, run_bi2_op _ _ _ _ rfl rfl rfl⟩, fun s w1 hS => ?_⟩
 obtain ⟨x2, rfl, hx3, hx4⟩ := hS.new s rfl
 have hb1 := hS.bel
 clear hS hv0 hv1 hv2 hB4
 go_wp2_with (first | (go_at_call 38; refine Calls.mono (TR.stepB T hb1 fun R2 h => get_k A b _ _ _ [b + 0, b + 0 + 1] R2 _ (h.below hb1) (IL.far h x2 hx3 _ _ hx4 _ _ _ rfl (vals2 (b + 0) (b + 0 + 1))) (by (try simp only [zP, zN, zM, zL, zH, regs_len]); omega)) ?_; clear hb1; rintro e u2 ⟨rfl, T⟩) | (go_at_call 39; (with_reducible refine Calls.mono (TR.stepM T hM fun R2 h m => mat_z M A 16 off b _ 55 0 _ _ (by decide) (by decide) _ R2 _ h m (by (try simp only [zP, zN, zM, zL, zH, regs_len]); omega) (by omega)) ?_); rintro e u2 ⟨rfl, T⟩))
 have T := TR.trans hC hF T
 have T9 := TR.cast (T) ([setc (b + 2), setc (b + 1), setc b, getc b, getc (b + 2), atc 55 (off + 8), getc b, getc (b + 1), atc 55 off]) 3 (by simp [regs]) (by first | rfl | omega)
 obtain ⟨v, hSQ, c1, c2, c3⟩ := TR.done T9 hbu.out hAw HM.out
 have HSQ := Lib.hid hSQ
 clear hSQ T9 T
 go_quiet (fail)
 simp only [Exit.then]
 go_at_K
 go_wp2_with fail
 go_ret3
 exact ⟨v, rfl, HSQ.out.mono ⟨rfl, rfl, rfl, Nat.le_refl _, fun _ _ => rfl⟩⟩
end Go.Proofs.YtmfmokblmipagaaGreat
end
section
namespace Go.Proofs.YtmfmokblmipagaaGreat
open Go.RowKit Pl
theorem five_sz (a b c d e a' b' c' d' e' : Value) : #[a, b, c, d, e].size = #[a', b', c', d', e'].size := rfl
set_option maxRecDepth 100000 in
theorem swkind_110 (w : World) : Calls Tryz.prog 21 #[.int .i64 64878] w fun e w' => e = .returned (.tuple #[.int .i64 8, .int .i64 14, .bool true]) ∧ Below w.heap.size w w' := by
 have hr : ∃ r, vrowAt 64878 = some r := by
  cases h : vrowAt 64878 with
  | none => exact absurd h (by decide +kernel)
  | some r => exact ⟨r, rfl⟩
 obtain ⟨r, hr⟩ := hr
 have HOF := Lib.hid (fun W => of_row 64878 r W (by decide) hr)
 clear hr
 go_enter Tryz.func21, Tryz.ntmps21
 go_wp2_with (first | (go_at_call 34; refine (HOF.out _).mono ?_; rintro e u1 ⟨s, t, pl, rfl, hs, ht, hb1⟩) | ((with_reducible refine store_newk rfl 50 _ _ rfl _ _ rfl rfl (infsize _ _ _ _ _) (five_sz _ _ _ _ _ _ _ _ _ _) (all5 _ _ _ (owns_one hs).1 (owns_one ht).1) ?_); intro u2 hb2 hF lF))
 first | go_ret | go_ret3
 exact ⟨rfl, hb1.trans (hb2.mono hb1.size)⟩
set_option maxRecDepth 100000 in
theorem swseq_110 (a off lo hi : Int) (L : Value) (b : Nat) (w : World) (hb : b ≤ 1000) :
 Calls Tryz.prog 8 #[inV 64878 a off lo hi L, .int .i64 (b : Int)] w fun e w' => ∃ v, e = .returned (.tuple #[v, .int .i64 4, .int .i64 0]) ∧ SQ w (([b + 3, b + 2, b + 1, b].map setc) ++ addC 8 9259542123273814144 9187201950435737471 b (b + 2) ++ addC 8 9259542123273814144 9187201950435737471 (b + 1) (b + 3)) v w' := by
 have HKD := Lib.hid swkind_110
 have HTP := Lib.hid tops_8
 have HAT := Lib.hid (at_k b)
 unfold inV
 have d1 : decide ((b : Int) < 0) = false := decide_eq_false (by omega)
 have d2 : decide ((4032 : Int) < (b : Int)) = false := decide_eq_false (by omega)
 go_enter Tryz.func8, Tryz.ntmps8
 go_upto_region 5 with (first | (go_at_call 21; refine (HKD.out _).mono ?_; rintro e u1 ⟨rfl, hb1⟩) | (go_at_call 22; refine (HAT.out _).mono ?_; rintro e u2 ⟨rfl, hT, hb2⟩) | (go_at_call 23; refine (HTP.out _).mono ?_; rintro e u3 ⟨rfl, rfl⟩))
 have hbw1 : Below w.heap.size w u3 := (((Below.refl _ _).alloc (Nat.le_refl _) _).trans (hb1.mono (by simp))).trans ((((Below.refl _ _).alloc (Nat.le_refl _) _).trans (hb2.mono (by simp))).mono (by have := hb1.size; simp at this; omega))
 have hK3 : u3.heap[u1.heap.size]? = some (.cells #[.int .i64 14] 3 (0, 0)) := blk_keep (heap_alloc_new _ _) hb2
 have eA : (u1.alloc (Obj.cells #[Value.int .i64 14] 3)).heap.size = u1.heap.size + 1 := by simp
 have hA0 : w.heap.size ≤ u1.heap.size + 1 := by have := hb1.size; simp at this; omega
 have hK0 : u1.heap.size ≠ u1.heap.size + 1 := by omega
 rw [eA] at hT
 obtain ⟨A, hA⟩ : ∃ A, A = u1.heap.size + 1 := ⟨_, rfl⟩
 rw [← hA] at hT hA0 hK0 ⊢
 generalize u1.heap.size = K at hK3 hK0 ⊢
 obtain ⟨W, hW⟩ : ∃ W, W = (u3.alloc (.cells #[.pointer (some ⟨A, 0, none⟩), .int .i64 8, .int .u64 9259542123273814144, .int .u64 0] 81)).alloc (.cells #[.pointer (some ⟨u3.heap.size, 0, none⟩)] 76) := ⟨_, rfl⟩
 have hbW : Below u3.heap.size u3 W := hW ▸ ((Below.refl _ _).alloc (Nat.le_refl _) _).alloc (by simp) _
 have hM1 : W.heap[u3.heap.size]? = some (.cells #[.pointer (some ⟨A, 0, none⟩), .int .i64 8, .int .u64 9259542123273814144, .int .u64 0] 81 (0, 0)) := hW ▸ heap_alloc2_old _ _ _
 have hG1 : W.heap[u3.heap.size + 1]? = some (.cells #[.pointer (some ⟨u3.heap.size, 0, none⟩)] 76 (0, 0)) := hW ▸ heap_alloc2_new _ _ _
 have hKW := blk_keep hK3 hbW
 have hTW := hT.below hbW
 have hAl := hT.lt.1
 have hKl := block_lt hK3
 have hbw2 := hbw1.trans (hbW.mono hbw1.size)
 have hw3 := hbw1.size
 rw [← hW]
 clear hW hbW hT hK3 eA hA hb1 hb2
 obtain ⟨M, hM⟩ : ∃ M, M = u3.heap.size := ⟨_, rfl⟩
 obtain ⟨G, hG⟩ : ∃ G, G = u3.heap.size + 1 := ⟨_, rfl⟩
 rw [← hG, ← hM] at hG1
 rw [← hM] at hM1 hAl hKl hw3
 rw [← hG, ← hM]
 have hGM : G ≠ M := by omega
 have hGA : G ≠ A := by omega
 have hMA : M ≠ A := by omega
 have hKM : K ≠ M := by omega
 clear hG hM
 have cG : W.cell? ⟨G, 0, none⟩ = some (.pointer (some ⟨M, 0, none⟩)) := by rw [cell_of_row W G 0 _ _ _ hG1]; rfl
 have cM : W.cell? ⟨M, 2, none⟩ = some (.int .u64 9259542123273814144) := by rw [cell_of_row W M 2 _ _ _ hM1]; rfl
 refine region_do (fun v => Below W.heap.size W v) 8 (by kernel_rfl) (by kernel_rfl) (Below.refl _ _).drew ?_
 simp only [zF, zE, zD, zC]
 repeat (first | (refine wpD_hereg rfl (fun v hS => run_ldq _ isAgg_swp _ rfl G 0 rfl _ (cell_stay cG hS)) ?_; simp only [Act.put, z5, z6, z7]) | (refine wpD_hereg rfl (fun v hS => run_ldq _ isAgg_u6 _ rfl M 2 rfl _ (cell_stay cM hS)) ?_; simp only [Act.put, z5, z6, z7]) | (refine wpD_pure (v := ?_) rfl (fun v => ?_) ?_; rotate_left; (focus (go_simp; (try with_reducible rfl); done)); simp only [Act.put, z5, z6, z7]))
 refine wpD_nil (fun w5 hb5 => ?_)
 clear cG cM
 have hM5 := blk_keep hM1 hb5
 have hG5 := blk_keep hG1 hb5
 have hK5 := blk_keep hKW hb5
 have hT5 := hTW.below hb5
 have hbw5 := hbw2.trans (hb5.mono hbw2.size)
 clear hM1 hG1 hKW hTW hbw2 hb5 hbw1
 have cM : w5.cell? ⟨M, 3, none⟩ = some (.int .u64 0) := by rw [cell_of_row w5 M 3 _ _ _ hM5]; rfl
 have fM : w5.frozen? ⟨M, 3, none⟩ = false := frozen_of_row w5 M 3 _ _ hM5
 have hbt : (bits BinOp.xor IntKind.u64 (if IntKind.u64.signed = true then -1 else IntKind.u64.max) 9259542123273814144) = 9187201950435737471 := by kernel_rfl
 rw [hbt]
 clear hbt
 go_upto_region 7 with fail
 obtain ⟨W, hW⟩ : ∃ W, W = w5.setCell ⟨M, 3, none⟩ (.int .u64 9187201950435737471) := ⟨_, rfl⟩
 have gs : w5.grownBy W (some M) := hW ▸ grown_setCell w5 M 3 _
 have hM : SWA M A 8 9259542123273814144 9187201950435737471 none W := by
  refine ⟨?_, hMA, by simp⟩
  rw [hW, setCell_eq_setRow w5 M 3 _ _ _ _ hM5, setRow_heap w5 M _ _ _ _ hM5]
  rfl
 have hG : VarA G A 76 (.pointer (some ⟨M, 0, none⟩)) none W := ⟨(gs.block G (block_lt hG5) (fun e => hGM (by injection e))).trans hG5, hGA, by simp⟩
 have hK : VarA K A 3 (.int .i64 ((14 : Nat) : Int)) none W := ⟨(gs.block K (block_lt hK5) (fun e => hKM (by injection e))).trans hK5, hK0, by simp⟩
 have T := (TA.row_ne hT5 gs (fun n hn => by injection hn with hn; subst hn; exact ⟨hMA, by simp⟩))
 have hbW : Below w.heap.size w W := hW ▸ hbw5.setCell (show w.heap.size ≤ M from hw3) _
 rw [← hW]
 have cK : W.cell? ⟨K, 0, none⟩ = some (.int .i64 14) := by rw [cell_of_row W K 0 _ _ _ hK.blk]; rfl
 have cG : W.cell? ⟨G, 0, none⟩ = some (.pointer (some ⟨M, 0, none⟩)) := by rw [cell_of_row W G 0 _ _ _ hG.blk]; rfl
 have HBW := Lib.hid hbW
 have HMM := Lib.hid hM
 have HGG := Lib.hid hG
 have HKK := Lib.hid hK
 have TT := Lib.hid T
 have HA0 := Lib.hid hA0
 clear hW gs hM5 hG5 hK5 hT5 hbw5 hbW hM hG hK T cM fM hA0 hGM hGA hMA hKM hK0
 go_wp2_with (go_at_call 26; refine Calls.mono (swtwo_k 32 (.inr rfl) M A 8 9259542123273814144 9187201950435737471 b 0 G K 14 0 30 _ (sw_half2 M A 8 _ _ b G K (by decide)) (fun k x y => by simp [addC]) (by decide) [] none _ TT.out HMM.out HGG.out HKK.out (by decide) (by decide) (by omega)) ?_; rintro e u6 ⟨rfl, T⟩)
 have gG := T.get HGG.out.blk HGG.out.ne HGG.out.nr
 have gM := T.get HMM.out.blk HMM.out.ne HMM.out.nr
 have q1 : u6.cell? ⟨G, 0, none⟩ = some (.pointer (some ⟨M, 0, none⟩)) := by rw [cell_of_row u6 G 0 _ _ _ gG]; rfl
 have q2 : u6.cell? ⟨M, 0, none⟩ = some (.pointer (some ⟨A, 0, none⟩)) := by rw [cell_of_row u6 M 0 _ _ _ gM]; rfl
 obtain ⟨v, hSQ, c1, c2⟩ := TR.doneX T HBW.out HA0.out
 have HSQ := Lib.hid hSQ
 clear hSQ T gG gM cK cG
 go_quiet (fail)
 simp only [Exit.then]
 go_at_K
 go_wp2_with fail
 go_ret3
 exact ⟨v, rfl, HSQ.out.mono ⟨rfl, rfl, rfl, Nat.le_refl _, fun _ _ => rfl⟩⟩
end Go.Proofs.YtmfmokblmipagaaGreat
end
section
namespace Go.Proofs.YtmfmokblmipagaaGreat
open Go.RowKit Pl
theorem row_64780 : ∃ r, vrowAt 64780 = some r ∧ r.form = 11 := by
 have h : (vrowAt 64780).map (·.form) = some 11 := by decide +kernel
 cases h2 : vrowAt 64780 with
 | none => rw [h2] at h; cases h
 | some r => rw [h2] at h; exact ⟨r, rfl, by injection h⟩
set_option maxRecDepth 100000 in
theorem pmis_12 (w : World) : Calls Tryz.prog 36 #[.int .i64 64780] w fun e w' => e = .returned (.bool true) ∧ Below w.heap.size w w' := by
 obtain ⟨r, hr, _⟩ := row_64780
 have HOF := Lib.hid (fun W => of_row 64780 r W (by decide) hr)
 clear hr
 go_enter Tryz.func36, Tryz.ntmps36
 go_wp2_with (first | (go_at_call 34; refine (HOF.out _).mono ?_; rintro e u1 ⟨s, t, pl, rfl, hs, ht, hb1⟩) | ((with_reducible refine store_newk rfl 50 _ _ rfl _ _ rfl rfl (infsize _ _ _ _ _) (five_sz _ _ _ _ _ _ _ _ _ _) (all5 _ _ _ (owns_one hs).1 (owns_one ht).1) ?_); intro u2 hb2 hF lF))
 first | go_ret | go_ret3
 exact ⟨rfl, hb1.trans (hb2.mono hb1.size)⟩
abbrev pmC (A : Nat) : Array Value := #[.pointer (some ⟨A, 0, none⟩), .slice none 0 0]
set_option maxRecDepth 100000 in
theorem pmsequence_12 (M A b k lo hi : Nat) (a off lim : Int) (L s t : Value) (pl : Bool) (v : Vec) (l : List Cel) (R : Option Nat) (u : World) (h : TA A l b k R u) (hM : XA M A 96 (pmC A) R u) (h1 : l.length + 30 ≤ 1000) :
 Calls Tryz.prog 37 #[.pointer (some ⟨M, 0, none⟩), inV 64780 a off lo hi L, .agg #[.int .i64 11, .int .i64 lim, .bool pl, s, t], .agg (cells v)] u fun e u' => e = .returned (.tuple #[]) ∧ TR A R u (l ++ [numc lo, numc hi]) b k u' := by
 have hAl := h.lt
 unfold inV
 go_enter Tryz.func37, Tryz.ntmps37
 go_upto_region 2 with fail
 obtain ⟨W, hW⟩ : ∃ W, W = (((u.alloc (.cells #[.int .i64 64780, .int .i64 a, .int .i64 off, .int .u64 (lo : Int), .int .u64 (hi : Int), L] 25)).alloc (.cells #[.int .i64 11, .int .i64 lim, .bool pl, s, t] 50)).alloc (.cells (cells v) 28)) := ⟨_, rfl⟩
 have hbW : Below u.heap.size u W := hW ▸ below_alloc3 _ _ _ _
 have hI : W.heap[u.heap.size]? = some (.cells #[.int .i64 64780, .int .i64 a, .int .i64 off, .int .u64 (lo : Int), .int .u64 (hi : Int), L] 25 (0, 0)) := hW ▸ heap_alloc3_0 _ _ _ _
 rw [← hW]
 clear hW
 have hC : Chg A R u W := (Chg.refl A R u).below hbW
 have T := (h.below hbW).start
 have hM := hM.below hbW
 have hB := hM.blk
 have hIA : u.heap.size ≠ A := by have := hAl.1; omega
 have hIR : some u.heap.size ≠ R := fun e => by have := hAl.2 _ e.symm; omega
 obtain ⟨I, hI0⟩ : ∃ I, I = u.heap.size := ⟨_, rfl⟩
 rw [← hI0] at hI hIA hIR ⊢
 clear hI0 hAl hbW
 have HC := Lib.hid hC
 clear hC h
 have cM := hB
 have q1 : Hid (∀ u2 l2 k2, TR A R W l2 b k2 u2 → u2.cell? ⟨M, 0, none⟩ = some (.pointer (some ⟨A, 0, none⟩)) ∧ u2.cell? ⟨I, 3, none⟩ = some (.int .u64 (lo : Int))) := Lib.hid (fun u2 l2 k2 T2 => ⟨by rw [cell_of_row u2 M 0 _ _ _ (T2.get hM.blk hM.ne hM.nr)]; rfl, by rw [cell_of_row u2 I 3 _ _ _ (T2.get hI hIA hIR)]; rfl⟩)
 obtain ⟨q2, q3⟩ := q1.out _ _ _ T
 refine region_do (fun v => Below W.heap.size W v) 8 (by kernel_rfl) (by kernel_rfl) (Below.refl _ _).drew ?_
 simp only [zF, zE, zD, zC]
 repeat (first | (refine wpD_hereg rfl (fun v hS => run_ldq _ isAgg_asm _ rfl M 0 rfl _ (cell_stay q2 hS)) ?_; simp only [Act.put, z5, z6, z7]) | (refine wpD_hereg rfl (fun v hS => run_ldq _ isAgg_u6 _ rfl I 3 rfl _ (cell_stay q3 hS)) ?_; simp only [Act.put, z5, z6, z7]) | (refine wpD_pure (v := ?_) rfl (fun v => ?_) ?_; rotate_left; (focus (go_simp; (try with_reducible rfl); done)); simp only [Act.put, z5, z6, z7]))
 refine wpD_nil (fun w1 hb1 => ?_)
 clear q1 q2 q3 cM
 go_wp2_with (go_at_call 44; refine Calls.mono (TR.stepB T hb1 fun R2 h => num_k A b _ lo _ _ [] R2 _ (h.below hb1) (IL.nil _ _ _) (by (try simp only [zP, zN, zM, zL, zH, regs_len]); omega)) ?_; clear hb1; rintro e u2 ⟨rfl, T⟩)
 have cM := hB
 have q1 : Hid (∀ u2 l2 k2, TR A R W l2 b k2 u2 → u2.cell? ⟨M, 0, none⟩ = some (.pointer (some ⟨A, 0, none⟩)) ∧ u2.cell? ⟨I, 4, none⟩ = some (.int .u64 (hi : Int))) := Lib.hid (fun u2 l2 k2 T2 => ⟨by rw [cell_of_row u2 M 0 _ _ _ (T2.get hM.blk hM.ne hM.nr)]; rfl, by rw [cell_of_row u2 I 4 _ _ _ (T2.get hI hIA hIR)]; rfl⟩)
 obtain ⟨q2, q3⟩ := q1.out _ _ _ T
 refine region_do (fun v => Below u2.heap.size u2 v) 8 (by kernel_rfl) (by kernel_rfl) (Below.refl _ _).drew ?_
 simp only [zF, zE, zD, zC]
 repeat (first | (refine wpD_hereg rfl (fun v hS => run_ldq _ isAgg_asm _ rfl M 0 rfl _ (cell_stay q2 hS)) ?_; simp only [Act.put, z5, z6, z7]) | (refine wpD_hereg rfl (fun v hS => run_ldq _ isAgg_u6 _ rfl I 4 rfl _ (cell_stay q3 hS)) ?_; simp only [Act.put, z5, z6, z7]) | (refine wpD_pure (v := ?_) rfl (fun v => ?_) ?_; rotate_left; (focus (go_simp; (try with_reducible rfl); done)); simp only [Act.put, z5, z6, z7]))
 refine wpD_nil (fun w1 hb1 => ?_)
 clear q1 q2 q3 cM
 go_wp2_with (go_at_call 44; refine Calls.mono (TR.stepB T hb1 fun R2 h => num_k A b _ hi _ _ [] R2 _ (h.below hb1) (IL.nil _ _ _) (by (try simp only [zP, zN, zM, zL, zH, regs_len]); omega)) ?_; clear hb1; rintro e u2 ⟨rfl, T⟩)
 first | go_end0 | ((try simp only [Exit.inBlock, Exit.then]); refine bodyPost_ret (results_none rfl _ _ _) rfl ?_)
 exact ⟨rfl, TR.cast (TR.trans HC.out (fun n hn => .inl hn) T) _ _ (by simp) rfl⟩
set_option maxRecDepth 100000 in
theorem pmseq_12 (a off : Int) (lo hi : Nat) (L : Value) (b : Nat) (w : World) (hb : b ≤ 1000) :
 Calls Tryz.prog 10 #[inV 64780 a off lo hi L, .int .i64 (b : Int)] w fun e w' => ∃ v, e = .returned (.tuple #[v, .int .i64 0, .int .i64 0]) ∧ SQ w [numc lo, numc hi] v w' := by
 obtain ⟨r, hr, hf⟩ := row_64780
 have HOF := Lib.hid (fun W => of_row 64780 r W (by decide) hr)
 rw [hf] at HOF
 have HIS := Lib.hid pmis_12
 have HJ := Lib.hid (fun W => join_k lo hi W)
 have HAT := Lib.hid (at_k b)
 clear hr hf
 unfold inV
 have d1 : decide ((b : Int) < 0) = false := decide_eq_false (by omega)
 have d2 : decide ((4032 : Int) < (b : Int)) = false := decide_eq_false (by omega)
 go_enter Tryz.func10, Tryz.ntmps10
 go_upto_region 4 with (first | (go_at_call 34; refine (HOF.out _).mono ?_; rintro e u1 ⟨s, t, pl, rfl, hs, ht, hb1⟩; have hI := blk_keep (heap_alloc_new _ _) hb1) | ((with_reducible refine store_newk rfl 50 _ _ rfl _ _ rfl rfl (infsize _ _ _ _ _) (five_sz _ _ _ _ _ _ _ _ _ _) (all5 _ _ _ (owns_one hs).1 (owns_one ht).1) ?_); intro u2 hb2 hF lF; replace hI := blk_keep hI hb2) | (go_at_call 35; refine (HJ.out _).mono ?_; rintro e u3 ⟨rfl, hb3⟩; replace hI := blk_keep hI hb3; replace hF := blk_keep hF hb3) | ((with_reducible refine store_vec rfl _ _ rfl _ _ rfl rfl 0 (heap_new_zero _) ?_); intro wA hA; have hV := hA.this; have hbA := ((Below.refl _ _).alloc (Nat.le_refl _) _).trans hA.below; replace hI := blk_keep hI hbA; replace hF := blk_keep hF hbA) | (go_at_call 36; refine (HIS.out _).mono ?_; rintro e u4 ⟨rfl, hb4⟩; replace hI := blk_keep hI hb4; replace hF := blk_keep hF hb4; replace hV := blk_keep hV hb4) | ((with_reducible refine load_w ?_ 22 isAgg_u6 _ rfl _ _ rfl _ _ hI _ rfl ?_); (focus rfl)) | ((with_reducible refine load_w ?_ 3 isAgg_int _ rfl _ _ rfl _ _ hI _ rfl ?_); (focus rfl)) | ((with_reducible refine load_w ?_ 3 isAgg_int _ rfl _ _ rfl _ _ hF _ rfl ?_); (focus rfl)))
 go_upto_region 14 with (first | (go_at_call 34; refine (HOF.out _).mono ?_; rintro e u1 ⟨s, t, pl, rfl, hs, ht, hb1⟩; have hI := blk_keep (heap_alloc_new _ _) hb1) | ((with_reducible refine store_newk rfl 50 _ _ rfl _ _ rfl rfl (infsize _ _ _ _ _) (five_sz _ _ _ _ _ _ _ _ _ _) (all5 _ _ _ (owns_one hs).1 (owns_one ht).1) ?_); intro u2 hb2 hF lF; replace hI := blk_keep hI hb2) | (go_at_call 35; refine (HJ.out _).mono ?_; rintro e u3 ⟨rfl, hb3⟩; replace hI := blk_keep hI hb3; replace hF := blk_keep hF hb3) | ((with_reducible refine store_vec rfl _ _ rfl _ _ rfl rfl 0 (heap_new_zero _) ?_); intro wA hA; have hV := hA.this; have hbA := ((Below.refl _ _).alloc (Nat.le_refl _) _).trans hA.below; replace hI := blk_keep hI hbA; replace hF := blk_keep hF hbA) | (go_at_call 36; refine (HIS.out _).mono ?_; rintro e u4 ⟨rfl, hb4⟩; replace hI := blk_keep hI hb4; replace hF := blk_keep hF hb4; replace hV := blk_keep hV hb4) | ((with_reducible refine load_w ?_ 22 isAgg_u6 _ rfl _ _ rfl _ _ hI _ rfl ?_); (focus rfl)) | ((with_reducible refine load_w ?_ 3 isAgg_int _ rfl _ _ rfl _ _ hI _ rfl ?_); (focus rfl)) | ((with_reducible refine load_w ?_ 3 isAgg_int _ rfl _ _ rfl _ _ hF _ rfl ?_); (focus rfl)))
 have hbw : Below w.heap.size w u4 := by
  have s1 := hb1.size
  have s2 := hb2.size
  have s3 := hb3.size
  have s4 := hbA.size
  simp at s1
  exact (((Below.refl _ _).alloc (Nat.le_refl _) _).trans (hb1.mono (by simp))).trans ((hb2.mono (by omega)).trans ((hb3.mono (by omega)).trans ((hbA.mono (by omega)).trans (hb4.mono (by omega)))))
 have HBW := Lib.hid hbw
 clear hb1 hb2 hb3 hbA hb4 hA hs ht lF hbw
 generalize w.heap.size = B at hI ⊢
 generalize u1.heap.size = F at hF ⊢
 generalize u3.heap.size = V at hV ⊢
 go_upto_region 15 with (go_at_call 22; refine (HAT.out _).mono ?_; rintro e u5 ⟨rfl, hT, hb5⟩)
 obtain ⟨W, hW⟩ : ∃ W, W = u5.alloc (.cells (pmC u4.heap.size) 96) := ⟨_, rfl⟩
 have hbW : Below u5.heap.size u5 W := hW ▸ (Below.refl _ _).alloc (Nat.le_refl _) _
 have hMb : W.heap[u5.heap.size]? = some (.cells (pmC u4.heap.size) 96 (0, 0)) := hW ▸ heap_alloc_new _ _
 have hAl := hT.lt.1
 have hTW := hT.below hbW
 have hA0 := HBW.out.size
 have hbw2 := HBW.out.trans ((hb5.trans (hbW.mono hb5.size)).mono hA0)
 replace hI := blk_keep (blk_keep hI hb5) hbW
 replace hF := blk_keep (blk_keep hF hb5) hbW
 replace hV := blk_keep (blk_keep hV hb5) hbW
 rw [← hW]
 clear hW hT hb5 HBW hbW
 generalize u4.heap.size = A at *
 generalize u5.heap.size = M at *
 have hM : XA M A 96 (pmC A) none W := ⟨hMb, by omega, by simp⟩
 have TT := Lib.hid hTW
 have HMM := Lib.hid hM
 have HBW := Lib.hid hbw2
 have HA0 := Lib.hid hA0
 clear hTW hM hbw2 hA0 hMb hAl
 go_wp2_with (first | ((with_reducible refine load_ins ?_ _ rfl _ rfl _ _ _ _ _ _ hI ?_); (focus rfl)) | (with_reducible refine load_info rfl _ rfl _ rfl _ _ _ _ _ hF ?_) | (with_reducible refine load_vec rfl _ rfl _ rfl _ hV ?_) | (go_at_call 37; refine Calls.mono (pmsequence_12 M A b 0 lo hi a off r.lim L s t pl _ [] none W TT.out HMM.out (by decide)) ?_; rintro e u6 ⟨rfl, T⟩))
 have gM := T.get HMM.out.blk HMM.out.ne HMM.out.nr
 have q2 : u6.cell? ⟨M, 0, none⟩ = some (.pointer (some ⟨A, 0, none⟩)) := by rw [cell_of_row u6 M 0 _ _ _ gM]; rfl
 obtain ⟨v, hSQ, c1, c2⟩ := TR.doneX T HBW.out HA0.out
 have HSQ := Lib.hid hSQ
 clear hSQ T gM hI hF hV
 go_quiet (fail)
 simp only [Exit.then]
 go_at_K
 go_wp2_with fail
 go_ret3
 exact ⟨v, rfl, HSQ.out.mono ⟨rfl, rfl, rfl, Nat.le_refl _, fun _ _ => rfl⟩⟩
end Go.Proofs.YtmfmokblmipagaaGreat
end
