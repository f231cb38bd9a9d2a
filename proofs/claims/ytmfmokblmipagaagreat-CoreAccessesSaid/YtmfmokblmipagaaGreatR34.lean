/-
  Texts TaV3.
-/
import Derived.Test.YtmfmokblmipagaaGreatR33
set_option linter.unusedSimpArgs false
set_option linter.unusedVariables false
set_option maxHeartbeats 8000000
open Pl
namespace Go.Proofs.YtmfmokblmipagaaGreat
open Go.RowKit Pl
set_option maxRecDepth 100000 in
theorem seq_84 (a : Int) (off lo b : Nat) (hi : Int) (L : Value) (w : World) (hb : b ≤ 1000) (h2 : off < 4294967296) (hlo : lo < 16) :
 Calls Tryz.prog 11 #[inV 64852 a off lo hi L, .int .i64 (b : Int)] w fun e w' => ∃ v, e = .returned (.tuple #[v, .int .i64 3, .int .i64 0]) ∧ SQ w (laneLdC 1 b off lo) v w' := by
 have hZ : ∀ W, Calls Tryz.prog 13 #[.int .i64 64852] W fun e w' => e = .returned (.int .i64 1) ∧ w' = W := fun W => vsize_any 64852 W (by decide)
 have HZ := Lib.hid hZ
 clear hZ
 unfold inV
 have e1 : IntKind.i64.wrap 84 = 84 := IntWalk.i64_in _ (by decide)
 have e2 : IntKind.u64.wrap (off : Int) = (off : Int) := by rw [IntKind.wrap_u64]; omega
 have d1 : decide ((b : Int) < 0) = false := decide_eq_false (by omega)
 have d2 : decide ((4032 : Int) < (b : Int)) = false := decide_eq_false (by omega)
 have d3 : decide ((off : Int) < 0) = false := decide_eq_false (by omega)
 have d4 : decide ((4294967296 : Int) ≤ (off : Int)) = false := decide_eq_false (by omega)
 have ew16 : IntKind.i64.wrap 16 = 16 := IntWalk.i64_in _ (by decide)
 have el : IntKind.i64.wrap (lo : Int) = lo := IntWalk.i64_in _ (by omega)
 have eu : IntKind.u64.wrap 16 = 16 := by rw [IntKind.wrap_u64]; rfl
 have d5 : decide ((16 : Int) ≤ (lo : Int)) = false := decide_eq_false (by omega)
 go_enter Tryz.func11, Tryz.ntmps11
 go_wp2_with fail
 go_quiet ((go_at_call 13; exact Calls.quiet_of_same (HZ.out _)))
 have hs : IB w w.heap.size (.cells #[.int .i64 64852, .int .i64 (a : Int), .int .i64 (off : Int), .int .u64 (lo : Int), .int .u64 hi, L] 25 (0, 0)) ((w.alloc (.cells #[.int .i64 64852, .int .i64 (a : Int), .int .i64 (off : Int), .int .u64 (lo : Int), .int .u64 hi, L] 25)).drewN nq) := ⟨((Below.refl _ _).alloc (Nat.le_refl _) _).trans ⟨rfl, rfl, rfl, Nat.le_refl _, fun _ _ => rfl⟩, heap_alloc_new _ _⟩
 generalize ((w.alloc (.cells #[.int .i64 64852, .int .i64 (a : Int), .int .i64 (off : Int), .int .u64 (lo : Int), .int .u64 hi, L] 25)).drewN nq) = W at *
 simp only [Exit.then]
 go_at_K
 go_wp2_with fail
 refine region_do (IB w w.heap.size (.cells #[.int .i64 64852, .int .i64 (a : Int), .int .i64 (off : Int), .int .u64 (lo : Int), .int .u64 hi, L] 25 (0, 0))) 30 (by kernel_rfl) (by kernel_rfl) hs.drew ?_
 simp only [zF, zE, zD, zC]
 repeat (first | (refine do_ldi rfl _ rfl _ 0 rfl (.int .i64 64852) (fun u hS => hS.cell 0 rfl) ?_; simp only [Act.put, z5, z6, z7]) | (refine do_ldi rfl _ rfl _ 2 rfl (.int .i64 (off : Int)) (fun u hS => hS.cell 2 rfl) ?_; simp only [Act.put, z5, z6, z7]) | (refine do_ldu rfl _ rfl _ 3 rfl (.int .u64 (lo : Int)) (fun u hS => hS.cell 3 rfl) ?_; simp only [Act.put, z5, z6, z7]) | (refine wpD_pure (v := ?_) rfl (fun u => ?_) ?_; rotate_left; (focus (go_simp; (try with_reducible rfl); done)); simp only [Act.put, z5, z6, z7]) | (refine wpD_pureg (v := ?_) rfl (fun u => ?_) ?_; rotate_left; (focus (go_simp; (try with_reducible rfl); done)); simp only [Act.put, z5, z6, z7]) | (refine wpD_skip rfl ?_; simp only [Act.put, z5, z6, z7]))
 apply wpD_nil
 intro wq hq
 have hI := hq.blk
 have hbq := hq.bel
 clear hq hs
 go_wp2_with fail
 refine region_cv (SS wq b 1 off) (fun v => ∃ A, v = .pointer (some ⟨A, 0, none⟩)) 8 1 7 [0, 2, 3, 4, 5] [6] [] rfl (by kernel_rfl) (by decide) rfl rfl rfl rfl SS.start ?_
 simp only [opsAt, List.getElem?_cons_zero, List.getElem?_cons_succ, List.drop_succ_cons, List.drop_zero]
 repeat (first | (refine wpDA_here rfl (fun D w2 hS => run_ldq _ isAgg_int _ rfl w.heap.size 2 rfl (.int .i64 (off : Int)) (by rw [cell_of_row w2 w.heap.size 2 _ _ _ (hS.get hI)]; rfl)) ?_; simp only [Act.put, z5, z6, z7]) | (refine wpDA_pure (v := ?_) rfl (fun u => ?_) ?_; rotate_left; (focus (go_simp; (try with_reducible rfl); done)); simp only [Act.put, z5, z6, z7]))
 refine wpDA_nil ⟨22, #[.int .i64 (b : Int)], fun u => ?_, fun u hS => ?_, ?_⟩
 ·go_simp
  try with_reducible rfl
 ·refine (at_k b u).mono ?_
  rintro e u2 ⟨rfl, hT, hb2⟩
  exact ⟨_, ⟨_, rfl⟩, ⟨hS.bel.trans (hb2.mono hS.bel.size), fun p hp => ⟨_, (by simpa using hp.symm), hS.bel.size, hT⟩, fun m p hp => by simp at hp⟩, rfl⟩
 rintro v ⟨A, rfl⟩
 simp only [opsAt, List.getElem?_cons_zero, List.getElem?_cons_succ, List.drop_succ_cons, List.drop_zero, Act.put, List.setIfInBounds_toArray, List.set_cons_zero, List.set_cons_succ]
 repeat (refine wpDA_pure (v := ?_) rfl (fun u => ?_) ?_; rotate_left; (focus (go_simp; (try with_reducible rfl); done)); simp only [Act.put, z5, z6, z7])
 refine wpDA_nil ⟨fun u hS => ?_, fun v => ?_⟩
 ·obtain ⟨A1, e, hS2⟩ := hS.box
  injection e with e
  injection e with e
  injection e with e
  subst e
  exact ⟨_, _, hS2, run_boxM _ _ _ _ _ _ (by first | rfl | omega) (by first | rfl | omega) rfl rfl⟩
 refine wpDA_nil fun u hS => ?_
 simp only [Act.put, z5, z6, z7]
 obtain ⟨A1, M, e3, rfl, hA, hM0, hT, hM⟩ := hS.d2 _ _ rfl
 injection e3 with e3
 injection e3 with e3
 injection e3 with e3
 subst e3
 have hbu := Lib.hid (hbq.trans (hS.bel.mono hbq.size))
 have hAw := Nat.le_trans hbq.size hA
 have HI := hS.get hI
 clear hS hI hbq hM0
 have T := hT.start
 have hB := hM.blk
 have HM := Lib.hid hM
 clear hT
 go_wp2_with (first | ((with_reducible refine load_w ?_ 22 isAgg_u6 _ rfl _ 3 rfl _ _ HI _ rfl ?_); (focus rfl)) | ((with_reducible refine load_w ?_ 77 isAgg_asm _ rfl _ _ rfl _ _ (T.get hB hM.ne hM.nr) _ rfl ?_); (focus rfl)) | (go_at_call 42; (with_reducible refine Calls.mono (TR.stepM T hM fun R2 h m => lane_ld_1 M A off b 0 lo _ rfl hlo _ R2 _ h m (by decide) h2 (by omega)) ?_); rintro e u2 ⟨rfl, T⟩))
 have T9 := TR.cast (T) (laneLdC 1 b off lo) 3 (by simp [regs]) (by first | rfl | omega)
 obtain ⟨v, hSQ, c1, c2, c3⟩ := TR.done T9 hbu.out hAw HM.out
 have HSQ := Lib.hid hSQ
 clear hSQ T9 T
 go_quiet (fail)
 simp only [Exit.then]
 go_at_K
 go_wp2_with fail
 go_ret3
 exact ⟨v, rfl, HSQ.out.mono ⟨rfl, rfl, rfl, Nat.le_refl _, fun _ _ => rfl⟩⟩
set_option maxRecDepth 100000 in
theorem seq_88 (a : Int) (off lo b : Nat) (hi : Int) (L : Value) (w : World) (hb : b ≤ 1000) (h2 : off < 4294967296) (hlo : lo < 16) :
 Calls Tryz.prog 11 #[inV 64856 a off lo hi L, .int .i64 (b : Int)] w fun e w' => ∃ v, e = .returned (.tuple #[v, .int .i64 3, .int .i64 0]) ∧ SQ w (laneStC 1 b off lo) v w' := by
 have hZ : ∀ W, Calls Tryz.prog 13 #[.int .i64 64856] W fun e w' => e = .returned (.int .i64 1) ∧ w' = W := fun W => vsize_any 64856 W (by decide)
 have HZ := Lib.hid hZ
 clear hZ
 unfold inV
 have e1 : IntKind.i64.wrap 88 = 88 := IntWalk.i64_in _ (by decide)
 have e2 : IntKind.u64.wrap (off : Int) = (off : Int) := by rw [IntKind.wrap_u64]; omega
 have d1 : decide ((b : Int) < 0) = false := decide_eq_false (by omega)
 have d2 : decide ((4032 : Int) < (b : Int)) = false := decide_eq_false (by omega)
 have d3 : decide ((off : Int) < 0) = false := decide_eq_false (by omega)
 have d4 : decide ((4294967296 : Int) ≤ (off : Int)) = false := decide_eq_false (by omega)
 have ew16 : IntKind.i64.wrap 16 = 16 := IntWalk.i64_in _ (by decide)
 have el : IntKind.i64.wrap (lo : Int) = lo := IntWalk.i64_in _ (by omega)
 have eu : IntKind.u64.wrap 16 = 16 := by rw [IntKind.wrap_u64]; rfl
 have d5 : decide ((16 : Int) ≤ (lo : Int)) = false := decide_eq_false (by omega)
 go_enter Tryz.func11, Tryz.ntmps11
 go_wp2_with fail
 go_quiet ((go_at_call 13; exact Calls.quiet_of_same (HZ.out _)))
 have hs : IB w w.heap.size (.cells #[.int .i64 64856, .int .i64 (a : Int), .int .i64 (off : Int), .int .u64 (lo : Int), .int .u64 hi, L] 25 (0, 0)) ((w.alloc (.cells #[.int .i64 64856, .int .i64 (a : Int), .int .i64 (off : Int), .int .u64 (lo : Int), .int .u64 hi, L] 25)).drewN nq) := ⟨((Below.refl _ _).alloc (Nat.le_refl _) _).trans ⟨rfl, rfl, rfl, Nat.le_refl _, fun _ _ => rfl⟩, heap_alloc_new _ _⟩
 generalize ((w.alloc (.cells #[.int .i64 64856, .int .i64 (a : Int), .int .i64 (off : Int), .int .u64 (lo : Int), .int .u64 hi, L] 25)).drewN nq) = W at *
 simp only [Exit.then]
 go_at_K
 go_wp2_with fail
 refine region_do (IB w w.heap.size (.cells #[.int .i64 64856, .int .i64 (a : Int), .int .i64 (off : Int), .int .u64 (lo : Int), .int .u64 hi, L] 25 (0, 0))) 30 (by kernel_rfl) (by kernel_rfl) hs.drew ?_
 simp only [zF, zE, zD, zC]
 repeat (first | (refine do_ldi rfl _ rfl _ 0 rfl (.int .i64 64856) (fun u hS => hS.cell 0 rfl) ?_; simp only [Act.put, z5, z6, z7]) | (refine do_ldi rfl _ rfl _ 2 rfl (.int .i64 (off : Int)) (fun u hS => hS.cell 2 rfl) ?_; simp only [Act.put, z5, z6, z7]) | (refine do_ldu rfl _ rfl _ 3 rfl (.int .u64 (lo : Int)) (fun u hS => hS.cell 3 rfl) ?_; simp only [Act.put, z5, z6, z7]) | (refine wpD_pure (v := ?_) rfl (fun u => ?_) ?_; rotate_left; (focus (go_simp; (try with_reducible rfl); done)); simp only [Act.put, z5, z6, z7]) | (refine wpD_pureg (v := ?_) rfl (fun u => ?_) ?_; rotate_left; (focus (go_simp; (try with_reducible rfl); done)); simp only [Act.put, z5, z6, z7]) | (refine wpD_skip rfl ?_; simp only [Act.put, z5, z6, z7]))
 apply wpD_nil
 intro wq hq
 have hI := hq.blk
 have hbq := hq.bel
 clear hq hs
 go_wp2_with fail
 refine region_cv (SS wq b 1 off) (fun v => ∃ A, v = .pointer (some ⟨A, 0, none⟩)) 8 1 7 [0, 2, 3, 4, 5] [6] [] rfl (by kernel_rfl) (by decide) rfl rfl rfl rfl SS.start ?_
 simp only [opsAt, List.getElem?_cons_zero, List.getElem?_cons_succ, List.drop_succ_cons, List.drop_zero]
 repeat (first | (refine wpDA_here rfl (fun D w2 hS => run_ldq _ isAgg_int _ rfl w.heap.size 2 rfl (.int .i64 (off : Int)) (by rw [cell_of_row w2 w.heap.size 2 _ _ _ (hS.get hI)]; rfl)) ?_; simp only [Act.put, z5, z6, z7]) | (refine wpDA_pure (v := ?_) rfl (fun u => ?_) ?_; rotate_left; (focus (go_simp; (try with_reducible rfl); done)); simp only [Act.put, z5, z6, z7]))
 refine wpDA_nil ⟨22, #[.int .i64 (b : Int)], fun u => ?_, fun u hS => ?_, ?_⟩
 ·go_simp
  try with_reducible rfl
 ·refine (at_k b u).mono ?_
  rintro e u2 ⟨rfl, hT, hb2⟩
  exact ⟨_, ⟨_, rfl⟩, ⟨hS.bel.trans (hb2.mono hS.bel.size), fun p hp => ⟨_, (by simpa using hp.symm), hS.bel.size, hT⟩, fun m p hp => by simp at hp⟩, rfl⟩
 rintro v ⟨A, rfl⟩
 simp only [opsAt, List.getElem?_cons_zero, List.getElem?_cons_succ, List.drop_succ_cons, List.drop_zero, Act.put, List.setIfInBounds_toArray, List.set_cons_zero, List.set_cons_succ]
 repeat (refine wpDA_pure (v := ?_) rfl (fun u => ?_) ?_; rotate_left; (focus (go_simp; (try with_reducible rfl); done)); simp only [Act.put, z5, z6, z7])
 refine wpDA_nil ⟨fun u hS => ?_, fun v => ?_⟩
 ·obtain ⟨A1, e, hS2⟩ := hS.box
  injection e with e
  injection e with e
  injection e with e
  subst e
  exact ⟨_, _, hS2, run_boxM _ _ _ _ _ _ (by first | rfl | omega) (by first | rfl | omega) rfl rfl⟩
 refine wpDA_nil fun u hS => ?_
 simp only [Act.put, z5, z6, z7]
 obtain ⟨A1, M, e3, rfl, hA, hM0, hT, hM⟩ := hS.d2 _ _ rfl
 injection e3 with e3
 injection e3 with e3
 injection e3 with e3
 subst e3
 have hbu := Lib.hid (hbq.trans (hS.bel.mono hbq.size))
 have hAw := Nat.le_trans hbq.size hA
 have HI := hS.get hI
 clear hS hI hbq hM0
 have T := hT.start
 have hB := hM.blk
 have HM := Lib.hid hM
 clear hT
 go_wp2_with (first | ((with_reducible refine load_w ?_ 22 isAgg_u6 _ rfl _ 3 rfl _ _ HI _ rfl ?_); (focus rfl)) | ((with_reducible refine load_w ?_ 77 isAgg_asm _ rfl _ _ rfl _ _ (T.get hB hM.ne hM.nr) _ rfl ?_); (focus rfl)) | (go_at_call 42; (with_reducible refine Calls.mono (TR.stepM T hM fun R2 h m => lane_st_1 M A off b 0 lo _ rfl hlo _ R2 _ h m (by decide) h2 (by omega)) ?_); rintro e u2 ⟨rfl, T⟩))
 have T9 := TR.cast (T) (laneStC 1 b off lo) 3 (by simp [regs]) (by first | rfl | omega)
 obtain ⟨v, hSQ, c1, c2, c3⟩ := TR.done T9 hbu.out hAw HM.out
 have HSQ := Lib.hid hSQ
 clear hSQ T9 T
 go_quiet (fail)
 simp only [Exit.then]
 go_at_K
 go_wp2_with fail
 go_ret3
 exact ⟨v, rfl, HSQ.out.mono ⟨rfl, rfl, rfl, Nat.le_refl _, fun _ _ => rfl⟩⟩
set_option maxRecDepth 100000 in
theorem seq_85 (a : Int) (off lo b : Nat) (hi : Int) (L : Value) (w : World) (hb : b ≤ 1000) (h2 : off < 4294967296) (hlo : lo < 8) :
 Calls Tryz.prog 11 #[inV 64853 a off lo hi L, .int .i64 (b : Int)] w fun e w' => ∃ v, e = .returned (.tuple #[v, .int .i64 3, .int .i64 0]) ∧ SQ w (laneLdC 2 b off lo) v w' := by
 have hZ : ∀ W, Calls Tryz.prog 13 #[.int .i64 64853] W fun e w' => e = .returned (.int .i64 2) ∧ w' = W := fun W => vsize_any 64853 W (by decide)
 have HZ := Lib.hid hZ
 clear hZ
 unfold inV
 have e1 : IntKind.i64.wrap 85 = 85 := IntWalk.i64_in _ (by decide)
 have e2 : IntKind.u64.wrap (off : Int) = (off : Int) := by rw [IntKind.wrap_u64]; omega
 have d1 : decide ((b : Int) < 0) = false := decide_eq_false (by omega)
 have d2 : decide ((4032 : Int) < (b : Int)) = false := decide_eq_false (by omega)
 have d3 : decide ((off : Int) < 0) = false := decide_eq_false (by omega)
 have d4 : decide ((4294967296 : Int) ≤ (off : Int)) = false := decide_eq_false (by omega)
 have ew8 : IntKind.i64.wrap 8 = 8 := IntWalk.i64_in _ (by decide)
 have el : IntKind.i64.wrap (lo : Int) = lo := IntWalk.i64_in _ (by omega)
 have eu : IntKind.u64.wrap 8 = 8 := by rw [IntKind.wrap_u64]; rfl
 have d5 : decide ((8 : Int) ≤ (lo : Int)) = false := decide_eq_false (by omega)
 go_enter Tryz.func11, Tryz.ntmps11
 go_wp2_with fail
 go_quiet ((go_at_call 13; exact Calls.quiet_of_same (HZ.out _)))
 have hs : IB w w.heap.size (.cells #[.int .i64 64853, .int .i64 (a : Int), .int .i64 (off : Int), .int .u64 (lo : Int), .int .u64 hi, L] 25 (0, 0)) ((w.alloc (.cells #[.int .i64 64853, .int .i64 (a : Int), .int .i64 (off : Int), .int .u64 (lo : Int), .int .u64 hi, L] 25)).drewN nq) := ⟨((Below.refl _ _).alloc (Nat.le_refl _) _).trans ⟨rfl, rfl, rfl, Nat.le_refl _, fun _ _ => rfl⟩, heap_alloc_new _ _⟩
 generalize ((w.alloc (.cells #[.int .i64 64853, .int .i64 (a : Int), .int .i64 (off : Int), .int .u64 (lo : Int), .int .u64 hi, L] 25)).drewN nq) = W at *
 simp only [Exit.then]
 go_at_K
 go_wp2_with fail
 refine region_do (IB w w.heap.size (.cells #[.int .i64 64853, .int .i64 (a : Int), .int .i64 (off : Int), .int .u64 (lo : Int), .int .u64 hi, L] 25 (0, 0))) 30 (by kernel_rfl) (by kernel_rfl) hs.drew ?_
 simp only [zF, zE, zD, zC]
 repeat (first | (refine do_ldi rfl _ rfl _ 0 rfl (.int .i64 64853) (fun u hS => hS.cell 0 rfl) ?_; simp only [Act.put, z5, z6, z7]) | (refine do_ldi rfl _ rfl _ 2 rfl (.int .i64 (off : Int)) (fun u hS => hS.cell 2 rfl) ?_; simp only [Act.put, z5, z6, z7]) | (refine do_ldu rfl _ rfl _ 3 rfl (.int .u64 (lo : Int)) (fun u hS => hS.cell 3 rfl) ?_; simp only [Act.put, z5, z6, z7]) | (refine wpD_pure (v := ?_) rfl (fun u => ?_) ?_; rotate_left; (focus (go_simp; (try with_reducible rfl); done)); simp only [Act.put, z5, z6, z7]) | (refine wpD_pureg (v := ?_) rfl (fun u => ?_) ?_; rotate_left; (focus (go_simp; (try with_reducible rfl); done)); simp only [Act.put, z5, z6, z7]) | (refine wpD_skip rfl ?_; simp only [Act.put, z5, z6, z7]))
 apply wpD_nil
 intro wq hq
 have hI := hq.blk
 have hbq := hq.bel
 clear hq hs
 go_wp2_with fail
 refine region_cv (SS wq b 2 off) (fun v => ∃ A, v = .pointer (some ⟨A, 0, none⟩)) 8 1 7 [0, 2, 3, 4, 5] [6] [] rfl (by kernel_rfl) (by decide) rfl rfl rfl rfl SS.start ?_
 simp only [opsAt, List.getElem?_cons_zero, List.getElem?_cons_succ, List.drop_succ_cons, List.drop_zero]
 repeat (first | (refine wpDA_here rfl (fun D w2 hS => run_ldq _ isAgg_int _ rfl w.heap.size 2 rfl (.int .i64 (off : Int)) (by rw [cell_of_row w2 w.heap.size 2 _ _ _ (hS.get hI)]; rfl)) ?_; simp only [Act.put, z5, z6, z7]) | (refine wpDA_pure (v := ?_) rfl (fun u => ?_) ?_; rotate_left; (focus (go_simp; (try with_reducible rfl); done)); simp only [Act.put, z5, z6, z7]))
 refine wpDA_nil ⟨22, #[.int .i64 (b : Int)], fun u => ?_, fun u hS => ?_, ?_⟩
 ·go_simp
  try with_reducible rfl
 ·refine (at_k b u).mono ?_
  rintro e u2 ⟨rfl, hT, hb2⟩
  exact ⟨_, ⟨_, rfl⟩, ⟨hS.bel.trans (hb2.mono hS.bel.size), fun p hp => ⟨_, (by simpa using hp.symm), hS.bel.size, hT⟩, fun m p hp => by simp at hp⟩, rfl⟩
 rintro v ⟨A, rfl⟩
 simp only [opsAt, List.getElem?_cons_zero, List.getElem?_cons_succ, List.drop_succ_cons, List.drop_zero, Act.put, List.setIfInBounds_toArray, List.set_cons_zero, List.set_cons_succ]
 repeat (refine wpDA_pure (v := ?_) rfl (fun u => ?_) ?_; rotate_left; (focus (go_simp; (try with_reducible rfl); done)); simp only [Act.put, z5, z6, z7])
 refine wpDA_nil ⟨fun u hS => ?_, fun v => ?_⟩
 ·obtain ⟨A1, e, hS2⟩ := hS.box
  injection e with e
  injection e with e
  injection e with e
  subst e
  exact ⟨_, _, hS2, run_boxM _ _ _ _ _ _ (by first | rfl | omega) (by first | rfl | omega) rfl rfl⟩
 refine wpDA_nil fun u hS => ?_
 simp only [Act.put, z5, z6, z7]
 obtain ⟨A1, M, e3, rfl, hA, hM0, hT, hM⟩ := hS.d2 _ _ rfl
 injection e3 with e3
 injection e3 with e3
 injection e3 with e3
 subst e3
 have hbu := Lib.hid (hbq.trans (hS.bel.mono hbq.size))
 have hAw := Nat.le_trans hbq.size hA
 have HI := hS.get hI
 clear hS hI hbq hM0
 have T := hT.start
 have hB := hM.blk
 have HM := Lib.hid hM
 clear hT
 go_wp2_with (first | ((with_reducible refine load_w ?_ 22 isAgg_u6 _ rfl _ 3 rfl _ _ HI _ rfl ?_); (focus rfl)) | ((with_reducible refine load_w ?_ 77 isAgg_asm _ rfl _ _ rfl _ _ (T.get hB hM.ne hM.nr) _ rfl ?_); (focus rfl)) | (go_at_call 42; (with_reducible refine Calls.mono (TR.stepM T hM fun R2 h m => lane_ld_2 M A off b 0 lo _ rfl hlo _ R2 _ h m (by decide) h2 (by omega)) ?_); rintro e u2 ⟨rfl, T⟩))
 have T9 := TR.cast (T) (laneLdC 2 b off lo) 3 (by simp [regs]) (by first | rfl | omega)
 obtain ⟨v, hSQ, c1, c2, c3⟩ := TR.done T9 hbu.out hAw HM.out
 have HSQ := Lib.hid hSQ
 clear hSQ T9 T
 go_quiet (fail)
 simp only [Exit.then]
 go_at_K
 go_wp2_with fail
 go_ret3
 exact ⟨v, rfl, HSQ.out.mono ⟨rfl, rfl, rfl, Nat.le_refl _, fun _ _ => rfl⟩⟩
set_option maxRecDepth 100000 in
theorem seq_89 (a : Int) (off lo b : Nat) (hi : Int) (L : Value) (w : World) (hb : b ≤ 1000) (h2 : off < 4294967296) (hlo : lo < 8) :
 Calls Tryz.prog 11 #[inV 64857 a off lo hi L, .int .i64 (b : Int)] w fun e w' => ∃ v, e = .returned (.tuple #[v, .int .i64 3, .int .i64 0]) ∧ SQ w (laneStC 2 b off lo) v w' := by
 have hZ : ∀ W, Calls Tryz.prog 13 #[.int .i64 64857] W fun e w' => e = .returned (.int .i64 2) ∧ w' = W := fun W => vsize_any 64857 W (by decide)
 have HZ := Lib.hid hZ
 clear hZ
 unfold inV
 have e1 : IntKind.i64.wrap 89 = 89 := IntWalk.i64_in _ (by decide)
 have e2 : IntKind.u64.wrap (off : Int) = (off : Int) := by rw [IntKind.wrap_u64]; omega
 have d1 : decide ((b : Int) < 0) = false := decide_eq_false (by omega)
 have d2 : decide ((4032 : Int) < (b : Int)) = false := decide_eq_false (by omega)
 have d3 : decide ((off : Int) < 0) = false := decide_eq_false (by omega)
 have d4 : decide ((4294967296 : Int) ≤ (off : Int)) = false := decide_eq_false (by omega)
 have ew8 : IntKind.i64.wrap 8 = 8 := IntWalk.i64_in _ (by decide)
 have el : IntKind.i64.wrap (lo : Int) = lo := IntWalk.i64_in _ (by omega)
 have eu : IntKind.u64.wrap 8 = 8 := by rw [IntKind.wrap_u64]; rfl
 have d5 : decide ((8 : Int) ≤ (lo : Int)) = false := decide_eq_false (by omega)
 go_enter Tryz.func11, Tryz.ntmps11
 go_wp2_with fail
 go_quiet ((go_at_call 13; exact Calls.quiet_of_same (HZ.out _)))
 have hs : IB w w.heap.size (.cells #[.int .i64 64857, .int .i64 (a : Int), .int .i64 (off : Int), .int .u64 (lo : Int), .int .u64 hi, L] 25 (0, 0)) ((w.alloc (.cells #[.int .i64 64857, .int .i64 (a : Int), .int .i64 (off : Int), .int .u64 (lo : Int), .int .u64 hi, L] 25)).drewN nq) := ⟨((Below.refl _ _).alloc (Nat.le_refl _) _).trans ⟨rfl, rfl, rfl, Nat.le_refl _, fun _ _ => rfl⟩, heap_alloc_new _ _⟩
 generalize ((w.alloc (.cells #[.int .i64 64857, .int .i64 (a : Int), .int .i64 (off : Int), .int .u64 (lo : Int), .int .u64 hi, L] 25)).drewN nq) = W at *
 simp only [Exit.then]
 go_at_K
 go_wp2_with fail
 refine region_do (IB w w.heap.size (.cells #[.int .i64 64857, .int .i64 (a : Int), .int .i64 (off : Int), .int .u64 (lo : Int), .int .u64 hi, L] 25 (0, 0))) 30 (by kernel_rfl) (by kernel_rfl) hs.drew ?_
 simp only [zF, zE, zD, zC]
 repeat (first | (refine do_ldi rfl _ rfl _ 0 rfl (.int .i64 64857) (fun u hS => hS.cell 0 rfl) ?_; simp only [Act.put, z5, z6, z7]) | (refine do_ldi rfl _ rfl _ 2 rfl (.int .i64 (off : Int)) (fun u hS => hS.cell 2 rfl) ?_; simp only [Act.put, z5, z6, z7]) | (refine do_ldu rfl _ rfl _ 3 rfl (.int .u64 (lo : Int)) (fun u hS => hS.cell 3 rfl) ?_; simp only [Act.put, z5, z6, z7]) | (refine wpD_pure (v := ?_) rfl (fun u => ?_) ?_; rotate_left; (focus (go_simp; (try with_reducible rfl); done)); simp only [Act.put, z5, z6, z7]) | (refine wpD_pureg (v := ?_) rfl (fun u => ?_) ?_; rotate_left; (focus (go_simp; (try with_reducible rfl); done)); simp only [Act.put, z5, z6, z7]) | (refine wpD_skip rfl ?_; simp only [Act.put, z5, z6, z7]))
 apply wpD_nil
 intro wq hq
 have hI := hq.blk
 have hbq := hq.bel
 clear hq hs
 go_wp2_with fail
 refine region_cv (SS wq b 2 off) (fun v => ∃ A, v = .pointer (some ⟨A, 0, none⟩)) 8 1 7 [0, 2, 3, 4, 5] [6] [] rfl (by kernel_rfl) (by decide) rfl rfl rfl rfl SS.start ?_
 simp only [opsAt, List.getElem?_cons_zero, List.getElem?_cons_succ, List.drop_succ_cons, List.drop_zero]
 repeat (first | (refine wpDA_here rfl (fun D w2 hS => run_ldq _ isAgg_int _ rfl w.heap.size 2 rfl (.int .i64 (off : Int)) (by rw [cell_of_row w2 w.heap.size 2 _ _ _ (hS.get hI)]; rfl)) ?_; simp only [Act.put, z5, z6, z7]) | (refine wpDA_pure (v := ?_) rfl (fun u => ?_) ?_; rotate_left; (focus (go_simp; (try with_reducible rfl); done)); simp only [Act.put, z5, z6, z7]))
 refine wpDA_nil ⟨22, #[.int .i64 (b : Int)], fun u => ?_, fun u hS => ?_, ?_⟩
 ·go_simp
  try with_reducible rfl
 ·refine (at_k b u).mono ?_
  rintro e u2 ⟨rfl, hT, hb2⟩
  exact ⟨_, ⟨_, rfl⟩, ⟨hS.bel.trans (hb2.mono hS.bel.size), fun p hp => ⟨_, (by simpa using hp.symm), hS.bel.size, hT⟩, fun m p hp => by simp at hp⟩, rfl⟩
 rintro v ⟨A, rfl⟩
 simp only [opsAt, List.getElem?_cons_zero, List.getElem?_cons_succ, List.drop_succ_cons, List.drop_zero, Act.put, List.setIfInBounds_toArray, List.set_cons_zero, List.set_cons_succ]
 repeat (refine wpDA_pure (v := ?_) rfl (fun u => ?_) ?_; rotate_left; (focus (go_simp; (try with_reducible rfl); done)); simp only [Act.put, z5, z6, z7])
 refine wpDA_nil ⟨fun u hS => ?_, fun v => ?_⟩
 ·obtain ⟨A1, e, hS2⟩ := hS.box
  injection e with e
  injection e with e
  injection e with e
  subst e
  exact ⟨_, _, hS2, run_boxM _ _ _ _ _ _ (by first | rfl | omega) (by first | rfl | omega) rfl rfl⟩
 refine wpDA_nil fun u hS => ?_
 simp only [Act.put, z5, z6, z7]
 obtain ⟨A1, M, e3, rfl, hA, hM0, hT, hM⟩ := hS.d2 _ _ rfl
 injection e3 with e3
 injection e3 with e3
 injection e3 with e3
 subst e3
 have hbu := Lib.hid (hbq.trans (hS.bel.mono hbq.size))
 have hAw := Nat.le_trans hbq.size hA
 have HI := hS.get hI
 clear hS hI hbq hM0
 have T := hT.start
 have hB := hM.blk
 have HM := Lib.hid hM
 clear hT
 go_wp2_with (first | ((with_reducible refine load_w ?_ 22 isAgg_u6 _ rfl _ 3 rfl _ _ HI _ rfl ?_); (focus rfl)) | ((with_reducible refine load_w ?_ 77 isAgg_asm _ rfl _ _ rfl _ _ (T.get hB hM.ne hM.nr) _ rfl ?_); (focus rfl)) | (go_at_call 42; (with_reducible refine Calls.mono (TR.stepM T hM fun R2 h m => lane_st_2 M A off b 0 lo _ rfl hlo _ R2 _ h m (by decide) h2 (by omega)) ?_); rintro e u2 ⟨rfl, T⟩))
 have T9 := TR.cast (T) (laneStC 2 b off lo) 3 (by simp [regs]) (by first | rfl | omega)
 obtain ⟨v, hSQ, c1, c2, c3⟩ := TR.done T9 hbu.out hAw HM.out
 have HSQ := Lib.hid hSQ
 clear hSQ T9 T
 go_quiet (fail)
 simp only [Exit.then]
 go_at_K
 go_wp2_with fail
 go_ret3
 exact ⟨v, rfl, HSQ.out.mono ⟨rfl, rfl, rfl, Nat.le_refl _, fun _ _ => rfl⟩⟩
set_option maxRecDepth 100000 in
theorem seq_86 (a : Int) (off lo b : Nat) (hi : Int) (L : Value) (w : World) (hb : b ≤ 1000) (h2 : off < 4294967296) (hlo : lo < 4) :
 Calls Tryz.prog 11 #[inV 64854 a off lo hi L, .int .i64 (b : Int)] w fun e w' => ∃ v, e = .returned (.tuple #[v, .int .i64 3, .int .i64 0]) ∧ SQ w (laneLdC 4 b off lo) v w' := by
 have hZ : ∀ W, Calls Tryz.prog 13 #[.int .i64 64854] W fun e w' => e = .returned (.int .i64 4) ∧ w' = W := fun W => vsize_any 64854 W (by decide)
 have HZ := Lib.hid hZ
 clear hZ
 unfold inV
 have e1 : IntKind.i64.wrap 86 = 86 := IntWalk.i64_in _ (by decide)
 have e2 : IntKind.u64.wrap (off : Int) = (off : Int) := by rw [IntKind.wrap_u64]; omega
 have d1 : decide ((b : Int) < 0) = false := decide_eq_false (by omega)
 have d2 : decide ((4032 : Int) < (b : Int)) = false := decide_eq_false (by omega)
 have d3 : decide ((off : Int) < 0) = false := decide_eq_false (by omega)
 have d4 : decide ((4294967296 : Int) ≤ (off : Int)) = false := decide_eq_false (by omega)
 have ew4 : IntKind.i64.wrap 4 = 4 := IntWalk.i64_in _ (by decide)
 have el : IntKind.i64.wrap (lo : Int) = lo := IntWalk.i64_in _ (by omega)
 have eu : IntKind.u64.wrap 4 = 4 := by rw [IntKind.wrap_u64]; rfl
 have d5 : decide ((4 : Int) ≤ (lo : Int)) = false := decide_eq_false (by omega)
 go_enter Tryz.func11, Tryz.ntmps11
 go_wp2_with fail
 go_quiet ((go_at_call 13; exact Calls.quiet_of_same (HZ.out _)))
 have hs : IB w w.heap.size (.cells #[.int .i64 64854, .int .i64 (a : Int), .int .i64 (off : Int), .int .u64 (lo : Int), .int .u64 hi, L] 25 (0, 0)) ((w.alloc (.cells #[.int .i64 64854, .int .i64 (a : Int), .int .i64 (off : Int), .int .u64 (lo : Int), .int .u64 hi, L] 25)).drewN nq) := ⟨((Below.refl _ _).alloc (Nat.le_refl _) _).trans ⟨rfl, rfl, rfl, Nat.le_refl _, fun _ _ => rfl⟩, heap_alloc_new _ _⟩
 generalize ((w.alloc (.cells #[.int .i64 64854, .int .i64 (a : Int), .int .i64 (off : Int), .int .u64 (lo : Int), .int .u64 hi, L] 25)).drewN nq) = W at *
 simp only [Exit.then]
 go_at_K
 go_wp2_with fail
 refine region_do (IB w w.heap.size (.cells #[.int .i64 64854, .int .i64 (a : Int), .int .i64 (off : Int), .int .u64 (lo : Int), .int .u64 hi, L] 25 (0, 0))) 30 (by kernel_rfl) (by kernel_rfl) hs.drew ?_
 simp only [zF, zE, zD, zC]
 repeat (first | (refine do_ldi rfl _ rfl _ 0 rfl (.int .i64 64854) (fun u hS => hS.cell 0 rfl) ?_; simp only [Act.put, z5, z6, z7]) | (refine do_ldi rfl _ rfl _ 2 rfl (.int .i64 (off : Int)) (fun u hS => hS.cell 2 rfl) ?_; simp only [Act.put, z5, z6, z7]) | (refine do_ldu rfl _ rfl _ 3 rfl (.int .u64 (lo : Int)) (fun u hS => hS.cell 3 rfl) ?_; simp only [Act.put, z5, z6, z7]) | (refine wpD_pure (v := ?_) rfl (fun u => ?_) ?_; rotate_left; (focus (go_simp; (try with_reducible rfl); done)); simp only [Act.put, z5, z6, z7]) | (refine wpD_pureg (v := ?_) rfl (fun u => ?_) ?_; rotate_left; (focus (go_simp; (try with_reducible rfl); done)); simp only [Act.put, z5, z6, z7]) | (refine wpD_skip rfl ?_; simp only [Act.put, z5, z6, z7]))
 apply wpD_nil
 intro wq hq
 have hI := hq.blk
 have hbq := hq.bel
 clear hq hs
 go_wp2_with fail
 refine region_cv (SS wq b 4 off) (fun v => ∃ A, v = .pointer (some ⟨A, 0, none⟩)) 8 1 7 [0, 2, 3, 4, 5] [6] [] rfl (by kernel_rfl) (by decide) rfl rfl rfl rfl SS.start ?_
 simp only [opsAt, List.getElem?_cons_zero, List.getElem?_cons_succ, List.drop_succ_cons, List.drop_zero]
 repeat (first | (refine wpDA_here rfl (fun D w2 hS => run_ldq _ isAgg_int _ rfl w.heap.size 2 rfl (.int .i64 (off : Int)) (by rw [cell_of_row w2 w.heap.size 2 _ _ _ (hS.get hI)]; rfl)) ?_; simp only [Act.put, z5, z6, z7]) | (refine wpDA_pure (v := ?_) rfl (fun u => ?_) ?_; rotate_left; (focus (go_simp; (try with_reducible rfl); done)); simp only [Act.put, z5, z6, z7]))
 refine wpDA_nil ⟨22, #[.int .i64 (b : Int)], fun u => ?_, fun u hS => ?_, ?_⟩
 ·go_simp
  try with_reducible rfl
 ·refine (at_k b u).mono ?_
  rintro e u2 ⟨rfl, hT, hb2⟩
  exact ⟨_, ⟨_, rfl⟩, ⟨hS.bel.trans (hb2.mono hS.bel.size), fun p hp => ⟨_, (by simpa using hp.symm), hS.bel.size, hT⟩, fun m p hp => by simp at hp⟩, rfl⟩
 rintro v ⟨A, rfl⟩
 simp only [opsAt, List.getElem?_cons_zero, List.getElem?_cons_succ, List.drop_succ_cons, List.drop_zero, Act.put, List.setIfInBounds_toArray, List.set_cons_zero, List.set_cons_succ]
 repeat (refine wpDA_pure (v := ?_) rfl (fun u => ?_) ?_; rotate_left; (focus (go_simp; (try with_reducible rfl); done)); simp only [Act.put, z5, z6, z7])
 refine wpDA_nil ⟨fun u hS => ?_, fun v => ?_⟩
 ·obtain ⟨A1, e, hS2⟩ := hS.box
  injection e with e
  injection e with e
  injection e with e
  subst e
  exact ⟨_, _, hS2, run_boxM _ _ _ _ _ _ (by first | rfl | omega) (by first | rfl | omega) rfl rfl⟩
 refine wpDA_nil fun u hS => ?_
 simp only [Act.put, z5, z6, z7]
 obtain ⟨A1, M, e3, rfl, hA, hM0, hT, hM⟩ := hS.d2 _ _ rfl
 injection e3 with e3
 injection e3 with e3
 injection e3 with e3
 subst e3
 have hbu := Lib.hid (hbq.trans (hS.bel.mono hbq.size))
 have hAw := Nat.le_trans hbq.size hA
 have HI := hS.get hI
 clear hS hI hbq hM0
 have T := hT.start
 have hB := hM.blk
 have HM := Lib.hid hM
 clear hT
 go_wp2_with (first | ((with_reducible refine load_w ?_ 22 isAgg_u6 _ rfl _ 3 rfl _ _ HI _ rfl ?_); (focus rfl)) | ((with_reducible refine load_w ?_ 77 isAgg_asm _ rfl _ _ rfl _ _ (T.get hB hM.ne hM.nr) _ rfl ?_); (focus rfl)) | (go_at_call 42; (with_reducible refine Calls.mono (TR.stepM T hM fun R2 h m => lane_ld_4 M A off b 0 lo _ rfl hlo _ R2 _ h m (by decide) h2 (by omega)) ?_); rintro e u2 ⟨rfl, T⟩))
 have T9 := TR.cast (T) (laneLdC 4 b off lo) 3 (by simp [regs]) (by first | rfl | omega)
 obtain ⟨v, hSQ, c1, c2, c3⟩ := TR.done T9 hbu.out hAw HM.out
 have HSQ := Lib.hid hSQ
 clear hSQ T9 T
 go_quiet (fail)
 simp only [Exit.then]
 go_at_K
 go_wp2_with fail
 go_ret3
 exact ⟨v, rfl, HSQ.out.mono ⟨rfl, rfl, rfl, Nat.le_refl _, fun _ _ => rfl⟩⟩
set_option maxRecDepth 100000 in
theorem seq_90 (a : Int) (off lo b : Nat) (hi : Int) (L : Value) (w : World) (hb : b ≤ 1000) (h2 : off < 4294967296) (hlo : lo < 4) :
 Calls Tryz.prog 11 #[inV 64858 a off lo hi L, .int .i64 (b : Int)] w fun e w' => ∃ v, e = .returned (.tuple #[v, .int .i64 3, .int .i64 0]) ∧ SQ w (laneStC 4 b off lo) v w' := by
 have hZ : ∀ W, Calls Tryz.prog 13 #[.int .i64 64858] W fun e w' => e = .returned (.int .i64 4) ∧ w' = W := fun W => vsize_any 64858 W (by decide)
 have HZ := Lib.hid hZ
 clear hZ
 unfold inV
 have e1 : IntKind.i64.wrap 90 = 90 := IntWalk.i64_in _ (by decide)
 have e2 : IntKind.u64.wrap (off : Int) = (off : Int) := by rw [IntKind.wrap_u64]; omega
 have d1 : decide ((b : Int) < 0) = false := decide_eq_false (by omega)
 have d2 : decide ((4032 : Int) < (b : Int)) = false := decide_eq_false (by omega)
 have d3 : decide ((off : Int) < 0) = false := decide_eq_false (by omega)
 have d4 : decide ((4294967296 : Int) ≤ (off : Int)) = false := decide_eq_false (by omega)
 have ew4 : IntKind.i64.wrap 4 = 4 := IntWalk.i64_in _ (by decide)
 have el : IntKind.i64.wrap (lo : Int) = lo := IntWalk.i64_in _ (by omega)
 have eu : IntKind.u64.wrap 4 = 4 := by rw [IntKind.wrap_u64]; rfl
 have d5 : decide ((4 : Int) ≤ (lo : Int)) = false := decide_eq_false (by omega)
 go_enter Tryz.func11, Tryz.ntmps11
 go_wp2_with fail
 go_quiet ((go_at_call 13; exact Calls.quiet_of_same (HZ.out _)))
 have hs : IB w w.heap.size (.cells #[.int .i64 64858, .int .i64 (a : Int), .int .i64 (off : Int), .int .u64 (lo : Int), .int .u64 hi, L] 25 (0, 0)) ((w.alloc (.cells #[.int .i64 64858, .int .i64 (a : Int), .int .i64 (off : Int), .int .u64 (lo : Int), .int .u64 hi, L] 25)).drewN nq) := ⟨((Below.refl _ _).alloc (Nat.le_refl _) _).trans ⟨rfl, rfl, rfl, Nat.le_refl _, fun _ _ => rfl⟩, heap_alloc_new _ _⟩
 generalize ((w.alloc (.cells #[.int .i64 64858, .int .i64 (a : Int), .int .i64 (off : Int), .int .u64 (lo : Int), .int .u64 hi, L] 25)).drewN nq) = W at *
 simp only [Exit.then]
 go_at_K
 go_wp2_with fail
 refine region_do (IB w w.heap.size (.cells #[.int .i64 64858, .int .i64 (a : Int), .int .i64 (off : Int), .int .u64 (lo : Int), .int .u64 hi, L] 25 (0, 0))) 30 (by kernel_rfl) (by kernel_rfl) hs.drew ?_
 simp only [zF, zE, zD, zC]
 repeat (first | (refine do_ldi rfl _ rfl _ 0 rfl (.int .i64 64858) (fun u hS => hS.cell 0 rfl) ?_; simp only [Act.put, z5, z6, z7]) | (refine do_ldi rfl _ rfl _ 2 rfl (.int .i64 (off : Int)) (fun u hS => hS.cell 2 rfl) ?_; simp only [Act.put, z5, z6, z7]) | (refine do_ldu rfl _ rfl _ 3 rfl (.int .u64 (lo : Int)) (fun u hS => hS.cell 3 rfl) ?_; simp only [Act.put, z5, z6, z7]) | (refine wpD_pure (v := ?_) rfl (fun u => ?_) ?_; rotate_left; (focus (go_simp; (try with_reducible rfl); done)); simp only [Act.put, z5, z6, z7]) | (refine wpD_pureg (v := ?_) rfl (fun u => ?_) ?_; rotate_left; (focus (go_simp; (try with_reducible rfl); done)); simp only [Act.put, z5, z6, z7]) | (refine wpD_skip rfl ?_; simp only [Act.put, z5, z6, z7]))
 apply wpD_nil
 intro wq hq
 have hI := hq.blk
 have hbq := hq.bel
 clear hq hs
 go_wp2_with fail
 refine region_cv (SS wq b 4 off) (fun v => ∃ A, v = .pointer (some ⟨A, 0, none⟩)) 8 1 7 [0, 2, 3, 4, 5] [6] [] rfl (by kernel_rfl) (by decide) rfl rfl rfl rfl SS.start ?_
 simp only [opsAt, List.getElem?_cons_zero, List.getElem?_cons_succ, List.drop_succ_cons, List.drop_zero]
 repeat (first | (refine wpDA_here rfl (fun D w2 hS => run_ldq _ isAgg_int _ rfl w.heap.size 2 rfl (.int .i64 (off : Int)) (by rw [cell_of_row w2 w.heap.size 2 _ _ _ (hS.get hI)]; rfl)) ?_; simp only [Act.put, z5, z6, z7]) | (refine wpDA_pure (v := ?_) rfl (fun u => ?_) ?_; rotate_left; (focus (go_simp; (try with_reducible rfl); done)); simp only [Act.put, z5, z6, z7]))
 refine wpDA_nil ⟨22, #[.int .i64 (b : Int)], fun u => ?_, fun u hS => ?_, ?_⟩
 ·go_simp
  try with_reducible rfl
 ·refine (at_k b u).mono ?_
  rintro e u2 ⟨rfl, hT, hb2⟩
  exact ⟨_, ⟨_, rfl⟩, ⟨hS.bel.trans (hb2.mono hS.bel.size), fun p hp => ⟨_, (by simpa using hp.symm), hS.bel.size, hT⟩, fun m p hp => by simp at hp⟩, rfl⟩
 rintro v ⟨A, rfl⟩
 simp only [opsAt, List.getElem?_cons_zero, List.getElem?_cons_succ, List.drop_succ_cons, List.drop_zero, Act.put, List.setIfInBounds_toArray, List.set_cons_zero, List.set_cons_succ]
 repeat (refine wpDA_pure (v := ?_) rfl (fun u => ?_) ?_; rotate_left; (focus (go_simp; (try with_reducible rfl); done)); simp only [Act.put, z5, z6, z7])
 refine wpDA_nil ⟨fun u hS => ?_, fun v => ?_⟩
 ·obtain ⟨A1, e, hS2⟩ := hS.box
  injection e with e
  injection e with e
  injection e with e
  subst e
  exact ⟨_, _, hS2, run_boxM _ _ _ _ _ _ (by first | rfl | omega) (by first | rfl | omega) rfl rfl⟩
 refine wpDA_nil fun u hS => ?_
 simp only [Act.put, z5, z6, z7]
 obtain ⟨A1, M, e3, rfl, hA, hM0, hT, hM⟩ := hS.d2 _ _ rfl
 injection e3 with e3
 injection e3 with e3
 injection e3 with e3
 subst e3
 have hbu := Lib.hid (hbq.trans (hS.bel.mono hbq.size))
 have hAw := Nat.le_trans hbq.size hA
 have HI := hS.get hI
 clear hS hI hbq hM0
 have T := hT.start
 have hB := hM.blk
 have HM := Lib.hid hM
 clear hT
 go_wp2_with (first | ((with_reducible refine load_w ?_ 22 isAgg_u6 _ rfl _ 3 rfl _ _ HI _ rfl ?_); (focus rfl)) | ((with_reducible refine load_w ?_ 77 isAgg_asm _ rfl _ _ rfl _ _ (T.get hB hM.ne hM.nr) _ rfl ?_); (focus rfl)) | (go_at_call 42; (with_reducible refine Calls.mono (TR.stepM T hM fun R2 h m => lane_st_4 M A off b 0 lo _ rfl hlo _ R2 _ h m (by decide) h2 (by omega)) ?_); rintro e u2 ⟨rfl, T⟩))
 have T9 := TR.cast (T) (laneStC 4 b off lo) 3 (by simp [regs]) (by first | rfl | omega)
 obtain ⟨v, hSQ, c1, c2, c3⟩ := TR.done T9 hbu.out hAw HM.out
 have HSQ := Lib.hid hSQ
 clear hSQ T9 T
 go_quiet (fail)
 simp only [Exit.then]
 go_at_K
 go_wp2_with fail
 go_ret3
 exact ⟨v, rfl, HSQ.out.mono ⟨rfl, rfl, rfl, Nat.le_refl _, fun _ _ => rfl⟩⟩
set_option maxRecDepth 100000 in
theorem seq_87 (a : Int) (off lo b : Nat) (hi : Int) (L : Value) (w : World) (hb : b ≤ 1000) (h2 : off < 4294967296) (hlo : lo < 2) :
 Calls Tryz.prog 11 #[inV 64855 a off lo hi L, .int .i64 (b : Int)] w fun e w' => ∃ v, e = .returned (.tuple #[v, .int .i64 3, .int .i64 0]) ∧ SQ w (laneLdC 8 b off lo) v w' := by
 have hZ : ∀ W, Calls Tryz.prog 13 #[.int .i64 64855] W fun e w' => e = .returned (.int .i64 8) ∧ w' = W := fun W => vsize_any 64855 W (by decide)
 have HZ := Lib.hid hZ
 clear hZ
 unfold inV
 have e1 : IntKind.i64.wrap 87 = 87 := IntWalk.i64_in _ (by decide)
 have e2 : IntKind.u64.wrap (off : Int) = (off : Int) := by rw [IntKind.wrap_u64]; omega
 have d1 : decide ((b : Int) < 0) = false := decide_eq_false (by omega)
 have d2 : decide ((4032 : Int) < (b : Int)) = false := decide_eq_false (by omega)
 have d3 : decide ((off : Int) < 0) = false := decide_eq_false (by omega)
 have d4 : decide ((4294967296 : Int) ≤ (off : Int)) = false := decide_eq_false (by omega)
 have ew2 : IntKind.i64.wrap 2 = 2 := IntWalk.i64_in _ (by decide)
 have el : IntKind.i64.wrap (lo : Int) = lo := IntWalk.i64_in _ (by omega)
 have eu : IntKind.u64.wrap 2 = 2 := by rw [IntKind.wrap_u64]; rfl
 have d5 : decide ((2 : Int) ≤ (lo : Int)) = false := decide_eq_false (by omega)
 go_enter Tryz.func11, Tryz.ntmps11
 go_wp2_with fail
 go_quiet ((go_at_call 13; exact Calls.quiet_of_same (HZ.out _)))
 have hs : IB w w.heap.size (.cells #[.int .i64 64855, .int .i64 (a : Int), .int .i64 (off : Int), .int .u64 (lo : Int), .int .u64 hi, L] 25 (0, 0)) ((w.alloc (.cells #[.int .i64 64855, .int .i64 (a : Int), .int .i64 (off : Int), .int .u64 (lo : Int), .int .u64 hi, L] 25)).drewN nq) := ⟨((Below.refl _ _).alloc (Nat.le_refl _) _).trans ⟨rfl, rfl, rfl, Nat.le_refl _, fun _ _ => rfl⟩, heap_alloc_new _ _⟩
 generalize ((w.alloc (.cells #[.int .i64 64855, .int .i64 (a : Int), .int .i64 (off : Int), .int .u64 (lo : Int), .int .u64 hi, L] 25)).drewN nq) = W at *
 simp only [Exit.then]
 go_at_K
 go_wp2_with fail
 refine region_do (IB w w.heap.size (.cells #[.int .i64 64855, .int .i64 (a : Int), .int .i64 (off : Int), .int .u64 (lo : Int), .int .u64 hi, L] 25 (0, 0))) 30 (by kernel_rfl) (by kernel_rfl) hs.drew ?_
 simp only [zF, zE, zD, zC]
 repeat (first | (refine do_ldi rfl _ rfl _ 0 rfl (.int .i64 64855) (fun u hS => hS.cell 0 rfl) ?_; simp only [Act.put, z5, z6, z7]) | (refine do_ldi rfl _ rfl _ 2 rfl (.int .i64 (off : Int)) (fun u hS => hS.cell 2 rfl) ?_; simp only [Act.put, z5, z6, z7]) | (refine do_ldu rfl _ rfl _ 3 rfl (.int .u64 (lo : Int)) (fun u hS => hS.cell 3 rfl) ?_; simp only [Act.put, z5, z6, z7]) | (refine wpD_pure (v := ?_) rfl (fun u => ?_) ?_; rotate_left; (focus (go_simp; (try with_reducible rfl); done)); simp only [Act.put, z5, z6, z7]) | (refine wpD_pureg (v := ?_) rfl (fun u => ?_) ?_; rotate_left; (focus (go_simp; (try with_reducible rfl); done)); simp only [Act.put, z5, z6, z7]) | (refine wpD_skip rfl ?_; simp only [Act.put, z5, z6, z7]))
 apply wpD_nil
 intro wq hq
 have hI := hq.blk
 have hbq := hq.bel
 clear hq hs
 go_wp2_with fail
 refine region_cv (SS wq b 8 off) (fun v => ∃ A, v = .pointer (some ⟨A, 0, none⟩)) 8 1 7 [0, 2, 3, 4, 5] [6] [] rfl (by kernel_rfl) (by decide) rfl rfl rfl rfl SS.start ?_
 simp only [opsAt, List.getElem?_cons_zero, List.getElem?_cons_succ, List.drop_succ_cons, List.drop_zero]
 repeat (first | (refine wpDA_here rfl (fun D w2 hS => run_ldq _ isAgg_int _ rfl w.heap.size 2 rfl (.int .i64 (off : Int)) (by rw [cell_of_row w2 w.heap.size 2 _ _ _ (hS.get hI)]; rfl)) ?_; simp only [Act.put, z5, z6, z7]) | (refine wpDA_pure (v := ?_) rfl (fun u => ?_) ?_; rotate_left; (focus (go_simp; (try with_reducible rfl); done)); simp only [Act.put, z5, z6, z7]))
 refine wpDA_nil ⟨22, #[.int .i64 (b : Int)], fun u => ?_, fun u hS => ?_, ?_⟩
 ·go_simp
  try with_reducible rfl
 ·refine (at_k b u).mono ?_
  rintro e u2 ⟨rfl, hT, hb2⟩
  exact ⟨_, ⟨_, rfl⟩, ⟨hS.bel.trans (hb2.mono hS.bel.size), fun p hp => ⟨_, (by simpa using hp.symm), hS.bel.size, hT⟩, fun m p hp => by simp at hp⟩, rfl⟩
 rintro v ⟨A, rfl⟩
 simp only [opsAt, List.getElem?_cons_zero, List.getElem?_cons_succ, List.drop_succ_cons, List.drop_zero, Act.put, List.setIfInBounds_toArray, List.set_cons_zero, List.set_cons_succ]
 repeat (refine wpDA_pure (v := ?_) rfl (fun u => ?_) ?_; rotate_left; (focus (go_simp; (try with_reducible rfl); done)); simp only [Act.put, z5, z6, z7])
 refine wpDA_nil ⟨fun u hS => ?_, fun v => ?_⟩
 ·obtain ⟨A1, e, hS2⟩ := hS.box
  injection e with e
  injection e with e
  injection e with e
  subst e
  exact ⟨_, _, hS2, run_boxM _ _ _ _ _ _ (by first | rfl | omega) (by first | rfl | omega) rfl rfl⟩
 refine wpDA_nil fun u hS => ?_
 simp only [Act.put, z5, z6, z7]
 obtain ⟨A1, M, e3, rfl, hA, hM0, hT, hM⟩ := hS.d2 _ _ rfl
 injection e3 with e3
 injection e3 with e3
 injection e3 with e3
 subst e3
 have hbu := Lib.hid (hbq.trans (hS.bel.mono hbq.size))
 have hAw := Nat.le_trans hbq.size hA
 have HI := hS.get hI
 clear hS hI hbq hM0
 have T := hT.start
 have hB := hM.blk
 have HM := Lib.hid hM
 clear hT
 go_wp2_with (first | ((with_reducible refine load_w ?_ 22 isAgg_u6 _ rfl _ 3 rfl _ _ HI _ rfl ?_); (focus rfl)) | ((with_reducible refine load_w ?_ 77 isAgg_asm _ rfl _ _ rfl _ _ (T.get hB hM.ne hM.nr) _ rfl ?_); (focus rfl)) | (go_at_call 42; (with_reducible refine Calls.mono (TR.stepM T hM fun R2 h m => lane_ld_8 M A off b 0 lo _ rfl hlo _ R2 _ h m (by decide) h2 (by omega)) ?_); rintro e u2 ⟨rfl, T⟩))
 have T9 := TR.cast (T) (laneLdC 8 b off lo) 3 (by simp [regs]) (by first | rfl | omega)
 obtain ⟨v, hSQ, c1, c2, c3⟩ := TR.done T9 hbu.out hAw HM.out
 have HSQ := Lib.hid hSQ
 clear hSQ T9 T
 go_quiet (fail)
 simp only [Exit.then]
 go_at_K
 go_wp2_with fail
 go_ret3
 exact ⟨v, rfl, HSQ.out.mono ⟨rfl, rfl, rfl, Nat.le_refl _, fun _ _ => rfl⟩⟩
set_option maxRecDepth 100000 in
theorem seq_91 (a : Int) (off lo b : Nat) (hi : Int) (L : Value) (w : World) (hb : b ≤ 1000) (h2 : off < 4294967296) (hlo : lo < 2) :
 Calls Tryz.prog 11 #[inV 64859 a off lo hi L, .int .i64 (b : Int)] w fun e w' => ∃ v, e = .returned (.tuple #[v, .int .i64 3, .int .i64 0]) ∧ SQ w (laneStC 8 b off lo) v w' := by
 have hZ : ∀ W, Calls Tryz.prog 13 #[.int .i64 64859] W fun e w' => e = .returned (.int .i64 8) ∧ w' = W := fun W => vsize_any 64859 W (by decide)
 have HZ := Lib.hid hZ
 clear hZ
 unfold inV
 have e1 : IntKind.i64.wrap 91 = 91 := IntWalk.i64_in _ (by decide)
 have e2 : IntKind.u64.wrap (off : Int) = (off : Int) := by rw [IntKind.wrap_u64]; omega
 have d1 : decide ((b : Int) < 0) = false := decide_eq_false (by omega)
 have d2 : decide ((4032 : Int) < (b : Int)) = false := decide_eq_false (by omega)
 have d3 : decide ((off : Int) < 0) = false := decide_eq_false (by omega)
 have d4 : decide ((4294967296 : Int) ≤ (off : Int)) = false := decide_eq_false (by omega)
 have ew2 : IntKind.i64.wrap 2 = 2 := IntWalk.i64_in _ (by decide)
 have el : IntKind.i64.wrap (lo : Int) = lo := IntWalk.i64_in _ (by omega)
 have eu : IntKind.u64.wrap 2 = 2 := by rw [IntKind.wrap_u64]; rfl
 have d5 : decide ((2 : Int) ≤ (lo : Int)) = false := decide_eq_false (by omega)
 go_enter Tryz.func11, Tryz.ntmps11
 go_wp2_with fail
 go_quiet ((go_at_call 13; exact Calls.quiet_of_same (HZ.out _)))
 have hs : IB w w.heap.size (.cells #[.int .i64 64859, .int .i64 (a : Int), .int .i64 (off : Int), .int .u64 (lo : Int), .int .u64 hi, L] 25 (0, 0)) ((w.alloc (.cells #[.int .i64 64859, .int .i64 (a : Int), .int .i64 (off : Int), .int .u64 (lo : Int), .int .u64 hi, L] 25)).drewN nq) := ⟨((Below.refl _ _).alloc (Nat.le_refl _) _).trans ⟨rfl, rfl, rfl, Nat.le_refl _, fun _ _ => rfl⟩, heap_alloc_new _ _⟩
 generalize ((w.alloc (.cells #[.int .i64 64859, .int .i64 (a : Int), .int .i64 (off : Int), .int .u64 (lo : Int), .int .u64 hi, L] 25)).drewN nq) = W at *
 simp only [Exit.then]
 go_at_K
 go_wp2_with fail
 refine region_do (IB w w.heap.size (.cells #[.int .i64 64859, .int .i64 (a : Int), .int .i64 (off : Int), .int .u64 (lo : Int), .int .u64 hi, L] 25 (0, 0))) 30 (by kernel_rfl) (by kernel_rfl) hs.drew ?_
 simp only [zF, zE, zD, zC]
 repeat (first | (refine do_ldi rfl _ rfl _ 0 rfl (.int .i64 64859) (fun u hS => hS.cell 0 rfl) ?_; simp only [Act.put, z5, z6, z7]) | (refine do_ldi rfl _ rfl _ 2 rfl (.int .i64 (off : Int)) (fun u hS => hS.cell 2 rfl) ?_; simp only [Act.put, z5, z6, z7]) | (refine do_ldu rfl _ rfl _ 3 rfl (.int .u64 (lo : Int)) (fun u hS => hS.cell 3 rfl) ?_; simp only [Act.put, z5, z6, z7]) | (refine wpD_pure (v := ?_) rfl (fun u => ?_) ?_; rotate_left; (focus (go_simp; (try with_reducible rfl); done)); simp only [Act.put, z5, z6, z7]) | (refine wpD_pureg (v := ?_) rfl (fun u => ?_) ?_; rotate_left; (focus (go_simp; (try with_reducible rfl); done)); simp only [Act.put, z5, z6, z7]) | (refine wpD_skip rfl ?_; simp only [Act.put, z5, z6, z7]))
 apply wpD_nil
 intro wq hq
 have hI := hq.blk
 have hbq := hq.bel
 clear hq hs
 go_wp2_with fail
 refine region_cv (SS wq b 8 off) (fun v => ∃ A, v = .pointer (some ⟨A, 0, none⟩)) 8 1 7 [0, 2, 3, 4, 5] [6] [] rfl (by kernel_rfl) (by decide) rfl rfl rfl rfl SS.start ?_
 simp only [opsAt, List.getElem?_cons_zero, List.getElem?_cons_succ, List.drop_succ_cons, List.drop_zero]
 repeat (first | (refine wpDA_here rfl (fun D w2 hS => run_ldq _ isAgg_int _ rfl w.heap.size 2 rfl (.int .i64 (off : Int)) (by rw [cell_of_row w2 w.heap.size 2 _ _ _ (hS.get hI)]; rfl)) ?_; simp only [Act.put, z5, z6, z7]) | (refine wpDA_pure (v := ?_) rfl (fun u => ?_) ?_; rotate_left; (focus (go_simp; (try with_reducible rfl); done)); simp only [Act.put, z5, z6, z7]))
 refine wpDA_nil ⟨22, #[.int .i64 (b : Int)], fun u => ?_, fun u hS => ?_, ?_⟩
 ·go_simp
  try with_reducible rfl
 ·refine (at_k b u).mono ?_
  rintro e u2 ⟨rfl, hT, hb2⟩
  exact ⟨_, ⟨_, rfl⟩, ⟨hS.bel.trans (hb2.mono hS.bel.size), fun p hp => ⟨_, (by simpa using hp.symm), hS.bel.size, hT⟩, fun m p hp => by simp at hp⟩, rfl⟩
 rintro v ⟨A, rfl⟩
 simp only [opsAt, List.getElem?_cons_zero, List.getElem?_cons_succ, List.drop_succ_cons, List.drop_zero, Act.put, List.setIfInBounds_toArray, List.set_cons_zero, List.set_cons_succ]
 repeat (refine wpDA_pure (v := ?_) rfl (fun u => ?_) ?_; rotate_left; (focus (go_simp; (try with_reducible rfl); done)); simp only [Act.put, z5, z6, z7])
 refine wpDA_nil ⟨fun u hS => ?_, fun v => ?_⟩
 ·obtain ⟨A1, e, hS2⟩ := hS.box
  injection e with e
  injection e with e
  injection e with e
  subst e
  exact ⟨_, _, hS2, run_boxM _ _ _ _ _ _ (by first | rfl | omega) (by first | rfl | omega) rfl rfl⟩
 refine wpDA_nil fun u hS => ?_
 simp only [Act.put, z5, z6, z7]
 obtain ⟨A1, M, e3, rfl, hA, hM0, hT, hM⟩ := hS.d2 _ _ rfl
 injection e3 with e3
 injection e3 with e3
 injection e3 with e3
 subst e3
 have hbu := Lib.hid (hbq.trans (hS.bel.mono hbq.size))
 have hAw := Nat.le_trans hbq.size hA
 have HI := hS.get hI
 clear hS hI hbq hM0
 have T := hT.start
 have hB := hM.blk
 have HM := Lib.hid hM
 clear hT
 go_wp2_with (first | ((with_reducible refine load_w ?_ 22 isAgg_u6 _ rfl _ 3 rfl _ _ HI _ rfl ?_); (focus rfl)) | ((with_reducible refine load_w ?_ 77 isAgg_asm _ rfl _ _ rfl _ _ (T.get hB hM.ne hM.nr) _ rfl ?_); (focus rfl)) | (go_at_call 42; (with_reducible refine Calls.mono (TR.stepM T hM fun R2 h m => lane_st_8 M A off b 0 lo _ rfl hlo _ R2 _ h m (by decide) h2 (by omega)) ?_); rintro e u2 ⟨rfl, T⟩))
 have T9 := TR.cast (T) (laneStC 8 b off lo) 3 (by simp [regs]) (by first | rfl | omega)
 obtain ⟨v, hSQ, c1, c2, c3⟩ := TR.done T9 hbu.out hAw HM.out
 have HSQ := Lib.hid hSQ
 clear hSQ T9 T
 go_quiet (fail)
 simp only [Exit.then]
 go_at_K
 go_wp2_with fail
 go_ret3
 exact ⟨v, rfl, HSQ.out.mono ⟨rfl, rfl, rfl, Nat.le_refl _, fun _ _ => rfl⟩⟩
end Go.Proofs.YtmfmokblmipagaaGreat
