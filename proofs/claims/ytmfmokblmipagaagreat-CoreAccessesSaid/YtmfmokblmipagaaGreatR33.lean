/-
  Texts TaV2.
-/
import Derived.Test.YtmfmokblmipagaaGreatR26
set_option linter.unusedSimpArgs false
set_option linter.unusedVariables false
set_option maxHeartbeats 8000000
open Pl
namespace Go.Proofs.YtmfmokblmipagaaGreat
open Go.RowKit Pl
theorem num_z (A b k x : Nat) (z : Int) (hz : z = x) (l : List Cel) (v : Value) (xs : List Nat) (R : Option Nat) (u : World) (h : TA A l b k R u) (hI : IL A R u v xs) (h1 : l.length + xs.length + 1 ≤ 1000) :
 Calls Tryz.prog 44 #[.pointer (some ⟨A, 0, none⟩), .int .u64 z, v] u fun e u' => e = .returned (.tuple #[]) ∧ TR A R u (l ++ numc x :: xs.map opc) b k u' := by
 subst hz
 exact num_k A b k x l v xs R u h hI h1
set_option maxRecDepth 100000 in
theorem seq_7 (a : Int) (off lo b : Nat) (hi : Int) (L : Value) (w : World) (hb : b ≤ 1000) (h2 : off < 4294967296) :
 Calls Tryz.prog 11 #[inV 64775 a off lo hi L, .int .i64 (b : Int)] w fun e w' => ∃ v, e = .returned (.tuple #[v, .int .i64 1, .int .i64 0]) ∧ SQ w (atc 49 off :: numc 72340172838076673 :: opc 126 :: [setc b, getc b, getc b]) v w' := by
 have hZ : ∀ W, Calls Tryz.prog 13 #[.int .i64 64775] W fun e w' => e = .returned (.int .i64 1) ∧ w' = W := fun W => vsize_any 64775 W (by decide)
 have HZ := Lib.hid hZ
 clear hZ
 unfold inV
 have e1 : IntKind.i64.wrap 7 = 7 := IntWalk.i64_in _ (by decide)
 have e2 : IntKind.u64.wrap (off : Int) = (off : Int) := by rw [IntKind.wrap_u64]; omega
 have d1 : decide ((b : Int) < 0) = false := decide_eq_false (by omega)
 have d2 : decide ((4032 : Int) < (b : Int)) = false := decide_eq_false (by omega)
 have d3 : decide ((off : Int) < 0) = false := decide_eq_false (by omega)
 have d4 : decide ((4294967296 : Int) ≤ (off : Int)) = false := decide_eq_false (by omega)
 go_enter Tryz.func11, Tryz.ntmps11
 go_wp2_with fail
 go_quiet ((go_at_call 13; exact Calls.quiet_of_same (HZ.out _)))
 have hs : IB w w.heap.size (.cells #[.int .i64 64775, .int .i64 (a : Int), .int .i64 (off : Int), .int .u64 (lo : Int), .int .u64 hi, L] 25 (0, 0)) ((w.alloc (.cells #[.int .i64 64775, .int .i64 (a : Int), .int .i64 (off : Int), .int .u64 (lo : Int), .int .u64 hi, L] 25)).drewN nq) := ⟨((Below.refl _ _).alloc (Nat.le_refl _) _).trans ⟨rfl, rfl, rfl, Nat.le_refl _, fun _ _ => rfl⟩, heap_alloc_new _ _⟩
 generalize ((w.alloc (.cells #[.int .i64 64775, .int .i64 (a : Int), .int .i64 (off : Int), .int .u64 (lo : Int), .int .u64 hi, L] 25)).drewN nq) = W at *
 simp only [Exit.then]
 go_at_K
 go_wp2_with fail
 refine region_do (IB w w.heap.size (.cells #[.int .i64 64775, .int .i64 (a : Int), .int .i64 (off : Int), .int .u64 (lo : Int), .int .u64 hi, L] 25 (0, 0))) 30 (by kernel_rfl) (by kernel_rfl) hs.drew ?_
 simp only [zF, zE, zD, zC]
 repeat (first | (refine do_ldi rfl _ rfl _ 0 rfl (.int .i64 64775) (fun u hS => hS.cell 0 rfl) ?_; simp only [Act.put, z5, z6, z7]) | (refine do_ldi rfl _ rfl _ 2 rfl (.int .i64 (off : Int)) (fun u hS => hS.cell 2 rfl) ?_; simp only [Act.put, z5, z6, z7]) | (refine do_ldu rfl _ rfl _ 3 rfl (.int .u64 (lo : Int)) (fun u hS => hS.cell 3 rfl) ?_; simp only [Act.put, z5, z6, z7]) | (refine wpD_pure (v := ?_) rfl (fun u => ?_) ?_; rotate_left; (focus (go_simp; (try with_reducible rfl); done)); simp only [Act.put, z5, z6, z7]) | (refine wpD_pureg (v := ?_) rfl (fun u => ?_) ?_; rotate_left; (focus (go_simp; (try with_reducible rfl); done)); simp only [Act.put, z5, z6, z7]) | (refine wpD_skip rfl ?_; simp only [Act.put, z5, z6, z7]))
 apply wpD_nil
 intro wq hq
 have hI := hq.blk
 have hbq := hq.bel
 clear hq hs
 go_wp2_with fail
 refine region_cv (SS wq b 1 off) (fun v => ∃ A, v = .pointer (some ⟨A, 0, none⟩)) 8 1 7 [0, 2, 3, 4, 5] [6] [] rfl (by kernel_rfl) (by decide) rfl rfl rfl rfl SS.start ?_
 simp only [opsAt, List.getElem?_cons_zero, List.getElem?_cons_succ, List.drop_succ_cons, List.drop_zero]
 repeat (first | (refine wpDA_here rfl (fun D w2 hS => run_ldq _ isAgg_int _ rfl w.heap.size 2 rfl (.int .i64 (off : Int)) (by rw [cell_of_row w2 w.heap.size 2 _ _ _ (hS.get hI)]; rfl)) ?_; simp only [Act.put, z5, z6, z7]) | (refine wpDA_pure (v := ?_) rfl (fun u => ?_) ?_; rotate_left; (focus (go_simp; (try with_reducible rfl); done)); simp only [Act.put, z5, z6, z7]))
 refine wpDA_nil ⟨22, #[.int .i64 (b : Int)], fun u => ?_, fun u hS => ?_, ?_⟩
 ·go_simp
  try with_reducible rfl
 ·refine (at_k b u).mono ?_
  rintro e u2 ⟨rfl, hT, hb2⟩
  exact ⟨_, ⟨_, rfl⟩, ⟨hS.bel.trans (hb2.mono hS.bel.size), fun p hp => ⟨_, (by simpa using hp.symm), hS.bel.size, hT⟩, fun m p hp => by simp at hp⟩, rfl⟩
 rintro v ⟨A, rfl⟩
 simp only [opsAt, List.getElem?_cons_zero, List.getElem?_cons_succ, List.drop_succ_cons, List.drop_zero, Act.put, List.setIfInBounds_toArray, List.set_cons_zero, List.set_cons_succ]
 repeat (refine wpDA_pure (v := ?_) rfl (fun u => ?_) ?_; rotate_left; (focus (go_simp; (try with_reducible rfl); done)); simp only [Act.put, z5, z6, z7])
 refine wpDA_nil ⟨fun u hS => ?_, fun v => ?_⟩
 ·obtain ⟨A1, e, hS2⟩ := hS.box
  injection e with e
  injection e with e
  injection e with e
  subst e
  exact ⟨_, _, hS2, run_boxM _ _ _ _ _ _ (by first | rfl | omega) (by first | rfl | omega) rfl rfl⟩
 refine wpDA_nil fun u hS => ?_
 simp only [Act.put, z5, z6, z7]
 obtain ⟨A1, M, e3, rfl, hA, hM0, hT, hM⟩ := hS.d2 _ _ rfl
 injection e3 with e3
 injection e3 with e3
 injection e3 with e3
 subst e3
 have hbu := Lib.hid (hbq.trans (hS.bel.mono hbq.size))
 have hAw := Nat.le_trans hbq.size hA
 have HI := hS.get hI
 clear hS hI hbq hM0
 have T := hT.start
 have hB := hM.blk
 have HM := Lib.hid hM
 clear hT
 go_wp2_with (first | ((with_reducible refine load_w ?_ 77 isAgg_asm _ rfl _ _ rfl _ _ (T.get hB hM.ne hM.nr) _ rfl ?_); (focus rfl)) | (go_at_call 41; (with_reducible refine Calls.mono (TR.stepM T hM fun R2 h m => splat_1 M A off b 0 _ R2 _ h m (by decide) h2 (by omega)) ?_); rintro e u2 ⟨rfl, T⟩))
 have T9 := TR.cast (T) (atc 49 off :: numc 72340172838076673 :: opc 126 :: [setc b, getc b, getc b]) 1 (by simp [regs]) (by first | rfl | omega)
 obtain ⟨v, hSQ, c1, c2, c3⟩ := TR.done T9 hbu.out hAw HM.out
 have HSQ := Lib.hid hSQ
 clear hSQ T9 T
 go_quiet (fail)
 simp only [Exit.then]
 go_at_K
 go_wp2_with fail
 go_ret3
 exact ⟨v, rfl, HSQ.out.mono ⟨rfl, rfl, rfl, Nat.le_refl _, fun _ _ => rfl⟩⟩
set_option maxRecDepth 100000 in
theorem seq_8 (a : Int) (off lo b : Nat) (hi : Int) (L : Value) (w : World) (hb : b ≤ 1000) (h2 : off < 4294967296) :
 Calls Tryz.prog 11 #[inV 64776 a off lo hi L, .int .i64 (b : Int)] w fun e w' => ∃ v, e = .returned (.tuple #[v, .int .i64 1, .int .i64 0]) ∧ SQ w (atc 51 off :: numc 281479271743489 :: opc 126 :: [setc b, getc b, getc b]) v w' := by
 have hZ : ∀ W, Calls Tryz.prog 13 #[.int .i64 64776] W fun e w' => e = .returned (.int .i64 2) ∧ w' = W := fun W => vsize_any 64776 W (by decide)
 have HZ := Lib.hid hZ
 clear hZ
 unfold inV
 have e1 : IntKind.i64.wrap 8 = 8 := IntWalk.i64_in _ (by decide)
 have e2 : IntKind.u64.wrap (off : Int) = (off : Int) := by rw [IntKind.wrap_u64]; omega
 have d1 : decide ((b : Int) < 0) = false := decide_eq_false (by omega)
 have d2 : decide ((4032 : Int) < (b : Int)) = false := decide_eq_false (by omega)
 have d3 : decide ((off : Int) < 0) = false := decide_eq_false (by omega)
 have d4 : decide ((4294967296 : Int) ≤ (off : Int)) = false := decide_eq_false (by omega)
 go_enter Tryz.func11, Tryz.ntmps11
 go_wp2_with fail
 go_quiet ((go_at_call 13; exact Calls.quiet_of_same (HZ.out _)))
 have hs : IB w w.heap.size (.cells #[.int .i64 64776, .int .i64 (a : Int), .int .i64 (off : Int), .int .u64 (lo : Int), .int .u64 hi, L] 25 (0, 0)) ((w.alloc (.cells #[.int .i64 64776, .int .i64 (a : Int), .int .i64 (off : Int), .int .u64 (lo : Int), .int .u64 hi, L] 25)).drewN nq) := ⟨((Below.refl _ _).alloc (Nat.le_refl _) _).trans ⟨rfl, rfl, rfl, Nat.le_refl _, fun _ _ => rfl⟩, heap_alloc_new _ _⟩
 generalize ((w.alloc (.cells #[.int .i64 64776, .int .i64 (a : Int), .int .i64 (off : Int), .int .u64 (lo : Int), .int .u64 hi, L] 25)).drewN nq) = W at *
 simp only [Exit.then]
 go_at_K
 go_wp2_with fail
 refine region_do (IB w w.heap.size (.cells #[.int .i64 64776, .int .i64 (a : Int), .int .i64 (off : Int), .int .u64 (lo : Int), .int .u64 hi, L] 25 (0, 0))) 30 (by kernel_rfl) (by kernel_rfl) hs.drew ?_
 simp only [zF, zE, zD, zC]
 repeat (first | (refine do_ldi rfl _ rfl _ 0 rfl (.int .i64 64776) (fun u hS => hS.cell 0 rfl) ?_; simp only [Act.put, z5, z6, z7]) | (refine do_ldi rfl _ rfl _ 2 rfl (.int .i64 (off : Int)) (fun u hS => hS.cell 2 rfl) ?_; simp only [Act.put, z5, z6, z7]) | (refine do_ldu rfl _ rfl _ 3 rfl (.int .u64 (lo : Int)) (fun u hS => hS.cell 3 rfl) ?_; simp only [Act.put, z5, z6, z7]) | (refine wpD_pure (v := ?_) rfl (fun u => ?_) ?_; rotate_left; (focus (go_simp; (try with_reducible rfl); done)); simp only [Act.put, z5, z6, z7]) | (refine wpD_pureg (v := ?_) rfl (fun u => ?_) ?_; rotate_left; (focus (go_simp; (try with_reducible rfl); done)); simp only [Act.put, z5, z6, z7]) | (refine wpD_skip rfl ?_; simp only [Act.put, z5, z6, z7]))
 apply wpD_nil
 intro wq hq
 have hI := hq.blk
 have hbq := hq.bel
 clear hq hs
 go_wp2_with fail
 refine region_cv (SS wq b 2 off) (fun v => ∃ A, v = .pointer (some ⟨A, 0, none⟩)) 8 1 7 [0, 2, 3, 4, 5] [6] [] rfl (by kernel_rfl) (by decide) rfl rfl rfl rfl SS.start ?_
 simp only [opsAt, List.getElem?_cons_zero, List.getElem?_cons_succ, List.drop_succ_cons, List.drop_zero]
 repeat (first | (refine wpDA_here rfl (fun D w2 hS => run_ldq _ isAgg_int _ rfl w.heap.size 2 rfl (.int .i64 (off : Int)) (by rw [cell_of_row w2 w.heap.size 2 _ _ _ (hS.get hI)]; rfl)) ?_; simp only [Act.put, z5, z6, z7]) | (refine wpDA_pure (v := ?_) rfl (fun u => ?_) ?_; rotate_left; (focus (go_simp; (try with_reducible rfl); done)); simp only [Act.put, z5, z6, z7]))
 refine wpDA_nil ⟨22, #[.int .i64 (b : Int)], fun u => ?_, fun u hS => ?_, ?_⟩
 ·go_simp
  try with_reducible rfl
 ·refine (at_k b u).mono ?_
  rintro e u2 ⟨rfl, hT, hb2⟩
  exact ⟨_, ⟨_, rfl⟩, ⟨hS.bel.trans (hb2.mono hS.bel.size), fun p hp => ⟨_, (by simpa using hp.symm), hS.bel.size, hT⟩, fun m p hp => by simp at hp⟩, rfl⟩
 rintro v ⟨A, rfl⟩
 simp only [opsAt, List.getElem?_cons_zero, List.getElem?_cons_succ, List.drop_succ_cons, List.drop_zero, Act.put, List.setIfInBounds_toArray, List.set_cons_zero, List.set_cons_succ]
 repeat (refine wpDA_pure (v := ?_) rfl (fun u => ?_) ?_; rotate_left; (focus (go_simp; (try with_reducible rfl); done)); simp only [Act.put, z5, z6, z7])
 refine wpDA_nil ⟨fun u hS => ?_, fun v => ?_⟩
 ·obtain ⟨A1, e, hS2⟩ := hS.box
  injection e with e
  injection e with e
  injection e with e
  subst e
  exact ⟨_, _, hS2, run_boxM _ _ _ _ _ _ (by first | rfl | omega) (by first | rfl | omega) rfl rfl⟩
 refine wpDA_nil fun u hS => ?_
 simp only [Act.put, z5, z6, z7]
 obtain ⟨A1, M, e3, rfl, hA, hM0, hT, hM⟩ := hS.d2 _ _ rfl
 injection e3 with e3
 injection e3 with e3
 injection e3 with e3
 subst e3
 have hbu := Lib.hid (hbq.trans (hS.bel.mono hbq.size))
 have hAw := Nat.le_trans hbq.size hA
 have HI := hS.get hI
 clear hS hI hbq hM0
 have T := hT.start
 have hB := hM.blk
 have HM := Lib.hid hM
 clear hT
 go_wp2_with (first | ((with_reducible refine load_w ?_ 77 isAgg_asm _ rfl _ _ rfl _ _ (T.get hB hM.ne hM.nr) _ rfl ?_); (focus rfl)) | (go_at_call 41; (with_reducible refine Calls.mono (TR.stepM T hM fun R2 h m => splat_2 M A off b 0 _ R2 _ h m (by decide) h2 (by omega)) ?_); rintro e u2 ⟨rfl, T⟩))
 have T9 := TR.cast (T) (atc 51 off :: numc 281479271743489 :: opc 126 :: [setc b, getc b, getc b]) 1 (by simp [regs]) (by first | rfl | omega)
 obtain ⟨v, hSQ, c1, c2, c3⟩ := TR.done T9 hbu.out hAw HM.out
 have HSQ := Lib.hid hSQ
 clear hSQ T9 T
 go_quiet (fail)
 simp only [Exit.then]
 go_at_K
 go_wp2_with fail
 go_ret3
 exact ⟨v, rfl, HSQ.out.mono ⟨rfl, rfl, rfl, Nat.le_refl _, fun _ _ => rfl⟩⟩
set_option maxRecDepth 100000 in
theorem seq_9 (a : Int) (off lo b : Nat) (hi : Int) (L : Value) (w : World) (hb : b ≤ 1000) (h2 : off < 4294967296) :
 Calls Tryz.prog 11 #[inV 64777 a off lo hi L, .int .i64 (b : Int)] w fun e w' => ∃ v, e = .returned (.tuple #[v, .int .i64 1, .int .i64 0]) ∧ SQ w (atc 53 off :: numc 4294967297 :: opc 126 :: [setc b, getc b, getc b]) v w' := by
 have hZ : ∀ W, Calls Tryz.prog 13 #[.int .i64 64777] W fun e w' => e = .returned (.int .i64 4) ∧ w' = W := fun W => vsize_any 64777 W (by decide)
 have HZ := Lib.hid hZ
 clear hZ
 unfold inV
 have e1 : IntKind.i64.wrap 9 = 9 := IntWalk.i64_in _ (by decide)
 have e2 : IntKind.u64.wrap (off : Int) = (off : Int) := by rw [IntKind.wrap_u64]; omega
 have d1 : decide ((b : Int) < 0) = false := decide_eq_false (by omega)
 have d2 : decide ((4032 : Int) < (b : Int)) = false := decide_eq_false (by omega)
 have d3 : decide ((off : Int) < 0) = false := decide_eq_false (by omega)
 have d4 : decide ((4294967296 : Int) ≤ (off : Int)) = false := decide_eq_false (by omega)
 go_enter Tryz.func11, Tryz.ntmps11
 go_wp2_with fail
 go_quiet ((go_at_call 13; exact Calls.quiet_of_same (HZ.out _)))
 have hs : IB w w.heap.size (.cells #[.int .i64 64777, .int .i64 (a : Int), .int .i64 (off : Int), .int .u64 (lo : Int), .int .u64 hi, L] 25 (0, 0)) ((w.alloc (.cells #[.int .i64 64777, .int .i64 (a : Int), .int .i64 (off : Int), .int .u64 (lo : Int), .int .u64 hi, L] 25)).drewN nq) := ⟨((Below.refl _ _).alloc (Nat.le_refl _) _).trans ⟨rfl, rfl, rfl, Nat.le_refl _, fun _ _ => rfl⟩, heap_alloc_new _ _⟩
 generalize ((w.alloc (.cells #[.int .i64 64777, .int .i64 (a : Int), .int .i64 (off : Int), .int .u64 (lo : Int), .int .u64 hi, L] 25)).drewN nq) = W at *
 simp only [Exit.then]
 go_at_K
 go_wp2_with fail
 refine region_do (IB w w.heap.size (.cells #[.int .i64 64777, .int .i64 (a : Int), .int .i64 (off : Int), .int .u64 (lo : Int), .int .u64 hi, L] 25 (0, 0))) 30 (by kernel_rfl) (by kernel_rfl) hs.drew ?_
 simp only [zF, zE, zD, zC]
 repeat (first | (refine do_ldi rfl _ rfl _ 0 rfl (.int .i64 64777) (fun u hS => hS.cell 0 rfl) ?_; simp only [Act.put, z5, z6, z7]) | (refine do_ldi rfl _ rfl _ 2 rfl (.int .i64 (off : Int)) (fun u hS => hS.cell 2 rfl) ?_; simp only [Act.put, z5, z6, z7]) | (refine do_ldu rfl _ rfl _ 3 rfl (.int .u64 (lo : Int)) (fun u hS => hS.cell 3 rfl) ?_; simp only [Act.put, z5, z6, z7]) | (refine wpD_pure (v := ?_) rfl (fun u => ?_) ?_; rotate_left; (focus (go_simp; (try with_reducible rfl); done)); simp only [Act.put, z5, z6, z7]) | (refine wpD_pureg (v := ?_) rfl (fun u => ?_) ?_; rotate_left; (focus (go_simp; (try with_reducible rfl); done)); simp only [Act.put, z5, z6, z7]) | (refine wpD_skip rfl ?_; simp only [Act.put, z5, z6, z7]))
 apply wpD_nil
 intro wq hq
 have hI := hq.blk
 have hbq := hq.bel
 clear hq hs
 go_wp2_with fail
 refine region_cv (SS wq b 4 off) (fun v => ∃ A, v = .pointer (some ⟨A, 0, none⟩)) 8 1 7 [0, 2, 3, 4, 5] [6] [] rfl (by kernel_rfl) (by decide) rfl rfl rfl rfl SS.start ?_
 simp only [opsAt, List.getElem?_cons_zero, List.getElem?_cons_succ, List.drop_succ_cons, List.drop_zero]
 repeat (first | (refine wpDA_here rfl (fun D w2 hS => run_ldq _ isAgg_int _ rfl w.heap.size 2 rfl (.int .i64 (off : Int)) (by rw [cell_of_row w2 w.heap.size 2 _ _ _ (hS.get hI)]; rfl)) ?_; simp only [Act.put, z5, z6, z7]) | (refine wpDA_pure (v := ?_) rfl (fun u => ?_) ?_; rotate_left; (focus (go_simp; (try with_reducible rfl); done)); simp only [Act.put, z5, z6, z7]))
 refine wpDA_nil ⟨22, #[.int .i64 (b : Int)], fun u => ?_, fun u hS => ?_, ?_⟩
 ·go_simp
  try with_reducible rfl
 ·refine (at_k b u).mono ?_
  rintro e u2 ⟨rfl, hT, hb2⟩
  exact ⟨_, ⟨_, rfl⟩, ⟨hS.bel.trans (hb2.mono hS.bel.size), fun p hp => ⟨_, (by simpa using hp.symm), hS.bel.size, hT⟩, fun m p hp => by simp at hp⟩, rfl⟩
 rintro v ⟨A, rfl⟩
 simp only [opsAt, List.getElem?_cons_zero, List.getElem?_cons_succ, List.drop_succ_cons, List.drop_zero, Act.put, List.setIfInBounds_toArray, List.set_cons_zero, List.set_cons_succ]
 repeat (refine wpDA_pure (v := ?_) rfl (fun u => ?_) ?_; rotate_left; (focus (go_simp; (try with_reducible rfl); done)); simp only [Act.put, z5, z6, z7])
 refine wpDA_nil ⟨fun u hS => ?_, fun v => ?_⟩
 ·obtain ⟨A1, e, hS2⟩ := hS.box
  injection e with e
  injection e with e
  injection e with e
  subst e
  exact ⟨_, _, hS2, run_boxM _ _ _ _ _ _ (by first | rfl | omega) (by first | rfl | omega) rfl rfl⟩
 refine wpDA_nil fun u hS => ?_
 simp only [Act.put, z5, z6, z7]
 obtain ⟨A1, M, e3, rfl, hA, hM0, hT, hM⟩ := hS.d2 _ _ rfl
 injection e3 with e3
 injection e3 with e3
 injection e3 with e3
 subst e3
 have hbu := Lib.hid (hbq.trans (hS.bel.mono hbq.size))
 have hAw := Nat.le_trans hbq.size hA
 have HI := hS.get hI
 clear hS hI hbq hM0
 have T := hT.start
 have hB := hM.blk
 have HM := Lib.hid hM
 clear hT
 go_wp2_with (first | ((with_reducible refine load_w ?_ 77 isAgg_asm _ rfl _ _ rfl _ _ (T.get hB hM.ne hM.nr) _ rfl ?_); (focus rfl)) | (go_at_call 41; (with_reducible refine Calls.mono (TR.stepM T hM fun R2 h m => splat_4 M A off b 0 _ R2 _ h m (by decide) h2 (by omega)) ?_); rintro e u2 ⟨rfl, T⟩))
 have T9 := TR.cast (T) (atc 53 off :: numc 4294967297 :: opc 126 :: [setc b, getc b, getc b]) 1 (by simp [regs]) (by first | rfl | omega)
 obtain ⟨v, hSQ, c1, c2, c3⟩ := TR.done T9 hbu.out hAw HM.out
 have HSQ := Lib.hid hSQ
 clear hSQ T9 T
 go_quiet (fail)
 simp only [Exit.then]
 go_at_K
 go_wp2_with fail
 go_ret3
 exact ⟨v, rfl, HSQ.out.mono ⟨rfl, rfl, rfl, Nat.le_refl _, fun _ _ => rfl⟩⟩
set_option maxRecDepth 100000 in
theorem seq_10 (a : Int) (off lo b : Nat) (hi : Int) (L : Value) (w : World) (hb : b ≤ 1000) (h2 : off < 4294967296) :
 Calls Tryz.prog 11 #[inV 64778 a off lo hi L, .int .i64 (b : Int)] w fun e w' => ∃ v, e = .returned (.tuple #[v, .int .i64 1, .int .i64 0]) ∧ SQ w (atc 41 off :: [setc b, getc b, getc b]) v w' := by
 have hZ : ∀ W, Calls Tryz.prog 13 #[.int .i64 64778] W fun e w' => e = .returned (.int .i64 8) ∧ w' = W := fun W => vsize_any 64778 W (by decide)
 have HZ := Lib.hid hZ
 clear hZ
 unfold inV
 have e1 : IntKind.i64.wrap 10 = 10 := IntWalk.i64_in _ (by decide)
 have e2 : IntKind.u64.wrap (off : Int) = (off : Int) := by rw [IntKind.wrap_u64]; omega
 have d1 : decide ((b : Int) < 0) = false := decide_eq_false (by omega)
 have d2 : decide ((4032 : Int) < (b : Int)) = false := decide_eq_false (by omega)
 have d3 : decide ((off : Int) < 0) = false := decide_eq_false (by omega)
 have d4 : decide ((4294967296 : Int) ≤ (off : Int)) = false := decide_eq_false (by omega)
 go_enter Tryz.func11, Tryz.ntmps11
 go_wp2_with fail
 go_quiet ((go_at_call 13; exact Calls.quiet_of_same (HZ.out _)))
 have hs : IB w w.heap.size (.cells #[.int .i64 64778, .int .i64 (a : Int), .int .i64 (off : Int), .int .u64 (lo : Int), .int .u64 hi, L] 25 (0, 0)) ((w.alloc (.cells #[.int .i64 64778, .int .i64 (a : Int), .int .i64 (off : Int), .int .u64 (lo : Int), .int .u64 hi, L] 25)).drewN nq) := ⟨((Below.refl _ _).alloc (Nat.le_refl _) _).trans ⟨rfl, rfl, rfl, Nat.le_refl _, fun _ _ => rfl⟩, heap_alloc_new _ _⟩
 generalize ((w.alloc (.cells #[.int .i64 64778, .int .i64 (a : Int), .int .i64 (off : Int), .int .u64 (lo : Int), .int .u64 hi, L] 25)).drewN nq) = W at *
 simp only [Exit.then]
 go_at_K
 go_wp2_with fail
 refine region_do (IB w w.heap.size (.cells #[.int .i64 64778, .int .i64 (a : Int), .int .i64 (off : Int), .int .u64 (lo : Int), .int .u64 hi, L] 25 (0, 0))) 30 (by kernel_rfl) (by kernel_rfl) hs.drew ?_
 simp only [zF, zE, zD, zC]
 repeat (first | (refine do_ldi rfl _ rfl _ 0 rfl (.int .i64 64778) (fun u hS => hS.cell 0 rfl) ?_; simp only [Act.put, z5, z6, z7]) | (refine do_ldi rfl _ rfl _ 2 rfl (.int .i64 (off : Int)) (fun u hS => hS.cell 2 rfl) ?_; simp only [Act.put, z5, z6, z7]) | (refine do_ldu rfl _ rfl _ 3 rfl (.int .u64 (lo : Int)) (fun u hS => hS.cell 3 rfl) ?_; simp only [Act.put, z5, z6, z7]) | (refine wpD_pure (v := ?_) rfl (fun u => ?_) ?_; rotate_left; (focus (go_simp; (try with_reducible rfl); done)); simp only [Act.put, z5, z6, z7]) | (refine wpD_pureg (v := ?_) rfl (fun u => ?_) ?_; rotate_left; (focus (go_simp; (try with_reducible rfl); done)); simp only [Act.put, z5, z6, z7]) | (refine wpD_skip rfl ?_; simp only [Act.put, z5, z6, z7]))
 apply wpD_nil
 intro wq hq
 have hI := hq.blk
 have hbq := hq.bel
 clear hq hs
 go_wp2_with fail
 refine region_cv (SS wq b 8 off) (fun v => ∃ A, v = .pointer (some ⟨A, 0, none⟩)) 8 1 7 [0, 2, 3, 4, 5] [6] [] rfl (by kernel_rfl) (by decide) rfl rfl rfl rfl SS.start ?_
 simp only [opsAt, List.getElem?_cons_zero, List.getElem?_cons_succ, List.drop_succ_cons, List.drop_zero]
 repeat (first | (refine wpDA_here rfl (fun D w2 hS => run_ldq _ isAgg_int _ rfl w.heap.size 2 rfl (.int .i64 (off : Int)) (by rw [cell_of_row w2 w.heap.size 2 _ _ _ (hS.get hI)]; rfl)) ?_; simp only [Act.put, z5, z6, z7]) | (refine wpDA_pure (v := ?_) rfl (fun u => ?_) ?_; rotate_left; (focus (go_simp; (try with_reducible rfl); done)); simp only [Act.put, z5, z6, z7]))
 refine wpDA_nil ⟨22, #[.int .i64 (b : Int)], fun u => ?_, fun u hS => ?_, ?_⟩
 ·go_simp
  try with_reducible rfl
 ·refine (at_k b u).mono ?_
  rintro e u2 ⟨rfl, hT, hb2⟩
  exact ⟨_, ⟨_, rfl⟩, ⟨hS.bel.trans (hb2.mono hS.bel.size), fun p hp => ⟨_, (by simpa using hp.symm), hS.bel.size, hT⟩, fun m p hp => by simp at hp⟩, rfl⟩
 rintro v ⟨A, rfl⟩
 simp only [opsAt, List.getElem?_cons_zero, List.getElem?_cons_succ, List.drop_succ_cons, List.drop_zero, Act.put, List.setIfInBounds_toArray, List.set_cons_zero, List.set_cons_succ]
 repeat (refine wpDA_pure (v := ?_) rfl (fun u => ?_) ?_; rotate_left; (focus (go_simp; (try with_reducible rfl); done)); simp only [Act.put, z5, z6, z7])
 refine wpDA_nil ⟨fun u hS => ?_, fun v => ?_⟩
 ·obtain ⟨A1, e, hS2⟩ := hS.box
  injection e with e
  injection e with e
  injection e with e
  subst e
  exact ⟨_, _, hS2, run_boxM _ _ _ _ _ _ (by first | rfl | omega) (by first | rfl | omega) rfl rfl⟩
 refine wpDA_nil fun u hS => ?_
 simp only [Act.put, z5, z6, z7]
 obtain ⟨A1, M, e3, rfl, hA, hM0, hT, hM⟩ := hS.d2 _ _ rfl
 injection e3 with e3
 injection e3 with e3
 injection e3 with e3
 subst e3
 have hbu := Lib.hid (hbq.trans (hS.bel.mono hbq.size))
 have hAw := Nat.le_trans hbq.size hA
 have HI := hS.get hI
 clear hS hI hbq hM0
 have T := hT.start
 have hB := hM.blk
 have HM := Lib.hid hM
 clear hT
 go_wp2_with (first | ((with_reducible refine load_w ?_ 77 isAgg_asm _ rfl _ _ rfl _ _ (T.get hB hM.ne hM.nr) _ rfl ?_); (focus rfl)) | (go_at_call 41; (with_reducible refine Calls.mono (TR.stepM T hM fun R2 h m => splat_8 M A off b 0 _ R2 _ h m (by decide) h2 (by omega)) ?_); rintro e u2 ⟨rfl, T⟩))
 have T9 := TR.cast (T) (atc 41 off :: [setc b, getc b, getc b]) 1 (by simp [regs]) (by first | rfl | omega)
 obtain ⟨v, hSQ, c1, c2, c3⟩ := TR.done T9 hbu.out hAw HM.out
 have HSQ := Lib.hid hSQ
 clear hSQ T9 T
 go_quiet (fail)
 simp only [Exit.then]
 go_at_K
 go_wp2_with fail
 go_ret3
 exact ⟨v, rfl, HSQ.out.mono ⟨rfl, rfl, rfl, Nat.le_refl _, fun _ _ => rfl⟩⟩
set_option maxRecDepth 100000 in
theorem seq_92 (a : Int) (off lo b : Nat) (hi : Int) (L : Value) (w : World) (hb : b ≤ 1000) (h2 : off < 4294967296) :
 Calls Tryz.prog 11 #[inV 64860 a off lo hi L, .int .i64 (b : Int)] w fun e w' => ∃ v, e = .returned (.tuple #[v, .int .i64 0, .int .i64 0]) ∧ SQ w ([atc 53 off, numc 0]) v w' := by
 have hZ : ∀ W, Calls Tryz.prog 13 #[.int .i64 64860] W fun e w' => e = .returned (.int .i64 4) ∧ w' = W := fun W => vsize_any 64860 W (by decide)
 have HZ := Lib.hid hZ
 clear hZ
 unfold inV
 have e1 : IntKind.i64.wrap 92 = 92 := IntWalk.i64_in _ (by decide)
 have e2 : IntKind.u64.wrap (off : Int) = (off : Int) := by rw [IntKind.wrap_u64]; omega
 have d1 : decide ((b : Int) < 0) = false := decide_eq_false (by omega)
 have d2 : decide ((4032 : Int) < (b : Int)) = false := decide_eq_false (by omega)
 have d3 : decide ((off : Int) < 0) = false := decide_eq_false (by omega)
 have d4 : decide ((4294967296 : Int) ≤ (off : Int)) = false := decide_eq_false (by omega)
 go_enter Tryz.func11, Tryz.ntmps11
 go_wp2_with fail
 go_quiet ((go_at_call 13; exact Calls.quiet_of_same (HZ.out _)))
 have hs : IB w w.heap.size (.cells #[.int .i64 64860, .int .i64 (a : Int), .int .i64 (off : Int), .int .u64 (lo : Int), .int .u64 hi, L] 25 (0, 0)) ((w.alloc (.cells #[.int .i64 64860, .int .i64 (a : Int), .int .i64 (off : Int), .int .u64 (lo : Int), .int .u64 hi, L] 25)).drewN nq) := ⟨((Below.refl _ _).alloc (Nat.le_refl _) _).trans ⟨rfl, rfl, rfl, Nat.le_refl _, fun _ _ => rfl⟩, heap_alloc_new _ _⟩
 generalize ((w.alloc (.cells #[.int .i64 64860, .int .i64 (a : Int), .int .i64 (off : Int), .int .u64 (lo : Int), .int .u64 hi, L] 25)).drewN nq) = W at *
 simp only [Exit.then]
 go_at_K
 go_wp2_with fail
 refine region_do (IB w w.heap.size (.cells #[.int .i64 64860, .int .i64 (a : Int), .int .i64 (off : Int), .int .u64 (lo : Int), .int .u64 hi, L] 25 (0, 0))) 30 (by kernel_rfl) (by kernel_rfl) hs.drew ?_
 simp only [zF, zE, zD, zC]
 repeat (first | (refine do_ldi rfl _ rfl _ 0 rfl (.int .i64 64860) (fun u hS => hS.cell 0 rfl) ?_; simp only [Act.put, z5, z6, z7]) | (refine do_ldi rfl _ rfl _ 2 rfl (.int .i64 (off : Int)) (fun u hS => hS.cell 2 rfl) ?_; simp only [Act.put, z5, z6, z7]) | (refine do_ldu rfl _ rfl _ 3 rfl (.int .u64 (lo : Int)) (fun u hS => hS.cell 3 rfl) ?_; simp only [Act.put, z5, z6, z7]) | (refine wpD_pure (v := ?_) rfl (fun u => ?_) ?_; rotate_left; (focus (go_simp; (try with_reducible rfl); done)); simp only [Act.put, z5, z6, z7]) | (refine wpD_pureg (v := ?_) rfl (fun u => ?_) ?_; rotate_left; (focus (go_simp; (try with_reducible rfl); done)); simp only [Act.put, z5, z6, z7]) | (refine wpD_skip rfl ?_; simp only [Act.put, z5, z6, z7]))
 apply wpD_nil
 intro wq hq
 have hI := hq.blk
 have hbq := hq.bel
 clear hq hs
 go_wp2_with fail
 refine region_cv (SS wq b 4 off) (fun v => ∃ A, v = .pointer (some ⟨A, 0, none⟩)) 8 1 7 [0, 2, 3, 4, 5] [6] [] rfl (by kernel_rfl) (by decide) rfl rfl rfl rfl SS.start ?_
 simp only [opsAt, List.getElem?_cons_zero, List.getElem?_cons_succ, List.drop_succ_cons, List.drop_zero]
 repeat (first | (refine wpDA_here rfl (fun D w2 hS => run_ldq _ isAgg_int _ rfl w.heap.size 2 rfl (.int .i64 (off : Int)) (by rw [cell_of_row w2 w.heap.size 2 _ _ _ (hS.get hI)]; rfl)) ?_; simp only [Act.put, z5, z6, z7]) | (refine wpDA_pure (v := ?_) rfl (fun u => ?_) ?_; rotate_left; (focus (go_simp; (try with_reducible rfl); done)); simp only [Act.put, z5, z6, z7]))
 refine wpDA_nil ⟨22, #[.int .i64 (b : Int)], fun u => ?_, fun u hS => ?_, ?_⟩
 ·go_simp
  try with_reducible rfl
 ·refine (at_k b u).mono ?_
  rintro e u2 ⟨rfl, hT, hb2⟩
  exact ⟨_, ⟨_, rfl⟩, ⟨hS.bel.trans (hb2.mono hS.bel.size), fun p hp => ⟨_, (by simpa using hp.symm), hS.bel.size, hT⟩, fun m p hp => by simp at hp⟩, rfl⟩
 rintro v ⟨A, rfl⟩
 simp only [opsAt, List.getElem?_cons_zero, List.getElem?_cons_succ, List.drop_succ_cons, List.drop_zero, Act.put, List.setIfInBounds_toArray, List.set_cons_zero, List.set_cons_succ]
 repeat (refine wpDA_pure (v := ?_) rfl (fun u => ?_) ?_; rotate_left; (focus (go_simp; (try with_reducible rfl); done)); simp only [Act.put, z5, z6, z7])
 refine wpDA_nil ⟨fun u hS => ?_, fun v => ?_⟩
 ·obtain ⟨A1, e, hS2⟩ := hS.box
  injection e with e
  injection e with e
  injection e with e
  subst e
  exact ⟨_, _, hS2, run_boxM _ _ _ _ _ _ (by first | rfl | omega) (by first | rfl | omega) rfl rfl⟩
 refine wpDA_nil fun u hS => ?_
 simp only [Act.put, z5, z6, z7]
 obtain ⟨A1, M, e3, rfl, hA, hM0, hT, hM⟩ := hS.d2 _ _ rfl
 injection e3 with e3
 injection e3 with e3
 injection e3 with e3
 subst e3
 have hbu := Lib.hid (hbq.trans (hS.bel.mono hbq.size))
 have hAw := Nat.le_trans hbq.size hA
 have HI := hS.get hI
 clear hS hI hbq hM0
 have T := hT.start
 have hB := hM.blk
 have HM := Lib.hid hM
 clear hT
 go_wp2_with (first | ((with_reducible refine load_w ?_ 77 isAgg_asm _ rfl _ _ rfl _ _ (T.get hB hM.ne hM.nr) _ rfl ?_); (focus rfl)) | (go_at_call 43; refine Calls.mono (ldop_4 _) ?_; rintro e u2 ⟨rfl, rfl⟩) | (go_at_call 39; (with_reducible refine Calls.mono (TR.stepM T hM fun R2 h m => mat_z M A 4 off b _ 53 0 _ _ (by decide) (by decide) _ R2 _ h m (by (try simp only [zP, zN, zM, zL, zH, regs_len]); omega) (by omega)) ?_); rintro e u2 ⟨rfl, T⟩) | (go_at_call 44; (with_reducible refine Calls.mono (TR.step T fun R2 h => num_z A b _ 0 _ (by decide) _ _ [] R2 _ h (IL.nil _ _ _) (by (try simp only [zP, zN, zM, zL, zH, regs_len]); omega)) ?_); rintro e u2 ⟨rfl, T⟩))
 have T9 := TR.cast (T) ([atc 53 off, numc 0]) 0 (by simp [regs]) (by first | rfl | omega)
 obtain ⟨v, hSQ, c1, c2, c3⟩ := TR.done T9 hbu.out hAw HM.out
 have HSQ := Lib.hid hSQ
 clear hSQ T9 T
 go_quiet (fail)
 simp only [Exit.then]
 go_at_K
 go_wp2_with fail
 go_ret3
 exact ⟨v, rfl, HSQ.out.mono ⟨rfl, rfl, rfl, Nat.le_refl _, fun _ _ => rfl⟩⟩
set_option maxRecDepth 100000 in
theorem seq_93 (a : Int) (off lo b : Nat) (hi : Int) (L : Value) (w : World) (hb : b ≤ 1000) (h2 : off < 4294967296) :
 Calls Tryz.prog 11 #[inV 64861 a off lo hi L, .int .i64 (b : Int)] w fun e w' => ∃ v, e = .returned (.tuple #[v, .int .i64 0, .int .i64 0]) ∧ SQ w ([atc 41 off, numc 0]) v w' := by
 have hZ : ∀ W, Calls Tryz.prog 13 #[.int .i64 64861] W fun e w' => e = .returned (.int .i64 8) ∧ w' = W := fun W => vsize_any 64861 W (by decide)
 have HZ := Lib.hid hZ
 clear hZ
 unfold inV
 have e1 : IntKind.i64.wrap 93 = 93 := IntWalk.i64_in _ (by decide)
 have e2 : IntKind.u64.wrap (off : Int) = (off : Int) := by rw [IntKind.wrap_u64]; omega
 have d1 : decide ((b : Int) < 0) = false := decide_eq_false (by omega)
 have d2 : decide ((4032 : Int) < (b : Int)) = false := decide_eq_false (by omega)
 have d3 : decide ((off : Int) < 0) = false := decide_eq_false (by omega)
 have d4 : decide ((4294967296 : Int) ≤ (off : Int)) = false := decide_eq_false (by omega)
 go_enter Tryz.func11, Tryz.ntmps11
 go_wp2_with fail
 go_quiet ((go_at_call 13; exact Calls.quiet_of_same (HZ.out _)))
 have hs : IB w w.heap.size (.cells #[.int .i64 64861, .int .i64 (a : Int), .int .i64 (off : Int), .int .u64 (lo : Int), .int .u64 hi, L] 25 (0, 0)) ((w.alloc (.cells #[.int .i64 64861, .int .i64 (a : Int), .int .i64 (off : Int), .int .u64 (lo : Int), .int .u64 hi, L] 25)).drewN nq) := ⟨((Below.refl _ _).alloc (Nat.le_refl _) _).trans ⟨rfl, rfl, rfl, Nat.le_refl _, fun _ _ => rfl⟩, heap_alloc_new _ _⟩
 generalize ((w.alloc (.cells #[.int .i64 64861, .int .i64 (a : Int), .int .i64 (off : Int), .int .u64 (lo : Int), .int .u64 hi, L] 25)).drewN nq) = W at *
 simp only [Exit.then]
 go_at_K
 go_wp2_with fail
 refine region_do (IB w w.heap.size (.cells #[.int .i64 64861, .int .i64 (a : Int), .int .i64 (off : Int), .int .u64 (lo : Int), .int .u64 hi, L] 25 (0, 0))) 30 (by kernel_rfl) (by kernel_rfl) hs.drew ?_
 simp only [zF, zE, zD, zC]
 repeat (first | (refine do_ldi rfl _ rfl _ 0 rfl (.int .i64 64861) (fun u hS => hS.cell 0 rfl) ?_; simp only [Act.put, z5, z6, z7]) | (refine do_ldi rfl _ rfl _ 2 rfl (.int .i64 (off : Int)) (fun u hS => hS.cell 2 rfl) ?_; simp only [Act.put, z5, z6, z7]) | (refine do_ldu rfl _ rfl _ 3 rfl (.int .u64 (lo : Int)) (fun u hS => hS.cell 3 rfl) ?_; simp only [Act.put, z5, z6, z7]) | (refine wpD_pure (v := ?_) rfl (fun u => ?_) ?_; rotate_left; (focus (go_simp; (try with_reducible rfl); done)); simp only [Act.put, z5, z6, z7]) | (refine wpD_pureg (v := ?_) rfl (fun u => ?_) ?_; rotate_left; (focus (go_simp; (try with_reducible rfl); done)); simp only [Act.put, z5, z6, z7]) | (refine wpD_skip rfl ?_; simp only [Act.put, z5, z6, z7]))
 apply wpD_nil
 intro wq hq
 have hI := hq.blk
 have hbq := hq.bel
 clear hq hs
 go_wp2_with fail
 refine region_cv (SS wq b 8 off) (fun v => ∃ A, v = .pointer (some ⟨A, 0, none⟩)) 8 1 7 [0, 2, 3, 4, 5] [6] [] rfl (by kernel_rfl) (by decide) rfl rfl rfl rfl SS.start ?_
 simp only [opsAt, List.getElem?_cons_zero, List.getElem?_cons_succ, List.drop_succ_cons, List.drop_zero]
 repeat (first | (refine wpDA_here rfl (fun D w2 hS => run_ldq _ isAgg_int _ rfl w.heap.size 2 rfl (.int .i64 (off : Int)) (by rw [cell_of_row w2 w.heap.size 2 _ _ _ (hS.get hI)]; rfl)) ?_; simp only [Act.put, z5, z6, z7]) | (refine wpDA_pure (v := ?_) rfl (fun u => ?_) ?_; rotate_left; (focus (go_simp; (try with_reducible rfl); done)); simp only [Act.put, z5, z6, z7]))
 refine wpDA_nil ⟨22, #[.int .i64 (b : Int)], fun u => ?_, fun u hS => ?_, ?_⟩
 ·go_simp
  try with_reducible rfl
 ·refine (at_k b u).mono ?_
  rintro e u2 ⟨rfl, hT, hb2⟩
  exact ⟨_, ⟨_, rfl⟩, ⟨hS.bel.trans (hb2.mono hS.bel.size), fun p hp => ⟨_, (by simpa using hp.symm), hS.bel.size, hT⟩, fun m p hp => by simp at hp⟩, rfl⟩
 rintro v ⟨A, rfl⟩
 simp only [opsAt, List.getElem?_cons_zero, List.getElem?_cons_succ, List.drop_succ_cons, List.drop_zero, Act.put, List.setIfInBounds_toArray, List.set_cons_zero, List.set_cons_succ]
 repeat (refine wpDA_pure (v := ?_) rfl (fun u => ?_) ?_; rotate_left; (focus (go_simp; (try with_reducible rfl); done)); simp only [Act.put, z5, z6, z7])
 refine wpDA_nil ⟨fun u hS => ?_, fun v => ?_⟩
 ·obtain ⟨A1, e, hS2⟩ := hS.box
  injection e with e
  injection e with e
  injection e with e
  subst e
  exact ⟨_, _, hS2, run_boxM _ _ _ _ _ _ (by first | rfl | omega) (by first | rfl | omega) rfl rfl⟩
 refine wpDA_nil fun u hS => ?_
 simp only [Act.put, z5, z6, z7]
 obtain ⟨A1, M, e3, rfl, hA, hM0, hT, hM⟩ := hS.d2 _ _ rfl
 injection e3 with e3
 injection e3 with e3
 injection e3 with e3
 subst e3
 have hbu := Lib.hid (hbq.trans (hS.bel.mono hbq.size))
 have hAw := Nat.le_trans hbq.size hA
 have HI := hS.get hI
 clear hS hI hbq hM0
 have T := hT.start
 have hB := hM.blk
 have HM := Lib.hid hM
 clear hT
 go_wp2_with (first | ((with_reducible refine load_w ?_ 77 isAgg_asm _ rfl _ _ rfl _ _ (T.get hB hM.ne hM.nr) _ rfl ?_); (focus rfl)) | (go_at_call 43; refine Calls.mono (ldop_8 _) ?_; rintro e u2 ⟨rfl, rfl⟩) | (go_at_call 39; (with_reducible refine Calls.mono (TR.stepM T hM fun R2 h m => mat_z M A 8 off b _ 41 0 _ _ (by decide) (by decide) _ R2 _ h m (by (try simp only [zP, zN, zM, zL, zH, regs_len]); omega) (by omega)) ?_); rintro e u2 ⟨rfl, T⟩) | (go_at_call 44; (with_reducible refine Calls.mono (TR.step T fun R2 h => num_z A b _ 0 _ (by decide) _ _ [] R2 _ h (IL.nil _ _ _) (by (try simp only [zP, zN, zM, zL, zH, regs_len]); omega)) ?_); rintro e u2 ⟨rfl, T⟩))
 have T9 := TR.cast (T) ([atc 41 off, numc 0]) 0 (by simp [regs]) (by first | rfl | omega)
 obtain ⟨v, hSQ, c1, c2, c3⟩ := TR.done T9 hbu.out hAw HM.out
 have HSQ := Lib.hid hSQ
 clear hSQ T9 T
 go_quiet (fail)
 simp only [Exit.then]
 go_at_K
 go_wp2_with fail
 go_ret3
 exact ⟨v, rfl, HSQ.out.mono ⟨rfl, rfl, rfl, Nat.le_refl _, fun _ _ => rfl⟩⟩
end Go.Proofs.YtmfmokblmipagaaGreat
