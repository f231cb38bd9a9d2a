/-
  Texts TaV.
-/
import Derived.Test.YtmfmokblmipagaaGreatR26
set_option linter.unusedSimpArgs false
set_option linter.unusedVariables false
set_option maxHeartbeats 8000000
open Pl
namespace Go.Proofs.YtmfmokblmipagaaGreat
open Go.RowKit Pl
set_option maxRecDepth 100000 in
theorem seq_0 (a : Int) (off lo b : Nat) (hi : Int) (L : Value) (w : World) (hb : b ≤ 1000) (h2 : off < 4294967296) :
 Calls Tryz.prog 11 #[inV 64768 a off lo hi L, .int .i64 (b : Int)] w fun e w' => ∃ v, e = .returned (.tuple #[v, .int .i64 1, .int .i64 0]) ∧ SQ w ([setc b, getc b, atc 41 off, getc b, atc 41 (off + 8)]) v w' := by
 have hZ : ∀ W, Calls Tryz.prog 13 #[.int .i64 64768] W fun e w' => e = .returned (.int .i64 16) ∧ w' = W := fun W => vsize_any 64768 W (by decide)
 have HZ := Lib.hid hZ
 clear hZ
 unfold inV
 have e1 : IntKind.i64.wrap 0 = 0 := IntWalk.i64_in _ (by decide)
 have e2 : IntKind.u64.wrap (off : Int) = (off : Int) := by rw [IntKind.wrap_u64]; omega
 have d1 : decide ((b : Int) < 0) = false := decide_eq_false (by omega)
 have d2 : decide ((4032 : Int) < (b : Int)) = false := decide_eq_false (by omega)
 have d3 : decide ((off : Int) < 0) = false := decide_eq_false (by omega)
 have d4 : decide ((4294967296 : Int) ≤ (off : Int)) = false := decide_eq_false (by omega)
 go_enter Tryz.func11, Tryz.ntmps11
 go_wp2_with fail
 go_quiet ((go_at_call 13; exact Calls.quiet_of_same (HZ.out _)))
 have hs : IB w w.heap.size (.cells #[.int .i64 64768, .int .i64 (a : Int), .int .i64 (off : Int), .int .u64 (lo : Int), .int .u64 hi, L] 25 (0, 0)) ((w.alloc (.cells #[.int .i64 64768, .int .i64 (a : Int), .int .i64 (off : Int), .int .u64 (lo : Int), .int .u64 hi, L] 25)).drewN nq) := ⟨((Below.refl _ _).alloc (Nat.le_refl _) _).trans ⟨rfl, rfl, rfl, Nat.le_refl _, fun _ _ => rfl⟩, heap_alloc_new _ _⟩
 generalize ((w.alloc (.cells #[.int .i64 64768, .int .i64 (a : Int), .int .i64 (off : Int), .int .u64 (lo : Int), .int .u64 hi, L] 25)).drewN nq) = W at *
 simp only [Exit.then]
 go_at_K
 go_wp2_with fail
 refine region_do (IB w w.heap.size (.cells #[.int .i64 64768, .int .i64 (a : Int), .int .i64 (off : Int), .int .u64 (lo : Int), .int .u64 hi, L] 25 (0, 0))) 30 (by kernel_rfl) (by kernel_rfl) hs.drew ?_
 simp only [zF, zE, zD, zC]
 repeat (first | (refine do_ldi rfl _ rfl _ 0 rfl (.int .i64 64768) (fun u hS => hS.cell 0 rfl) ?_; simp only [Act.put, z5, z6, z7]) | (refine do_ldi rfl _ rfl _ 2 rfl (.int .i64 (off : Int)) (fun u hS => hS.cell 2 rfl) ?_; simp only [Act.put, z5, z6, z7]) | (refine do_ldu rfl _ rfl _ 3 rfl (.int .u64 (lo : Int)) (fun u hS => hS.cell 3 rfl) ?_; simp only [Act.put, z5, z6, z7]) | (refine wpD_pure (v := ?_) rfl (fun u => ?_) ?_; rotate_left; (focus (go_simp; (try with_reducible rfl); done)); simp only [Act.put, z5, z6, z7]) | (refine wpD_pureg (v := ?_) rfl (fun u => ?_) ?_; rotate_left; (focus (go_simp; (try with_reducible rfl); done)); simp only [Act.put, z5, z6, z7]) | (refine wpD_skip rfl ?_; simp only [Act.put, z5, z6, z7]))
 apply wpD_nil
 intro wq hq
 have hI := hq.blk
 have hbq := hq.bel
 clear hq hs
 go_wp2_with fail
 refine region_cv (SS wq b 16 off) (fun v => ∃ A, v = .pointer (some ⟨A, 0, none⟩)) 8 1 7 [0, 2, 3, 4, 5] [6] [] rfl (by kernel_rfl) (by decide) rfl rfl rfl rfl SS.start ?_
 simp only [opsAt, List.getElem?_cons_zero, List.getElem?_cons_succ, List.drop_succ_cons, List.drop_zero]
 repeat (first | (refine wpDA_here rfl (fun D w2 hS => run_ldq _ isAgg_int _ rfl w.heap.size 2 rfl (.int .i64 (off : Int)) (by rw [cell_of_row w2 w.heap.size 2 _ _ _ (hS.get hI)]; rfl)) ?_; simp only [Act.put, z5, z6, z7]) | (refine wpDA_pure (v := ?_) rfl (fun u => ?_) ?_; rotate_left; (focus (go_simp; (try with_reducible rfl); done)); simp only [Act.put, z5, z6, z7]))
 refine wpDA_nil ⟨22, #[.int .i64 (b : Int)], fun u => ?_, fun u hS => ?_, ?_⟩
 ·go_simp
  try with_reducible rfl
 ·refine (at_k b u).mono ?_
  rintro e u2 ⟨rfl, hT, hb2⟩
  exact ⟨_, ⟨_, rfl⟩, ⟨hS.bel.trans (hb2.mono hS.bel.size), fun p hp => ⟨_, (by simpa using hp.symm), hS.bel.size, hT⟩, fun m p hp => by simp at hp⟩, rfl⟩
 rintro v ⟨A, rfl⟩
 simp only [opsAt, List.getElem?_cons_zero, List.getElem?_cons_succ, List.drop_succ_cons, List.drop_zero, Act.put, List.setIfInBounds_toArray, List.set_cons_zero, List.set_cons_succ]
 repeat (refine wpDA_pure (v := ?_) rfl (fun u => ?_) ?_; rotate_left; (focus (go_simp; (try with_reducible rfl); done)); simp only [Act.put, z5, z6, z7])
 refine wpDA_nil ⟨fun u hS => ?_, fun v => ?_⟩
 ·obtain ⟨A1, e, hS2⟩ := hS.box
  injection e with e
  injection e with e
  injection e with e
  subst e
  exact ⟨_, _, hS2, run_boxM _ _ _ _ _ _ (by first | rfl | omega) (by first | rfl | omega) rfl rfl⟩
 refine wpDA_nil fun u hS => ?_
 simp only [Act.put, z5, z6, z7]
 obtain ⟨A1, M, e3, rfl, hA, hM0, hT, hM⟩ := hS.d2 _ _ rfl
 injection e3 with e3
 injection e3 with e3
 injection e3 with e3
 subst e3
 have hbu := Lib.hid (hbq.trans (hS.bel.mono hbq.size))
 have hAw := Nat.le_trans hbq.size hA
 have HI := hS.get hI
 clear hS hI hbq hM0
 have T := hT.start
 have hB := hM.blk
 have HM := Lib.hid hM
 clear hT
 go_wp2_with (first | ((with_reducible refine load_w ?_ 77 isAgg_asm _ rfl _ _ rfl _ _ (T.get hB hM.ne hM.nr) _ rfl ?_); (focus rfl)) | (go_at_call 29; obtain ⟨R1, hA1, hC1, hF1⟩ := T.ex; have hM1 := hM.to hC1 hF1; refine Calls.mono (save_k A b 0 1 _ R1 _ hA1 (by decide) (by omega) (by (try simp only [zP, zN, zM, zL, zH, regs_len]); omega)) ?_; clear T; rintro e u3 ⟨v, R3, rfl, hA3, hC3, hF3, hI⟩; have hM := hM1.to hC3 hF3; have hC := Chg.trans hC1 hC3 hF1; have hF := Frsh.trans hF1 hF3 hC1.size; clear hC1 hC3 hF1 hF3 hM1 hA1; have T := hA3.start; have hB := hM.blk; obtain ⟨g, c, e, hc⟩ := hI.at T 0 _ (regs_0 _ _); rw [regs_len] at e; subst e; clear hA3) | (go_at_call 38; refine Calls.mono (TR.stepA T fun R2 h => get_k A b _ _ _ [b] R2 _ (h.alloc _) (IL.one h _) (by (try simp only [zP, zN, zM, zL, zH, regs_len]); omega)) ?_; rintro e u2 ⟨rfl, T⟩) | (go_at_call 39; (with_reducible refine Calls.mono (TR.stepM T hM fun R2 h m => mat_z M A 16 off b _ 41 0 _ _ (by decide) (by decide) _ R2 _ h m (by (try simp only [zP, zN, zM, zL, zH, regs_len]); omega) (by omega)) ?_); rintro e u2 ⟨rfl, T⟩) | (go_at_call 39; (with_reducible refine Calls.mono (TR.stepM T hM fun R2 h m => mat_z M A 16 off b _ 41 8 _ _ (by decide) (by decide) _ R2 _ h m (by (try simp only [zP, zN, zM, zL, zH, regs_len]); omega) (by omega)) ?_); rintro e u2 ⟨rfl, T⟩))
 have T9 := TR.cast (TR.trans hC hF T) ([setc b, getc b, atc 41 off, getc b, atc 41 (off + 8)]) 1 (by simp [regs]) (by first | rfl | omega)
 obtain ⟨v, hSQ, c1, c2, c3⟩ := TR.done T9 hbu.out hAw HM.out
 have HSQ := Lib.hid hSQ
 clear hSQ T9 T
 go_quiet (fail)
 simp only [Exit.then]
 go_at_K
 go_wp2_with fail
 go_ret3
 exact ⟨v, rfl, HSQ.out.mono ⟨rfl, rfl, rfl, Nat.le_refl _, fun _ _ => rfl⟩⟩
set_option maxRecDepth 100000 in
theorem seq_1 (a : Int) (off lo b : Nat) (hi : Int) (L : Value) (w : World) (hb : b ≤ 1000) (h2 : off < 4294967296) :
 Calls Tryz.prog 11 #[inV 64769 a off lo hi L, .int .i64 (b : Int)] w fun e w' => ∃ v, e = .returned (.tuple #[v, .int .i64 1, .int .i64 0]) ∧ SQ w (atc 41 off :: setc b :: spreadC b 8 true 8) v w' := by
 have hZ : ∀ W, Calls Tryz.prog 13 #[.int .i64 64769] W fun e w' => e = .returned (.int .i64 8) ∧ w' = W := fun W => vsize_any 64769 W (by decide)
 have HZ := Lib.hid hZ
 clear hZ
 unfold inV
 have e1 : IntKind.i64.wrap 1 = 1 := IntWalk.i64_in _ (by decide)
 have e2 : IntKind.u64.wrap (off : Int) = (off : Int) := by rw [IntKind.wrap_u64]; omega
 have d1 : decide ((b : Int) < 0) = false := decide_eq_false (by omega)
 have d2 : decide ((4032 : Int) < (b : Int)) = false := decide_eq_false (by omega)
 have d3 : decide ((off : Int) < 0) = false := decide_eq_false (by omega)
 have d4 : decide ((4294967296 : Int) ≤ (off : Int)) = false := decide_eq_false (by omega)
 have ew0 : IntKind.i64.wrap 0 = 0 := IntWalk.i64_in _ (by decide)
 have ew8 : IntKind.i64.wrap 8 = 8 := IntWalk.i64_in _ (by decide)
 go_enter Tryz.func11, Tryz.ntmps11
 go_wp2_with fail
 go_quiet ((go_at_call 13; exact Calls.quiet_of_same (HZ.out _)))
 have hs : IB w w.heap.size (.cells #[.int .i64 64769, .int .i64 (a : Int), .int .i64 (off : Int), .int .u64 (lo : Int), .int .u64 hi, L] 25 (0, 0)) ((w.alloc (.cells #[.int .i64 64769, .int .i64 (a : Int), .int .i64 (off : Int), .int .u64 (lo : Int), .int .u64 hi, L] 25)).drewN nq) := ⟨((Below.refl _ _).alloc (Nat.le_refl _) _).trans ⟨rfl, rfl, rfl, Nat.le_refl _, fun _ _ => rfl⟩, heap_alloc_new _ _⟩
 generalize ((w.alloc (.cells #[.int .i64 64769, .int .i64 (a : Int), .int .i64 (off : Int), .int .u64 (lo : Int), .int .u64 hi, L] 25)).drewN nq) = W at *
 simp only [Exit.then]
 go_at_K
 go_wp2_with fail
 refine region_do (IB w w.heap.size (.cells #[.int .i64 64769, .int .i64 (a : Int), .int .i64 (off : Int), .int .u64 (lo : Int), .int .u64 hi, L] 25 (0, 0))) 30 (by kernel_rfl) (by kernel_rfl) hs.drew ?_
 simp only [zF, zE, zD, zC]
 repeat (first | (refine do_ldi rfl _ rfl _ 0 rfl (.int .i64 64769) (fun u hS => hS.cell 0 rfl) ?_; simp only [Act.put, z5, z6, z7]) | (refine do_ldi rfl _ rfl _ 2 rfl (.int .i64 (off : Int)) (fun u hS => hS.cell 2 rfl) ?_; simp only [Act.put, z5, z6, z7]) | (refine do_ldu rfl _ rfl _ 3 rfl (.int .u64 (lo : Int)) (fun u hS => hS.cell 3 rfl) ?_; simp only [Act.put, z5, z6, z7]) | (refine wpD_pure (v := ?_) rfl (fun u => ?_) ?_; rotate_left; (focus (go_simp; (try with_reducible rfl); done)); simp only [Act.put, z5, z6, z7]) | (refine wpD_pureg (v := ?_) rfl (fun u => ?_) ?_; rotate_left; (focus (go_simp; (try with_reducible rfl); done)); simp only [Act.put, z5, z6, z7]) | (refine wpD_skip rfl ?_; simp only [Act.put, z5, z6, z7]))
 apply wpD_nil
 intro wq hq
 have hI := hq.blk
 have hbq := hq.bel
 clear hq hs
 go_wp2_with fail
 refine region_cv (SS wq b 8 off) (fun v => ∃ A, v = .pointer (some ⟨A, 0, none⟩)) 8 1 7 [0, 2, 3, 4, 5] [6] [] rfl (by kernel_rfl) (by decide) rfl rfl rfl rfl SS.start ?_
 simp only [opsAt, List.getElem?_cons_zero, List.getElem?_cons_succ, List.drop_succ_cons, List.drop_zero]
 repeat (first | (refine wpDA_here rfl (fun D w2 hS => run_ldq _ isAgg_int _ rfl w.heap.size 2 rfl (.int .i64 (off : Int)) (by rw [cell_of_row w2 w.heap.size 2 _ _ _ (hS.get hI)]; rfl)) ?_; simp only [Act.put, z5, z6, z7]) | (refine wpDA_pure (v := ?_) rfl (fun u => ?_) ?_; rotate_left; (focus (go_simp; (try with_reducible rfl); done)); simp only [Act.put, z5, z6, z7]))
 refine wpDA_nil ⟨22, #[.int .i64 (b : Int)], fun u => ?_, fun u hS => ?_, ?_⟩
 ·go_simp
  try with_reducible rfl
 ·refine (at_k b u).mono ?_
  rintro e u2 ⟨rfl, hT, hb2⟩
  exact ⟨_, ⟨_, rfl⟩, ⟨hS.bel.trans (hb2.mono hS.bel.size), fun p hp => ⟨_, (by simpa using hp.symm), hS.bel.size, hT⟩, fun m p hp => by simp at hp⟩, rfl⟩
 rintro v ⟨A, rfl⟩
 simp only [opsAt, List.getElem?_cons_zero, List.getElem?_cons_succ, List.drop_succ_cons, List.drop_zero, Act.put, List.setIfInBounds_toArray, List.set_cons_zero, List.set_cons_succ]
 repeat (refine wpDA_pure (v := ?_) rfl (fun u => ?_) ?_; rotate_left; (focus (go_simp; (try with_reducible rfl); done)); simp only [Act.put, z5, z6, z7])
 refine wpDA_nil ⟨fun u hS => ?_, fun v => ?_⟩
 ·obtain ⟨A1, e, hS2⟩ := hS.box
  injection e with e
  injection e with e
  injection e with e
  subst e
  exact ⟨_, _, hS2, run_boxM _ _ _ _ _ _ (by first | rfl | omega) (by first | rfl | omega) rfl rfl⟩
 refine wpDA_nil fun u hS => ?_
 simp only [Act.put, z5, z6, z7]
 obtain ⟨A1, M, e3, rfl, hA, hM0, hT, hM⟩ := hS.d2 _ _ rfl
 injection e3 with e3
 injection e3 with e3
 injection e3 with e3
 subst e3
 have hbu := Lib.hid (hbq.trans (hS.bel.mono hbq.size))
 have hAw := Nat.le_trans hbq.size hA
 have HI := hS.get hI
 clear hS hI hbq hM0
 have T := hT.start
 have hB := hM.blk
 have HM := Lib.hid hM
 clear hT
 go_wp2_with (first | ((with_reducible refine load_w ?_ 77 isAgg_asm _ rfl _ _ rfl _ _ (T.get hB hM.ne hM.nr) _ rfl ?_); (focus rfl)) | (go_at_call 40; (with_reducible refine Calls.mono (TR.stepM T hM fun R2 h m => spread_8 M A 8 off b 0 true _ R2 _ h m (by decide) h2 (by omega)) ?_); rintro e u2 ⟨rfl, T⟩))
 have T9 := TR.cast (T) (atc 41 off :: setc b :: spreadC b 8 true 8) 1 (by simp [regs]) (by first | rfl | omega)
 obtain ⟨v, hSQ, c1, c2, c3⟩ := TR.done T9 hbu.out hAw HM.out
 have HSQ := Lib.hid hSQ
 clear hSQ T9 T
 go_quiet (fail)
 simp only [Exit.then]
 go_at_K
 go_wp2_with fail
 go_ret3
 exact ⟨v, rfl, HSQ.out.mono ⟨rfl, rfl, rfl, Nat.le_refl _, fun _ _ => rfl⟩⟩
set_option maxRecDepth 100000 in
theorem seq_2 (a : Int) (off lo b : Nat) (hi : Int) (L : Value) (w : World) (hb : b ≤ 1000) (h2 : off < 4294967296) :
 Calls Tryz.prog 11 #[inV 64770 a off lo hi L, .int .i64 (b : Int)] w fun e w' => ∃ v, e = .returned (.tuple #[v, .int .i64 1, .int .i64 0]) ∧ SQ w (atc 41 off :: setc b :: spreadC b 8 false 8) v w' := by
 have hZ : ∀ W, Calls Tryz.prog 13 #[.int .i64 64770] W fun e w' => e = .returned (.int .i64 8) ∧ w' = W := fun W => vsize_any 64770 W (by decide)
 have HZ := Lib.hid hZ
 clear hZ
 unfold inV
 have e1 : IntKind.i64.wrap 2 = 2 := IntWalk.i64_in _ (by decide)
 have e2 : IntKind.u64.wrap (off : Int) = (off : Int) := by rw [IntKind.wrap_u64]; omega
 have d1 : decide ((b : Int) < 0) = false := decide_eq_false (by omega)
 have d2 : decide ((4032 : Int) < (b : Int)) = false := decide_eq_false (by omega)
 have d3 : decide ((off : Int) < 0) = false := decide_eq_false (by omega)
 have d4 : decide ((4294967296 : Int) ≤ (off : Int)) = false := decide_eq_false (by omega)
 have ew0 : IntKind.i64.wrap 0 = 0 := IntWalk.i64_in _ (by decide)
 have ew1 : IntKind.i64.wrap 1 = 1 := IntWalk.i64_in _ (by decide)
 have ew8 : IntKind.i64.wrap 8 = 8 := IntWalk.i64_in _ (by decide)
 go_enter Tryz.func11, Tryz.ntmps11
 go_wp2_with fail
 go_quiet ((go_at_call 13; exact Calls.quiet_of_same (HZ.out _)))
 have hs : IB w w.heap.size (.cells #[.int .i64 64770, .int .i64 (a : Int), .int .i64 (off : Int), .int .u64 (lo : Int), .int .u64 hi, L] 25 (0, 0)) ((w.alloc (.cells #[.int .i64 64770, .int .i64 (a : Int), .int .i64 (off : Int), .int .u64 (lo : Int), .int .u64 hi, L] 25)).drewN nq) := ⟨((Below.refl _ _).alloc (Nat.le_refl _) _).trans ⟨rfl, rfl, rfl, Nat.le_refl _, fun _ _ => rfl⟩, heap_alloc_new _ _⟩
 generalize ((w.alloc (.cells #[.int .i64 64770, .int .i64 (a : Int), .int .i64 (off : Int), .int .u64 (lo : Int), .int .u64 hi, L] 25)).drewN nq) = W at *
 simp only [Exit.then]
 go_at_K
 go_wp2_with fail
 refine region_do (IB w w.heap.size (.cells #[.int .i64 64770, .int .i64 (a : Int), .int .i64 (off : Int), .int .u64 (lo : Int), .int .u64 hi, L] 25 (0, 0))) 30 (by kernel_rfl) (by kernel_rfl) hs.drew ?_
 simp only [zF, zE, zD, zC]
 repeat (first | (refine do_ldi rfl _ rfl _ 0 rfl (.int .i64 64770) (fun u hS => hS.cell 0 rfl) ?_; simp only [Act.put, z5, z6, z7]) | (refine do_ldi rfl _ rfl _ 2 rfl (.int .i64 (off : Int)) (fun u hS => hS.cell 2 rfl) ?_; simp only [Act.put, z5, z6, z7]) | (refine do_ldu rfl _ rfl _ 3 rfl (.int .u64 (lo : Int)) (fun u hS => hS.cell 3 rfl) ?_; simp only [Act.put, z5, z6, z7]) | (refine wpD_pure (v := ?_) rfl (fun u => ?_) ?_; rotate_left; (focus (go_simp; (try with_reducible rfl); done)); simp only [Act.put, z5, z6, z7]) | (refine wpD_pureg (v := ?_) rfl (fun u => ?_) ?_; rotate_left; (focus (go_simp; (try with_reducible rfl); done)); simp only [Act.put, z5, z6, z7]) | (refine wpD_skip rfl ?_; simp only [Act.put, z5, z6, z7]))
 apply wpD_nil
 intro wq hq
 have hI := hq.blk
 have hbq := hq.bel
 clear hq hs
 go_wp2_with fail
 refine region_cv (SS wq b 8 off) (fun v => ∃ A, v = .pointer (some ⟨A, 0, none⟩)) 8 1 7 [0, 2, 3, 4, 5] [6] [] rfl (by kernel_rfl) (by decide) rfl rfl rfl rfl SS.start ?_
 simp only [opsAt, List.getElem?_cons_zero, List.getElem?_cons_succ, List.drop_succ_cons, List.drop_zero]
 repeat (first | (refine wpDA_here rfl (fun D w2 hS => run_ldq _ isAgg_int _ rfl w.heap.size 2 rfl (.int .i64 (off : Int)) (by rw [cell_of_row w2 w.heap.size 2 _ _ _ (hS.get hI)]; rfl)) ?_; simp only [Act.put, z5, z6, z7]) | (refine wpDA_pure (v := ?_) rfl (fun u => ?_) ?_; rotate_left; (focus (go_simp; (try with_reducible rfl); done)); simp only [Act.put, z5, z6, z7]))
 refine wpDA_nil ⟨22, #[.int .i64 (b : Int)], fun u => ?_, fun u hS => ?_, ?_⟩
 ·go_simp
  try with_reducible rfl
 ·refine (at_k b u).mono ?_
  rintro e u2 ⟨rfl, hT, hb2⟩
  exact ⟨_, ⟨_, rfl⟩, ⟨hS.bel.trans (hb2.mono hS.bel.size), fun p hp => ⟨_, (by simpa using hp.symm), hS.bel.size, hT⟩, fun m p hp => by simp at hp⟩, rfl⟩
 rintro v ⟨A, rfl⟩
 simp only [opsAt, List.getElem?_cons_zero, List.getElem?_cons_succ, List.drop_succ_cons, List.drop_zero, Act.put, List.setIfInBounds_toArray, List.set_cons_zero, List.set_cons_succ]
 repeat (refine wpDA_pure (v := ?_) rfl (fun u => ?_) ?_; rotate_left; (focus (go_simp; (try with_reducible rfl); done)); simp only [Act.put, z5, z6, z7])
 refine wpDA_nil ⟨fun u hS => ?_, fun v => ?_⟩
 ·obtain ⟨A1, e, hS2⟩ := hS.box
  injection e with e
  injection e with e
  injection e with e
  subst e
  exact ⟨_, _, hS2, run_boxM _ _ _ _ _ _ (by first | rfl | omega) (by first | rfl | omega) rfl rfl⟩
 refine wpDA_nil fun u hS => ?_
 simp only [Act.put, z5, z6, z7]
 obtain ⟨A1, M, e3, rfl, hA, hM0, hT, hM⟩ := hS.d2 _ _ rfl
 injection e3 with e3
 injection e3 with e3
 injection e3 with e3
 subst e3
 have hbu := Lib.hid (hbq.trans (hS.bel.mono hbq.size))
 have hAw := Nat.le_trans hbq.size hA
 have HI := hS.get hI
 clear hS hI hbq hM0
 have T := hT.start
 have hB := hM.blk
 have HM := Lib.hid hM
 clear hT
 go_wp2_with (first | ((with_reducible refine load_w ?_ 77 isAgg_asm _ rfl _ _ rfl _ _ (T.get hB hM.ne hM.nr) _ rfl ?_); (focus rfl)) | (go_at_call 40; (with_reducible refine Calls.mono (TR.stepM T hM fun R2 h m => spread_8 M A 8 off b 0 false _ R2 _ h m (by decide) h2 (by omega)) ?_); rintro e u2 ⟨rfl, T⟩))
 have T9 := TR.cast (T) (atc 41 off :: setc b :: spreadC b 8 false 8) 1 (by simp [regs]) (by first | rfl | omega)
 obtain ⟨v, hSQ, c1, c2, c3⟩ := TR.done T9 hbu.out hAw HM.out
 have HSQ := Lib.hid hSQ
 clear hSQ T9 T
 go_quiet (fail)
 simp only [Exit.then]
 go_at_K
 go_wp2_with fail
 go_ret3
 exact ⟨v, rfl, HSQ.out.mono ⟨rfl, rfl, rfl, Nat.le_refl _, fun _ _ => rfl⟩⟩
set_option maxRecDepth 100000 in
theorem seq_3 (a : Int) (off lo b : Nat) (hi : Int) (L : Value) (w : World) (hb : b ≤ 1000) (h2 : off < 4294967296) :
 Calls Tryz.prog 11 #[inV 64771 a off lo hi L, .int .i64 (b : Int)] w fun e w' => ∃ v, e = .returned (.tuple #[v, .int .i64 1, .int .i64 0]) ∧ SQ w (atc 41 off :: setc b :: spreadC b 16 true 4) v w' := by
 have hZ : ∀ W, Calls Tryz.prog 13 #[.int .i64 64771] W fun e w' => e = .returned (.int .i64 8) ∧ w' = W := fun W => vsize_any 64771 W (by decide)
 have HZ := Lib.hid hZ
 clear hZ
 unfold inV
 have e1 : IntKind.i64.wrap 3 = 3 := IntWalk.i64_in _ (by decide)
 have e2 : IntKind.u64.wrap (off : Int) = (off : Int) := by rw [IntKind.wrap_u64]; omega
 have d1 : decide ((b : Int) < 0) = false := decide_eq_false (by omega)
 have d2 : decide ((4032 : Int) < (b : Int)) = false := decide_eq_false (by omega)
 have d3 : decide ((off : Int) < 0) = false := decide_eq_false (by omega)
 have d4 : decide ((4294967296 : Int) ≤ (off : Int)) = false := decide_eq_false (by omega)
 have ew1 : IntKind.i64.wrap 1 = 1 := IntWalk.i64_in _ (by decide)
 have ew2 : IntKind.i64.wrap 2 = 2 := IntWalk.i64_in _ (by decide)
 have ew16 : IntKind.i64.wrap 16 = 16 := IntWalk.i64_in _ (by decide)
 go_enter Tryz.func11, Tryz.ntmps11
 go_wp2_with fail
 go_quiet ((go_at_call 13; exact Calls.quiet_of_same (HZ.out _)))
 have hs : IB w w.heap.size (.cells #[.int .i64 64771, .int .i64 (a : Int), .int .i64 (off : Int), .int .u64 (lo : Int), .int .u64 hi, L] 25 (0, 0)) ((w.alloc (.cells #[.int .i64 64771, .int .i64 (a : Int), .int .i64 (off : Int), .int .u64 (lo : Int), .int .u64 hi, L] 25)).drewN nq) := ⟨((Below.refl _ _).alloc (Nat.le_refl _) _).trans ⟨rfl, rfl, rfl, Nat.le_refl _, fun _ _ => rfl⟩, heap_alloc_new _ _⟩
 generalize ((w.alloc (.cells #[.int .i64 64771, .int .i64 (a : Int), .int .i64 (off : Int), .int .u64 (lo : Int), .int .u64 hi, L] 25)).drewN nq) = W at *
 simp only [Exit.then]
 go_at_K
 go_wp2_with fail
 refine region_do (IB w w.heap.size (.cells #[.int .i64 64771, .int .i64 (a : Int), .int .i64 (off : Int), .int .u64 (lo : Int), .int .u64 hi, L] 25 (0, 0))) 30 (by kernel_rfl) (by kernel_rfl) hs.drew ?_
 simp only [zF, zE, zD, zC]
 repeat (first | (refine do_ldi rfl _ rfl _ 0 rfl (.int .i64 64771) (fun u hS => hS.cell 0 rfl) ?_; simp only [Act.put, z5, z6, z7]) | (refine do_ldi rfl _ rfl _ 2 rfl (.int .i64 (off : Int)) (fun u hS => hS.cell 2 rfl) ?_; simp only [Act.put, z5, z6, z7]) | (refine do_ldu rfl _ rfl _ 3 rfl (.int .u64 (lo : Int)) (fun u hS => hS.cell 3 rfl) ?_; simp only [Act.put, z5, z6, z7]) | (refine wpD_pure (v := ?_) rfl (fun u => ?_) ?_; rotate_left; (focus (go_simp; (try with_reducible rfl); done)); simp only [Act.put, z5, z6, z7]) | (refine wpD_pureg (v := ?_) rfl (fun u => ?_) ?_; rotate_left; (focus (go_simp; (try with_reducible rfl); done)); simp only [Act.put, z5, z6, z7]) | (refine wpD_skip rfl ?_; simp only [Act.put, z5, z6, z7]))
 apply wpD_nil
 intro wq hq
 have hI := hq.blk
 have hbq := hq.bel
 clear hq hs
 go_wp2_with fail
 refine region_cv (SS wq b 8 off) (fun v => ∃ A, v = .pointer (some ⟨A, 0, none⟩)) 8 1 7 [0, 2, 3, 4, 5] [6] [] rfl (by kernel_rfl) (by decide) rfl rfl rfl rfl SS.start ?_
 simp only [opsAt, List.getElem?_cons_zero, List.getElem?_cons_succ, List.drop_succ_cons, List.drop_zero]
 repeat (first | (refine wpDA_here rfl (fun D w2 hS => run_ldq _ isAgg_int _ rfl w.heap.size 2 rfl (.int .i64 (off : Int)) (by rw [cell_of_row w2 w.heap.size 2 _ _ _ (hS.get hI)]; rfl)) ?_; simp only [Act.put, z5, z6, z7]) | (refine wpDA_pure (v := ?_) rfl (fun u => ?_) ?_; rotate_left; (focus (go_simp; (try with_reducible rfl); done)); simp only [Act.put, z5, z6, z7]))
 refine wpDA_nil ⟨22, #[.int .i64 (b : Int)], fun u => ?_, fun u hS => ?_, ?_⟩
 ·go_simp
  try with_reducible rfl
 ·refine (at_k b u).mono ?_
  rintro e u2 ⟨rfl, hT, hb2⟩
  exact ⟨_, ⟨_, rfl⟩, ⟨hS.bel.trans (hb2.mono hS.bel.size), fun p hp => ⟨_, (by simpa using hp.symm), hS.bel.size, hT⟩, fun m p hp => by simp at hp⟩, rfl⟩
 rintro v ⟨A, rfl⟩
 simp only [opsAt, List.getElem?_cons_zero, List.getElem?_cons_succ, List.drop_succ_cons, List.drop_zero, Act.put, List.setIfInBounds_toArray, List.set_cons_zero, List.set_cons_succ]
 repeat (refine wpDA_pure (v := ?_) rfl (fun u => ?_) ?_; rotate_left; (focus (go_simp; (try with_reducible rfl); done)); simp only [Act.put, z5, z6, z7])
 refine wpDA_nil ⟨fun u hS => ?_, fun v => ?_⟩
 ·obtain ⟨A1, e, hS2⟩ := hS.box
  injection e with e
  injection e with e
  injection e with e
  subst e
  exact ⟨_, _, hS2, run_boxM _ _ _ _ _ _ (by first | rfl | omega) (by first | rfl | omega) rfl rfl⟩
 refine wpDA_nil fun u hS => ?_
 simp only [Act.put, z5, z6, z7]
 obtain ⟨A1, M, e3, rfl, hA, hM0, hT, hM⟩ := hS.d2 _ _ rfl
 injection e3 with e3
 injection e3 with e3
 injection e3 with e3
 subst e3
 have hbu := Lib.hid (hbq.trans (hS.bel.mono hbq.size))
 have hAw := Nat.le_trans hbq.size hA
 have HI := hS.get hI
 clear hS hI hbq hM0
 have T := hT.start
 have hB := hM.blk
 have HM := Lib.hid hM
 clear hT
 go_wp2_with (first | ((with_reducible refine load_w ?_ 77 isAgg_asm _ rfl _ _ rfl _ _ (T.get hB hM.ne hM.nr) _ rfl ?_); (focus rfl)) | (go_at_call 40; (with_reducible refine Calls.mono (TR.stepM T hM fun R2 h m => spread_16 M A 8 off b 0 true _ R2 _ h m (by decide) h2 (by omega)) ?_); rintro e u2 ⟨rfl, T⟩))
 have T9 := TR.cast (T) (atc 41 off :: setc b :: spreadC b 16 true 4) 1 (by simp [regs]) (by first | rfl | omega)
 obtain ⟨v, hSQ, c1, c2, c3⟩ := TR.done T9 hbu.out hAw HM.out
 have HSQ := Lib.hid hSQ
 clear hSQ T9 T
 go_quiet (fail)
 simp only [Exit.then]
 go_at_K
 go_wp2_with fail
 go_ret3
 exact ⟨v, rfl, HSQ.out.mono ⟨rfl, rfl, rfl, Nat.le_refl _, fun _ _ => rfl⟩⟩
set_option maxRecDepth 100000 in
theorem seq_4 (a : Int) (off lo b : Nat) (hi : Int) (L : Value) (w : World) (hb : b ≤ 1000) (h2 : off < 4294967296) :
 Calls Tryz.prog 11 #[inV 64772 a off lo hi L, .int .i64 (b : Int)] w fun e w' => ∃ v, e = .returned (.tuple #[v, .int .i64 1, .int .i64 0]) ∧ SQ w (atc 41 off :: setc b :: spreadC b 16 false 4) v w' := by
 have hZ : ∀ W, Calls Tryz.prog 13 #[.int .i64 64772] W fun e w' => e = .returned (.int .i64 8) ∧ w' = W := fun W => vsize_any 64772 W (by decide)
 have HZ := Lib.hid hZ
 clear hZ
 unfold inV
 have e1 : IntKind.i64.wrap 4 = 4 := IntWalk.i64_in _ (by decide)
 have e2 : IntKind.u64.wrap (off : Int) = (off : Int) := by rw [IntKind.wrap_u64]; omega
 have d1 : decide ((b : Int) < 0) = false := decide_eq_false (by omega)
 have d2 : decide ((4032 : Int) < (b : Int)) = false := decide_eq_false (by omega)
 have d3 : decide ((off : Int) < 0) = false := decide_eq_false (by omega)
 have d4 : decide ((4294967296 : Int) ≤ (off : Int)) = false := decide_eq_false (by omega)
 have ew0 : IntKind.i64.wrap 0 = 0 := IntWalk.i64_in _ (by decide)
 have ew1 : IntKind.i64.wrap 1 = 1 := IntWalk.i64_in _ (by decide)
 have ew3 : IntKind.i64.wrap 3 = 3 := IntWalk.i64_in _ (by decide)
 have ew16 : IntKind.i64.wrap 16 = 16 := IntWalk.i64_in _ (by decide)
 go_enter Tryz.func11, Tryz.ntmps11
 go_wp2_with fail
 go_quiet ((go_at_call 13; exact Calls.quiet_of_same (HZ.out _)))
 have hs : IB w w.heap.size (.cells #[.int .i64 64772, .int .i64 (a : Int), .int .i64 (off : Int), .int .u64 (lo : Int), .int .u64 hi, L] 25 (0, 0)) ((w.alloc (.cells #[.int .i64 64772, .int .i64 (a : Int), .int .i64 (off : Int), .int .u64 (lo : Int), .int .u64 hi, L] 25)).drewN nq) := ⟨((Below.refl _ _).alloc (Nat.le_refl _) _).trans ⟨rfl, rfl, rfl, Nat.le_refl _, fun _ _ => rfl⟩, heap_alloc_new _ _⟩
 generalize ((w.alloc (.cells #[.int .i64 64772, .int .i64 (a : Int), .int .i64 (off : Int), .int .u64 (lo : Int), .int .u64 hi, L] 25)).drewN nq) = W at *
 simp only [Exit.then]
 go_at_K
 go_wp2_with fail
 refine region_do (IB w w.heap.size (.cells #[.int .i64 64772, .int .i64 (a : Int), .int .i64 (off : Int), .int .u64 (lo : Int), .int .u64 hi, L] 25 (0, 0))) 30 (by kernel_rfl) (by kernel_rfl) hs.drew ?_
 simp only [zF, zE, zD, zC]
 repeat (first | (refine do_ldi rfl _ rfl _ 0 rfl (.int .i64 64772) (fun u hS => hS.cell 0 rfl) ?_; simp only [Act.put, z5, z6, z7]) | (refine do_ldi rfl _ rfl _ 2 rfl (.int .i64 (off : Int)) (fun u hS => hS.cell 2 rfl) ?_; simp only [Act.put, z5, z6, z7]) | (refine do_ldu rfl _ rfl _ 3 rfl (.int .u64 (lo : Int)) (fun u hS => hS.cell 3 rfl) ?_; simp only [Act.put, z5, z6, z7]) | (refine wpD_pure (v := ?_) rfl (fun u => ?_) ?_; rotate_left; (focus (go_simp; (try with_reducible rfl); done)); simp only [Act.put, z5, z6, z7]) | (refine wpD_pureg (v := ?_) rfl (fun u => ?_) ?_; rotate_left; (focus (go_simp; (try with_reducible rfl); done)); simp only [Act.put, z5, z6, z7]) | (refine wpD_skip rfl ?_; simp only [Act.put, z5, z6, z7]))
 apply wpD_nil
 intro wq hq
 have hI := hq.blk
 have hbq := hq.bel
 clear hq hs
 go_wp2_with fail
 refine region_cv (SS wq b 8 off) (fun v => ∃ A, v = .pointer (some ⟨A, 0, none⟩)) 8 1 7 [0, 2, 3, 4, 5] [6] [] rfl (by kernel_rfl) (by decide) rfl rfl rfl rfl SS.start ?_
 simp only [opsAt, List.getElem?_cons_zero, List.getElem?_cons_succ, List.drop_succ_cons, List.drop_zero]
 repeat (first | (refine wpDA_here rfl (fun D w2 hS => run_ldq _ isAgg_int _ rfl w.heap.size 2 rfl (.int .i64 (off : Int)) (by rw [cell_of_row w2 w.heap.size 2 _ _ _ (hS.get hI)]; rfl)) ?_; simp only [Act.put, z5, z6, z7]) | (refine wpDA_pure (v := ?_) rfl (fun u => ?_) ?_; rotate_left; (focus (go_simp; (try with_reducible rfl); done)); simp only [Act.put, z5, z6, z7]))
 refine wpDA_nil ⟨22, #[.int .i64 (b : Int)], fun u => ?_, fun u hS => ?_, ?_⟩
 ·go_simp
  try with_reducible rfl
 ·refine (at_k b u).mono ?_
  rintro e u2 ⟨rfl, hT, hb2⟩
  exact ⟨_, ⟨_, rfl⟩, ⟨hS.bel.trans (hb2.mono hS.bel.size), fun p hp => ⟨_, (by simpa using hp.symm), hS.bel.size, hT⟩, fun m p hp => by simp at hp⟩, rfl⟩
 rintro v ⟨A, rfl⟩
 simp only [opsAt, List.getElem?_cons_zero, List.getElem?_cons_succ, List.drop_succ_cons, List.drop_zero, Act.put, List.setIfInBounds_toArray, List.set_cons_zero, List.set_cons_succ]
 repeat (refine wpDA_pure (v := ?_) rfl (fun u => ?_) ?_; rotate_left; (focus (go_simp; (try with_reducible rfl); done)); simp only [Act.put, z5, z6, z7])
 refine wpDA_nil ⟨fun u hS => ?_, fun v => ?_⟩
 ·obtain ⟨A1, e, hS2⟩ := hS.box
  injection e with e
  injection e with e
  injection e with e
  subst e
  exact ⟨_, _, hS2, run_boxM _ _ _ _ _ _ (by first | rfl | omega) (by first | rfl | omega) rfl rfl⟩
 refine wpDA_nil fun u hS => ?_
 simp only [Act.put, z5, z6, z7]
 obtain ⟨A1, M, e3, rfl, hA, hM0, hT, hM⟩ := hS.d2 _ _ rfl
 injection e3 with e3
 injection e3 with e3
 injection e3 with e3
 subst e3
 have hbu := Lib.hid (hbq.trans (hS.bel.mono hbq.size))
 have hAw := Nat.le_trans hbq.size hA
 have HI := hS.get hI
 clear hS hI hbq hM0
 have T := hT.start
 have hB := hM.blk
 have HM := Lib.hid hM
 clear hT
 go_wp2_with (first | ((with_reducible refine load_w ?_ 77 isAgg_asm _ rfl _ _ rfl _ _ (T.get hB hM.ne hM.nr) _ rfl ?_); (focus rfl)) | (go_at_call 40; (with_reducible refine Calls.mono (TR.stepM T hM fun R2 h m => spread_16 M A 8 off b 0 false _ R2 _ h m (by decide) h2 (by omega)) ?_); rintro e u2 ⟨rfl, T⟩))
 have T9 := TR.cast (T) (atc 41 off :: setc b :: spreadC b 16 false 4) 1 (by simp [regs]) (by first | rfl | omega)
 obtain ⟨v, hSQ, c1, c2, c3⟩ := TR.done T9 hbu.out hAw HM.out
 have HSQ := Lib.hid hSQ
 clear hSQ T9 T
 go_quiet (fail)
 simp only [Exit.then]
 go_at_K
 go_wp2_with fail
 go_ret3
 exact ⟨v, rfl, HSQ.out.mono ⟨rfl, rfl, rfl, Nat.le_refl _, fun _ _ => rfl⟩⟩
set_option maxRecDepth 100000 in
theorem seq_5 (a : Int) (off lo b : Nat) (hi : Int) (L : Value) (w : World) (hb : b ≤ 1000) (h2 : off < 4294967296) :
 Calls Tryz.prog 11 #[inV 64773 a off lo hi L, .int .i64 (b : Int)] w fun e w' => ∃ v, e = .returned (.tuple #[v, .int .i64 1, .int .i64 0]) ∧ SQ w (atc 41 off :: setc b :: spreadC b 32 true 2) v w' := by
 have hZ : ∀ W, Calls Tryz.prog 13 #[.int .i64 64773] W fun e w' => e = .returned (.int .i64 8) ∧ w' = W := fun W => vsize_any 64773 W (by decide)
 have HZ := Lib.hid hZ
 clear hZ
 unfold inV
 have e1 : IntKind.i64.wrap 5 = 5 := IntWalk.i64_in _ (by decide)
 have e2 : IntKind.u64.wrap (off : Int) = (off : Int) := by rw [IntKind.wrap_u64]; omega
 have d1 : decide ((b : Int) < 0) = false := decide_eq_false (by omega)
 have d2 : decide ((4032 : Int) < (b : Int)) = false := decide_eq_false (by omega)
 have d3 : decide ((off : Int) < 0) = false := decide_eq_false (by omega)
 have d4 : decide ((4294967296 : Int) ≤ (off : Int)) = false := decide_eq_false (by omega)
 have ew1 : IntKind.i64.wrap 1 = 1 := IntWalk.i64_in _ (by decide)
 have ew2 : IntKind.i64.wrap 2 = 2 := IntWalk.i64_in _ (by decide)
 have ew4 : IntKind.i64.wrap 4 = 4 := IntWalk.i64_in _ (by decide)
 have ew32 : IntKind.i64.wrap 32 = 32 := IntWalk.i64_in _ (by decide)
 go_enter Tryz.func11, Tryz.ntmps11
 go_wp2_with fail
 go_quiet ((go_at_call 13; exact Calls.quiet_of_same (HZ.out _)))
 have hs : IB w w.heap.size (.cells #[.int .i64 64773, .int .i64 (a : Int), .int .i64 (off : Int), .int .u64 (lo : Int), .int .u64 hi, L] 25 (0, 0)) ((w.alloc (.cells #[.int .i64 64773, .int .i64 (a : Int), .int .i64 (off : Int), .int .u64 (lo : Int), .int .u64 hi, L] 25)).drewN nq) := ⟨((Below.refl _ _).alloc (Nat.le_refl _) _).trans ⟨rfl, rfl, rfl, Nat.le_refl _, fun _ _ => rfl⟩, heap_alloc_new _ _⟩
 generalize ((w.alloc (.cells #[.int .i64 64773, .int .i64 (a : Int), .int .i64 (off : Int), .int .u64 (lo : Int), .int .u64 hi, L] 25)).drewN nq) = W at *
 simp only [Exit.then]
 go_at_K
 go_wp2_with fail
 refine region_do (IB w w.heap.size (.cells #[.int .i64 64773, .int .i64 (a : Int), .int .i64 (off : Int), .int .u64 (lo : Int), .int .u64 hi, L] 25 (0, 0))) 30 (by kernel_rfl) (by kernel_rfl) hs.drew ?_
 simp only [zF, zE, zD, zC]
 repeat (first | (refine do_ldi rfl _ rfl _ 0 rfl (.int .i64 64773) (fun u hS => hS.cell 0 rfl) ?_; simp only [Act.put, z5, z6, z7]) | (refine do_ldi rfl _ rfl _ 2 rfl (.int .i64 (off : Int)) (fun u hS => hS.cell 2 rfl) ?_; simp only [Act.put, z5, z6, z7]) | (refine do_ldu rfl _ rfl _ 3 rfl (.int .u64 (lo : Int)) (fun u hS => hS.cell 3 rfl) ?_; simp only [Act.put, z5, z6, z7]) | (refine wpD_pure (v := ?_) rfl (fun u => ?_) ?_; rotate_left; (focus (go_simp; (try with_reducible rfl); done)); simp only [Act.put, z5, z6, z7]) | (refine wpD_pureg (v := ?_) rfl (fun u => ?_) ?_; rotate_left; (focus (go_simp; (try with_reducible rfl); done)); simp only [Act.put, z5, z6, z7]) | (refine wpD_skip rfl ?_; simp only [Act.put, z5, z6, z7]))
 apply wpD_nil
 intro wq hq
 have hI := hq.blk
 have hbq := hq.bel
 clear hq hs
 go_wp2_with fail
 refine region_cv (SS wq b 8 off) (fun v => ∃ A, v = .pointer (some ⟨A, 0, none⟩)) 8 1 7 [0, 2, 3, 4, 5] [6] [] rfl (by kernel_rfl) (by decide) rfl rfl rfl rfl SS.start ?_
 simp only [opsAt, List.getElem?_cons_zero, List.getElem?_cons_succ, List.drop_succ_cons, List.drop_zero]
 repeat (first | (refine wpDA_here rfl (fun D w2 hS => run_ldq _ isAgg_int _ rfl w.heap.size 2 rfl (.int .i64 (off : Int)) (by rw [cell_of_row w2 w.heap.size 2 _ _ _ (hS.get hI)]; rfl)) ?_; simp only [Act.put, z5, z6, z7]) | (refine wpDA_pure (v := ?_) rfl (fun u => ?_) ?_; rotate_left; (focus (go_simp; (try with_reducible rfl); done)); simp only [Act.put, z5, z6, z7]))
 refine wpDA_nil ⟨22, #[.int .i64 (b : Int)], fun u => ?_, fun u hS => ?_, ?_⟩
 ·go_simp
  try with_reducible rfl
 ·refine (at_k b u).mono ?_
  rintro e u2 ⟨rfl, hT, hb2⟩
  exact ⟨_, ⟨_, rfl⟩, ⟨hS.bel.trans (hb2.mono hS.bel.size), fun p hp => ⟨_, (by simpa using hp.symm), hS.bel.size, hT⟩, fun m p hp => by simp at hp⟩, rfl⟩
 rintro v ⟨A, rfl⟩
 simp only [opsAt, List.getElem?_cons_zero, List.getElem?_cons_succ, List.drop_succ_cons, List.drop_zero, Act.put, List.setIfInBounds_toArray, List.set_cons_zero, List.set_cons_succ]
 repeat (refine wpDA_pure (v := ?_) rfl (fun u => ?_) ?_; rotate_left; (focus (go_simp; (try with_reducible rfl); done)); simp only [Act.put, z5, z6, z7])
 refine wpDA_nil ⟨fun u hS => ?_, fun v => ?_⟩
 ·obtain ⟨A1, e, hS2⟩ := hS.box
  injection e with e
  injection e with e
  injection e with e
  subst e
  exact ⟨_, _, hS2, run_boxM _ _ _ _ _ _ (by first | rfl | omega) (by first | rfl | omega) rfl rfl⟩
 refine wpDA_nil fun u hS => ?_
 simp only [Act.put, z5, z6, z7]
 obtain ⟨A1, M, e3, rfl, hA, hM0, hT, hM⟩ := hS.d2 _ _ rfl
 injection e3 with e3
 injection e3 with e3
 injection e3 with e3
 subst e3
 have hbu := Lib.hid (hbq.trans (hS.bel.mono hbq.size))
 have hAw := Nat.le_trans hbq.size hA
 have HI := hS.get hI
 clear hS hI hbq hM0
 have T := hT.start
 have hB := hM.blk
 have HM := Lib.hid hM
 clear hT
 go_wp2_with (first | ((with_reducible refine load_w ?_ 77 isAgg_asm _ rfl _ _ rfl _ _ (T.get hB hM.ne hM.nr) _ rfl ?_); (focus rfl)) | (go_at_call 40; (with_reducible refine Calls.mono (TR.stepM T hM fun R2 h m => spread_32 M A 8 off b 0 true _ R2 _ h m (by decide) h2 (by omega)) ?_); rintro e u2 ⟨rfl, T⟩))
 have T9 := TR.cast (T) (atc 41 off :: setc b :: spreadC b 32 true 2) 1 (by simp [regs]) (by first | rfl | omega)
 obtain ⟨v, hSQ, c1, c2, c3⟩ := TR.done T9 hbu.out hAw HM.out
 have HSQ := Lib.hid hSQ
 clear hSQ T9 T
 go_quiet (fail)
 simp only [Exit.then]
 go_at_K
 go_wp2_with fail
 go_ret3
 exact ⟨v, rfl, HSQ.out.mono ⟨rfl, rfl, rfl, Nat.le_refl _, fun _ _ => rfl⟩⟩
set_option maxRecDepth 100000 in
theorem seq_6 (a : Int) (off lo b : Nat) (hi : Int) (L : Value) (w : World) (hb : b ≤ 1000) (h2 : off < 4294967296) :
 Calls Tryz.prog 11 #[inV 64774 a off lo hi L, .int .i64 (b : Int)] w fun e w' => ∃ v, e = .returned (.tuple #[v, .int .i64 1, .int .i64 0]) ∧ SQ w (atc 41 off :: setc b :: spreadC b 32 false 2) v w' := by
 have hZ : ∀ W, Calls Tryz.prog 13 #[.int .i64 64774] W fun e w' => e = .returned (.int .i64 8) ∧ w' = W := fun W => vsize_any 64774 W (by decide)
 have HZ := Lib.hid hZ
 clear hZ
 unfold inV
 have e1 : IntKind.i64.wrap 6 = 6 := IntWalk.i64_in _ (by decide)
 have e2 : IntKind.u64.wrap (off : Int) = (off : Int) := by rw [IntKind.wrap_u64]; omega
 have d1 : decide ((b : Int) < 0) = false := decide_eq_false (by omega)
 have d2 : decide ((4032 : Int) < (b : Int)) = false := decide_eq_false (by omega)
 have d3 : decide ((off : Int) < 0) = false := decide_eq_false (by omega)
 have d4 : decide ((4294967296 : Int) ≤ (off : Int)) = false := decide_eq_false (by omega)
 have ew0 : IntKind.i64.wrap 0 = 0 := IntWalk.i64_in _ (by decide)
 have ew2 : IntKind.i64.wrap 2 = 2 := IntWalk.i64_in _ (by decide)
 have ew5 : IntKind.i64.wrap 5 = 5 := IntWalk.i64_in _ (by decide)
 have ew32 : IntKind.i64.wrap 32 = 32 := IntWalk.i64_in _ (by decide)
 go_enter Tryz.func11, Tryz.ntmps11
 go_wp2_with fail
 go_quiet ((go_at_call 13; exact Calls.quiet_of_same (HZ.out _)))
 have hs : IB w w.heap.size (.cells #[.int .i64 64774, .int .i64 (a : Int), .int .i64 (off : Int), .int .u64 (lo : Int), .int .u64 hi, L] 25 (0, 0)) ((w.alloc (.cells #[.int .i64 64774, .int .i64 (a : Int), .int .i64 (off : Int), .int .u64 (lo : Int), .int .u64 hi, L] 25)).drewN nq) := ⟨((Below.refl _ _).alloc (Nat.le_refl _) _).trans ⟨rfl, rfl, rfl, Nat.le_refl _, fun _ _ => rfl⟩, heap_alloc_new _ _⟩
 generalize ((w.alloc (.cells #[.int .i64 64774, .int .i64 (a : Int), .int .i64 (off : Int), .int .u64 (lo : Int), .int .u64 hi, L] 25)).drewN nq) = W at *
 simp only [Exit.then]
 go_at_K
 go_wp2_with fail
 refine region_do (IB w w.heap.size (.cells #[.int .i64 64774, .int .i64 (a : Int), .int .i64 (off : Int), .int .u64 (lo : Int), .int .u64 hi, L] 25 (0, 0))) 30 (by kernel_rfl) (by kernel_rfl) hs.drew ?_
 simp only [zF, zE, zD, zC]
 repeat (first | (refine do_ldi rfl _ rfl _ 0 rfl (.int .i64 64774) (fun u hS => hS.cell 0 rfl) ?_; simp only [Act.put, z5, z6, z7]) | (refine do_ldi rfl _ rfl _ 2 rfl (.int .i64 (off : Int)) (fun u hS => hS.cell 2 rfl) ?_; simp only [Act.put, z5, z6, z7]) | (refine do_ldu rfl _ rfl _ 3 rfl (.int .u64 (lo : Int)) (fun u hS => hS.cell 3 rfl) ?_; simp only [Act.put, z5, z6, z7]) | (refine wpD_pure (v := ?_) rfl (fun u => ?_) ?_; rotate_left; (focus (go_simp; (try with_reducible rfl); done)); simp only [Act.put, z5, z6, z7]) | (refine wpD_pureg (v := ?_) rfl (fun u => ?_) ?_; rotate_left; (focus (go_simp; (try with_reducible rfl); done)); simp only [Act.put, z5, z6, z7]) | (refine wpD_skip rfl ?_; simp only [Act.put, z5, z6, z7]))
 apply wpD_nil
 intro wq hq
 have hI := hq.blk
 have hbq := hq.bel
 clear hq hs
 go_wp2_with fail
 refine region_cv (SS wq b 8 off) (fun v => ∃ A, v = .pointer (some ⟨A, 0, none⟩)) 8 1 7 [0, 2, 3, 4, 5] [6] [] rfl (by kernel_rfl) (by decide) rfl rfl rfl rfl SS.start ?_
 simp only [opsAt, List.getElem?_cons_zero, List.getElem?_cons_succ, List.drop_succ_cons, List.drop_zero]
 repeat (first | (refine wpDA_here rfl (fun D w2 hS => run_ldq _ isAgg_int _ rfl w.heap.size 2 rfl (.int .i64 (off : Int)) (by rw [cell_of_row w2 w.heap.size 2 _ _ _ (hS.get hI)]; rfl)) ?_; simp only [Act.put, z5, z6, z7]) | (refine wpDA_pure (v := ?_) rfl (fun u => ?_) ?_; rotate_left; (focus (go_simp; (try with_reducible rfl); done)); simp only [Act.put, z5, z6, z7]))
 refine wpDA_nil ⟨22, #[.int .i64 (b : Int)], fun u => ?_, fun u hS => ?_, ?_⟩
 ·go_simp
  try with_reducible rfl
 ·refine (at_k b u).mono ?_
  rintro e u2 ⟨rfl, hT, hb2⟩
  exact ⟨_, ⟨_, rfl⟩, ⟨hS.bel.trans (hb2.mono hS.bel.size), fun p hp => ⟨_, (by simpa using hp.symm), hS.bel.size, hT⟩, fun m p hp => by simp at hp⟩, rfl⟩
 rintro v ⟨A, rfl⟩
 simp only [opsAt, List.getElem?_cons_zero, List.getElem?_cons_succ, List.drop_succ_cons, List.drop_zero, Act.put, List.setIfInBounds_toArray, List.set_cons_zero, List.set_cons_succ]
 repeat (refine wpDA_pure (v := ?_) rfl (fun u => ?_) ?_; rotate_left; (focus (go_simp; (try with_reducible rfl); done)); simp only [Act.put, z5, z6, z7])
 refine wpDA_nil ⟨fun u hS => ?_, fun v => ?_⟩
 ·obtain ⟨A1, e, hS2⟩ := hS.box
  injection e with e
  injection e with e
  injection e with e
  subst e
  exact ⟨_, _, hS2, run_boxM _ _ _ _ _ _ (by first | rfl | omega) (by first | rfl | omega) rfl rfl⟩
 refine wpDA_nil fun u hS => ?_
 simp only [Act.put, z5, z6, z7]
 obtain ⟨A1, M, e3, rfl, hA, hM0, hT, hM⟩ := hS.d2 _ _ rfl
 injection e3 with e3
 injection e3 with e3
 injection e3 with e3
 subst e3
 have hbu := Lib.hid (hbq.trans (hS.bel.mono hbq.size))
 have hAw := Nat.le_trans hbq.size hA
 have HI := hS.get hI
 clear hS hI hbq hM0
 have T := hT.start
 have hB := hM.blk
 have HM := Lib.hid hM
 clear hT
 go_wp2_with (first | ((with_reducible refine load_w ?_ 77 isAgg_asm _ rfl _ _ rfl _ _ (T.get hB hM.ne hM.nr) _ rfl ?_); (focus rfl)) | (go_at_call 40; (with_reducible refine Calls.mono (TR.stepM T hM fun R2 h m => spread_32 M A 8 off b 0 false _ R2 _ h m (by decide) h2 (by omega)) ?_); rintro e u2 ⟨rfl, T⟩))
 have T9 := TR.cast (T) (atc 41 off :: setc b :: spreadC b 32 false 2) 1 (by simp [regs]) (by first | rfl | omega)
 obtain ⟨v, hSQ, c1, c2, c3⟩ := TR.done T9 hbu.out hAw HM.out
 have HSQ := Lib.hid hSQ
 clear hSQ T9 T
 go_quiet (fail)
 simp only [Exit.then]
 go_at_K
 go_wp2_with fail
 go_ret3
 exact ⟨v, rfl, HSQ.out.mono ⟨rfl, rfl, rfl, Nat.le_refl _, fun _ _ => rfl⟩⟩
end Go.Proofs.YtmfmokblmipagaaGreat
