/-
  Texts TaQ2.
-/
import Derived.Test.YtmfmokblmipagaaGreatR20
set_option linter.unusedSimpArgs false
set_option linter.unusedVariables false
set_option maxHeartbeats 8000000
open Pl
namespace Go.Proofs.YtmfmokblmipagaaGreat
open Go.RowKit Pl
set_option maxRecDepth 100000 in
theorem laneld_2_0 (M A off b k i a mask p : Nat) (l : List Cel) (R : Option Nat) (u : World) (h : TA A l b k R u) (hM : MA M A 2 off R u) (h1 : l.length + 100 ≤ 1000) (h2 : off < 4294967296) (hb : b + k ≤ 1000) (hi : i = 0 + a) (ha : a < 4) (hp : p = 16 * a) (hmask : bits BinOp.xor IntKind.u64 (if IntKind.u64.signed = true then -1 else IntKind.u64.max) (IntKind.u64.wrap (65535 * 2 ^ min p 64)) = (mask : Int)) :
 Calls Tryz.prog 42 #[.pointer (some ⟨M, 0, none⟩), .bool true, .int .i64 (i : Int)] u fun e u' => e = .returned (.tuple #[]) ∧ TR A R u (l ++ ([b + k + 2, b + k + 1, b + k].map setc ++ [getc (b + k), atc 51 off, numc p, opc 134, getc (b + k + 1), numc mask, opc 131, opc 132, setc (b + k + 1), getc (b + k + 1), getc (b + k + 2)])) b (k + 3) u' := by
 have ed : (i : Int) / 4 = 0 := by omega
 have em : (i : Int) % 4 = (a : Int) := by omega
 have ewp : IntKind.i64.wrap (16 * (a : Int)) = (p : Int) := by rw [IntWalk.i64_in _ (by omega)]; omega
 have ewu : IntKind.u64.wrap (p : Int) = (p : Int) := by rw [IntKind.wrap_u64]; omega
 have ewa : IntKind.i64.wrap (a : Int) = a := IntWalk.i64_in _ (by omega)
 have ew0 : IntKind.i64.wrap 0 = 0 := IntWalk.i64_in _ (by decide)
 have ew1 : IntKind.i64.wrap 1 = 1 := IntWalk.i64_in _ (by decide)
 have ew2 : IntKind.i64.wrap 2 = 2 := IntWalk.i64_in _ (by decide)
 have ew4 : IntKind.i64.wrap 4 = 4 := IntWalk.i64_in _ (by decide)
 have ew16 : IntKind.i64.wrap 16 = 16 := IntWalk.i64_in _ (by decide)
 have HMK := Lib.hid hmask
 clear hi hp hmask
 have T := h.start
 clear h
 have hB := hM.blk
 go_enter Tryz.func42, Tryz.ntmps42
 go_wp2_with (first | ((with_reducible refine load_w ?_ 77 isAgg_asm _ rfl _ _ rfl _ _ (T.get hB hM.ne hM.nr) _ rfl ?_); (focus rfl)) | ((with_reducible refine load_w ?_ 3 isAgg_int _ rfl _ 1 rfl _ _ (T.get hB hM.ne hM.nr) _ rfl ?_); (focus rfl)) | (go_at_call 29; obtain ⟨R1, hA1, hC1, hF1⟩ := T.ex; have hM1 := hM.to hC1 hF1; refine Calls.mono (save_k A b k 3 _ R1 _ hA1 (by decide) (by omega) (by (try simp only [zP, zN, zM, zL, zH, regs_len]); omega)) ?_; clear T; rintro e u3 ⟨v, R3, rfl, hA3, hC3, hF3, hI⟩; have hM := hM1.to hC3 hF3; have hC := Chg.trans hC1 hC3 hF1; have hF := Frsh.trans hF1 hF3 hC1.size; clear hC1 hC3 hF1 hF3 hM1 hA1; have T := hA3.start; have hB := hM.blk; obtain ⟨g, c, rfl, h3⟩ := hI.three; clear hA3 hI))
 obtain ⟨hv0, hv1, hv2⟩ := h3.get T
 go_region
 clear hv0 hv1 hv2
 replace T := T.below (Below.refl _ _).drew
 try rw [em]
 generalize u3.drew = w5 at *
 simp only [Exit.then]
 go_at_K
 go_wp2_with fail
 obtain ⟨hv0, hv1, hv2⟩ := h3.get T
 have hB4 := T.get hB hM.ne hM.nr
 refine region_sp1 (LS _ #[.int .i64 ((b + k : Nat) : Int)] 3 1) 10 9 [0, 1, 2, 3, 4, 5, 6, 7, 8] rfl (by kernel_rfl) rfl rfl LS.start ?_
 simp only [opsAt, List.getElem?_cons_zero, List.getElem?_cons_succ, List.drop_succ_cons, List.drop_zero]
 repeat (first | (refine wpDA_here rfl (fun D w hS => run_ldq _ isAgg_asm _ rfl M 0 rfl (.pointer (some ⟨A, 0, none⟩)) (by rw [cell_of_row w M 0 _ _ _ (hS.get hB4)]; rfl)) ?_; simp only [Act.put, z5, z6, z7]) | (refine wpDA_here rfl (fun D w hS => run_ldq _ isAgg_int _ rfl g 0 rfl (.int .i64 ((b + k : Nat) : Int)) (cell_keep hv0 hS.bel)) ?_; simp only [Act.put, z5, z6, z7]) | (refine wpDA_pure (v := ?_) rfl (fun u => ?_) ?_; rotate_left; (focus (go_simp; (try with_reducible rfl); done)); simp only [Act.put, z5, z6, z7]))
 refine wpDA_nil ⟨fun w hS => ⟨_, _, hS.mk1, run_bi1_op _ _ rfl rfl⟩, fun s w1 hS => ?_⟩
 obtain ⟨x, rfl, hx1, hx2⟩ := hS.new s rfl
 have hb1 := hS.bel
 clear hS hv0 hv1 hv2 hB4
 go_wp2_with (first | (go_at_call 38; refine Calls.mono (TR.stepB T hb1 fun R2 h => get_k A b _ _ _ [b + k] R2 _ (h.below hb1) (IL.far h x hx1 _ _ hx2 _ _ _ rfl (vals1 (b + k))) (by (try simp only [zP, zN, zM, zL, zH, regs_len]); omega)) ?_; clear hb1; rintro e u2 ⟨rfl, T⟩) | ((with_reducible refine load_w ?_ 77 isAgg_asm _ rfl _ _ rfl _ _ (T.get hB hM.ne hM.nr) _ rfl ?_); (focus rfl)) | ((with_reducible refine load_w ?_ 3 isAgg_int _ rfl _ 1 rfl _ _ (T.get hB hM.ne hM.nr) _ rfl ?_); (focus rfl)) | (go_at_call 43; refine Calls.mono (ldop_2 _) ?_; rintro e u2 ⟨rfl, rfl⟩) | (go_at_call 39; refine Calls.mono (TR.stepM T hM fun R2 h m => mat_k M A 2 off b _ 51 0 _ R2 _ h m (by (try simp only [zP, zN, zM, zL, zH, regs_len]); omega) (by omega)) ?_; rintro e u2 ⟨rfl, T⟩) | (go_at_call 44; refine Calls.mono (TR.stepA T fun R2 h => num_k A b _ p _ _ [134] R2 _ (h.alloc _) (IL.one h _) (by (try simp only [zP, zN, zM, zL, zH, regs_len]); omega)) ?_; rintro e u2 ⟨rfl, T⟩) | (go_at_call 38; refine Calls.mono (TR.stepA T fun R2 h => get_k A b _ _ _ [b + k + 1] R2 _ (h.alloc _) (IL.one h _) (by (try simp only [zP, zN, zM, zL, zH, regs_len]); omega)) ?_; rintro e u2 ⟨rfl, T⟩))
 have hB4 := T.get hB hM.ne hM.nr
 refine region_sp1 (LS _ #[.int .i64 131, .int .i64 132] 3 2) 14 13 [0, 1, 2, 3, 4, 5, 6, 7, 8, 9, 10, 11, 12] rfl (by kernel_rfl) rfl rfl LS.start ?_
 simp only [opsAt, List.getElem?_cons_zero, List.getElem?_cons_succ, List.drop_succ_cons, List.drop_zero]
 repeat (first | (refine wpDA_here rfl (fun D w hS => run_ldq _ isAgg_asm _ rfl M 0 rfl (.pointer (some ⟨A, 0, none⟩)) (by rw [cell_of_row w M 0 _ _ _ (hS.get hB4)]; rfl)) ?_; simp only [Act.put, z5, z6, z7]) | (refine wpDA_call (v := .int .u64 65535) rfl 59 ?_ (fun u => ?_) (fun D u hS => ?_) ?_; rotate_left 1; (focus (go_simp; (try with_reducible rfl); done)); (focus (refine (ones_16 _).mono ?_; rintro e u2 ⟨rfl, rfl⟩; exact ⟨rfl, hS⟩)); simp only [Act.put, z5, z6, z7]) | (refine wpDA_pure (v := ?_) rfl (fun u => ?_) ?_; rotate_left; (focus (go_simp; (try with_reducible rfl); done)); simp only [Act.put, z5, z6, z7]))
 refine wpDA_nil ⟨fun w hS => ⟨_, _, hS.mk1, run_bi2_op _ _ _ _ rfl rfl rfl⟩, fun s w1 hS => ?_⟩
 obtain ⟨x, rfl, hx1, hx2⟩ := hS.new s rfl
 have hb1 := hS.bel
 clear hS hB4
 rw [HMK.out]
 go_wp2_with (first | (go_at_call 44; refine Calls.mono (TR.stepB T hb1 fun R2 h => num_k A b _ mask _ _ [131, 132] R2 _ (h.below hb1) (IL.far h x hx1 _ _ hx2 _ _ _ rfl (vals2 131 132)) (by (try simp only [zP, zN, zM, zL, zH, regs_len]); omega)) ?_; clear hb1; rintro e u2 ⟨rfl, T⟩) | ((with_reducible refine load_w ?_ 77 isAgg_asm _ rfl _ _ rfl _ _ (T.get hB hM.ne hM.nr) _ rfl ?_); (focus rfl)) | (go_at_call 66; refine Calls.mono (TR.stepA T fun R2 h => set_k A b _ _ _ [b + k + 1] R2 _ (h.alloc _) (IL.one h _) (by (try simp only [zP, zN, zM, zL, zH, regs_len]); omega)) ?_; rintro e u2 ⟨rfl, T⟩))
 obtain ⟨hv0, hv1, hv2⟩ := h3.get T
 have hB4 := T.get hB hM.ne hM.nr
 refine region_sp1 (LS _ #[.int .i64 ((b + k + 1 : Nat) : Int), .int .i64 ((b + k + 2 : Nat) : Int)] 3 2) 13 12 [0, 1, 2, 3, 4, 5, 6, 7, 8, 9, 10, 11] rfl (by kernel_rfl) rfl rfl LS.start ?_
 simp only [opsAt, List.getElem?_cons_zero, List.getElem?_cons_succ, List.drop_succ_cons, List.drop_zero]
 repeat (first | (refine wpDA_here rfl (fun D w hS => run_ldq _ isAgg_asm _ rfl M 0 rfl (.pointer (some ⟨A, 0, none⟩)) (by rw [cell_of_row w M 0 _ _ _ (hS.get hB4)]; rfl)) ?_; simp only [Act.put, z5, z6, z7]) | (refine wpDA_here rfl (fun D w hS => run_ldq _ isAgg_int _ rfl g 1 rfl (.int .i64 ((b + k + 1 : Nat) : Int)) (cell_keep hv1 hS.bel)) ?_; simp only [Act.put, z5, z6, z7]) | (refine wpDA_here rfl (fun D w hS => run_ldq _ isAgg_int _ rfl g 2 rfl (.int .i64 ((b + k + 2 : Nat) : Int)) (cell_keep hv2 hS.bel)) ?_; simp only [Act.put, z5, z6, z7]) | (refine wpDA_pure (v := ?_) rfl (fun u => ?_) ?_; rotate_left; (focus (go_simp; (try with_reducible rfl); done)); simp only [Act.put, z5, z6, z7]))
 refine wpDA_nil ⟨fun w hS => ⟨_, _, hS.mk1, run_bi2_op _ _ _ _ rfl rfl rfl⟩, fun s w1 hS => ?_⟩
 obtain ⟨x2, rfl, hx3, hx4⟩ := hS.new s rfl
 have hb1 := hS.bel
 clear hS hv0 hv1 hv2 hB4
 go_wp2_with (first | (go_at_call 38; refine Calls.mono (TR.stepB T hb1 fun R2 h => get_k A b _ _ _ [b + k + 1, b + k + 2] R2 _ (h.below hb1) (IL.far h x2 hx3 _ _ hx4 _ _ _ rfl (vals2 (b + k + 1) (b + k + 2))) (by (try simp only [zP, zN, zM, zL, zH, regs_len]); omega)) ?_; clear hb1; rintro e u2 ⟨rfl, T⟩))
 first | go_end0 | ((try simp only [Exit.inBlock, Exit.then]); refine bodyPost_ret (results_none rfl _ _ _) rfl ?_)
 have := TR.trans hC hF T
 have hp : (regs (b + k) 3).reverse = [b + k + 2, b + k + 1, b + k] := by simp [regs]
 rw [hp] at this
 exact ⟨rfl, by simpa [List.append_assoc] using this⟩
set_option maxRecDepth 100000 in
theorem laneld_2_1 (M A off b k i a mask p : Nat) (l : List Cel) (R : Option Nat) (u : World) (h : TA A l b k R u) (hM : MA M A 2 off R u) (h1 : l.length + 100 ≤ 1000) (h2 : off < 4294967296) (hb : b + k ≤ 1000) (hi : i = 4 + a) (ha : a < 4) (hp : p = 16 * a) (hmask : bits BinOp.xor IntKind.u64 (if IntKind.u64.signed = true then -1 else IntKind.u64.max) (IntKind.u64.wrap (65535 * 2 ^ min p 64)) = (mask : Int)) :
 Calls Tryz.prog 42 #[.pointer (some ⟨M, 0, none⟩), .bool true, .int .i64 (i : Int)] u fun e u' => e = .returned (.tuple #[]) ∧ TR A R u (l ++ ([b + k + 2, b + k + 1, b + k].map setc ++ [getc (b + k), atc 51 off, numc p, opc 134, getc (b + k + 2), numc mask, opc 131, opc 132, setc (b + k + 2), getc (b + k + 1), getc (b + k + 2)])) b (k + 3) u' := by
 have ed : (i : Int) / 4 = 1 := by omega
 have em : (i : Int) % 4 = (a : Int) := by omega
 have ewp : IntKind.i64.wrap (16 * (a : Int)) = (p : Int) := by rw [IntWalk.i64_in _ (by omega)]; omega
 have ewu : IntKind.u64.wrap (p : Int) = (p : Int) := by rw [IntKind.wrap_u64]; omega
 have ewa : IntKind.i64.wrap (a : Int) = a := IntWalk.i64_in _ (by omega)
 have ew0 : IntKind.i64.wrap 0 = 0 := IntWalk.i64_in _ (by decide)
 have ew1 : IntKind.i64.wrap 1 = 1 := IntWalk.i64_in _ (by decide)
 have ew2 : IntKind.i64.wrap 2 = 2 := IntWalk.i64_in _ (by decide)
 have ew4 : IntKind.i64.wrap 4 = 4 := IntWalk.i64_in _ (by decide)
 have ew16 : IntKind.i64.wrap 16 = 16 := IntWalk.i64_in _ (by decide)
 have HMK := Lib.hid hmask
 clear hi hp hmask
 have T := h.start
 clear h
 have hB := hM.blk
 go_enter Tryz.func42, Tryz.ntmps42
 go_wp2_with (first | ((with_reducible refine load_w ?_ 77 isAgg_asm _ rfl _ _ rfl _ _ (T.get hB hM.ne hM.nr) _ rfl ?_); (focus rfl)) | ((with_reducible refine load_w ?_ 3 isAgg_int _ rfl _ 1 rfl _ _ (T.get hB hM.ne hM.nr) _ rfl ?_); (focus rfl)) | (go_at_call 29; obtain ⟨R1, hA1, hC1, hF1⟩ := T.ex; have hM1 := hM.to hC1 hF1; refine Calls.mono (save_k A b k 3 _ R1 _ hA1 (by decide) (by omega) (by (try simp only [zP, zN, zM, zL, zH, regs_len]); omega)) ?_; clear T; rintro e u3 ⟨v, R3, rfl, hA3, hC3, hF3, hI⟩; have hM := hM1.to hC3 hF3; have hC := Chg.trans hC1 hC3 hF1; have hF := Frsh.trans hF1 hF3 hC1.size; clear hC1 hC3 hF1 hF3 hM1 hA1; have T := hA3.start; have hB := hM.blk; obtain ⟨g, c, rfl, h3⟩ := hI.three; clear hA3 hI))
 obtain ⟨hv0, hv1, hv2⟩ := h3.get T
 go_region
 clear hv0 hv1 hv2
 replace T := T.below (Below.refl _ _).drew
 try rw [em]
 generalize u3.drew = w5 at *
 simp only [Exit.then]
 go_at_K
 go_wp2_with fail
 obtain ⟨hv0, hv1, hv2⟩ := h3.get T
 have hB4 := T.get hB hM.ne hM.nr
 refine region_sp1 (LS _ #[.int .i64 ((b + k : Nat) : Int)] 3 1) 10 9 [0, 1, 2, 3, 4, 5, 6, 7, 8] rfl (by kernel_rfl) rfl rfl LS.start ?_
 simp only [opsAt, List.getElem?_cons_zero, List.getElem?_cons_succ, List.drop_succ_cons, List.drop_zero]
 repeat (first | (refine wpDA_here rfl (fun D w hS => run_ldq _ isAgg_asm _ rfl M 0 rfl (.pointer (some ⟨A, 0, none⟩)) (by rw [cell_of_row w M 0 _ _ _ (hS.get hB4)]; rfl)) ?_; simp only [Act.put, z5, z6, z7]) | (refine wpDA_here rfl (fun D w hS => run_ldq _ isAgg_int _ rfl g 0 rfl (.int .i64 ((b + k : Nat) : Int)) (cell_keep hv0 hS.bel)) ?_; simp only [Act.put, z5, z6, z7]) | (refine wpDA_pure (v := ?_) rfl (fun u => ?_) ?_; rotate_left; (focus (go_simp; (try with_reducible rfl); done)); simp only [Act.put, z5, z6, z7]))
 refine wpDA_nil ⟨fun w hS => ⟨_, _, hS.mk1, run_bi1_op _ _ rfl rfl⟩, fun s w1 hS => ?_⟩
 obtain ⟨x, rfl, hx1, hx2⟩ := hS.new s rfl
 have hb1 := hS.bel
 clear hS hv0 hv1 hv2 hB4
 go_wp2_with (first | (go_at_call 38; refine Calls.mono (TR.stepB T hb1 fun R2 h => get_k A b _ _ _ [b + k] R2 _ (h.below hb1) (IL.far h x hx1 _ _ hx2 _ _ _ rfl (vals1 (b + k))) (by (try simp only [zP, zN, zM, zL, zH, regs_len]); omega)) ?_; clear hb1; rintro e u2 ⟨rfl, T⟩) | ((with_reducible refine load_w ?_ 77 isAgg_asm _ rfl _ _ rfl _ _ (T.get hB hM.ne hM.nr) _ rfl ?_); (focus rfl)) | ((with_reducible refine load_w ?_ 3 isAgg_int _ rfl _ 1 rfl _ _ (T.get hB hM.ne hM.nr) _ rfl ?_); (focus rfl)) | (go_at_call 43; refine Calls.mono (ldop_2 _) ?_; rintro e u2 ⟨rfl, rfl⟩) | (go_at_call 39; refine Calls.mono (TR.stepM T hM fun R2 h m => mat_k M A 2 off b _ 51 0 _ R2 _ h m (by (try simp only [zP, zN, zM, zL, zH, regs_len]); omega) (by omega)) ?_; rintro e u2 ⟨rfl, T⟩) | (go_at_call 44; refine Calls.mono (TR.stepA T fun R2 h => num_k A b _ p _ _ [134] R2 _ (h.alloc _) (IL.one h _) (by (try simp only [zP, zN, zM, zL, zH, regs_len]); omega)) ?_; rintro e u2 ⟨rfl, T⟩) | (go_at_call 38; refine Calls.mono (TR.stepA T fun R2 h => get_k A b _ _ _ [b + k + 2] R2 _ (h.alloc _) (IL.one h _) (by (try simp only [zP, zN, zM, zL, zH, regs_len]); omega)) ?_; rintro e u2 ⟨rfl, T⟩))
 have hB4 := T.get hB hM.ne hM.nr
 refine region_sp1 (LS _ #[.int .i64 131, .int .i64 132] 3 2) 14 13 [0, 1, 2, 3, 4, 5, 6, 7, 8, 9, 10, 11, 12] rfl (by kernel_rfl) rfl rfl LS.start ?_
 simp only [opsAt, List.getElem?_cons_zero, List.getElem?_cons_succ, List.drop_succ_cons, List.drop_zero]
 repeat (first | (refine wpDA_here rfl (fun D w hS => run_ldq _ isAgg_asm _ rfl M 0 rfl (.pointer (some ⟨A, 0, none⟩)) (by rw [cell_of_row w M 0 _ _ _ (hS.get hB4)]; rfl)) ?_; simp only [Act.put, z5, z6, z7]) | (refine wpDA_call (v := .int .u64 65535) rfl 59 ?_ (fun u => ?_) (fun D u hS => ?_) ?_; rotate_left 1; (focus (go_simp; (try with_reducible rfl); done)); (focus (refine (ones_16 _).mono ?_; rintro e u2 ⟨rfl, rfl⟩; exact ⟨rfl, hS⟩)); simp only [Act.put, z5, z6, z7]) | (refine wpDA_pure (v := ?_) rfl (fun u => ?_) ?_; rotate_left; (focus (go_simp; (try with_reducible rfl); done)); simp only [Act.put, z5, z6, z7]))
 refine wpDA_nil ⟨fun w hS => ⟨_, _, hS.mk1, run_bi2_op _ _ _ _ rfl rfl rfl⟩, fun s w1 hS => ?_⟩
 obtain ⟨x, rfl, hx1, hx2⟩ := hS.new s rfl
 have hb1 := hS.bel
 clear hS hB4
 rw [HMK.out]
 go_wp2_with (first | (go_at_call 44; refine Calls.mono (TR.stepB T hb1 fun R2 h => num_k A b _ mask _ _ [131, 132] R2 _ (h.below hb1) (IL.far h x hx1 _ _ hx2 _ _ _ rfl (vals2 131 132)) (by (try simp only [zP, zN, zM, zL, zH, regs_len]); omega)) ?_; clear hb1; rintro e u2 ⟨rfl, T⟩) | ((with_reducible refine load_w ?_ 77 isAgg_asm _ rfl _ _ rfl _ _ (T.get hB hM.ne hM.nr) _ rfl ?_); (focus rfl)) | (go_at_call 66; refine Calls.mono (TR.stepA T fun R2 h => set_k A b _ _ _ [b + k + 2] R2 _ (h.alloc _) (IL.one h _) (by (try simp only [zP, zN, zM, zL, zH, regs_len]); omega)) ?_; rintro e u2 ⟨rfl, T⟩))
 obtain ⟨hv0, hv1, hv2⟩ := h3.get T
 have hB4 := T.get hB hM.ne hM.nr
 refine region_sp1 (LS _ #[.int .i64 ((b + k + 1 : Nat) : Int), .int .i64 ((b + k + 2 : Nat) : Int)] 3 2) 13 12 [0, 1, 2, 3, 4, 5, 6, 7, 8, 9, 10, 11] rfl (by kernel_rfl) rfl rfl LS.start ?_
 simp only [opsAt, List.getElem?_cons_zero, List.getElem?_cons_succ, List.drop_succ_cons, List.drop_zero]
 repeat (first | (refine wpDA_here rfl (fun D w hS => run_ldq _ isAgg_asm _ rfl M 0 rfl (.pointer (some ⟨A, 0, none⟩)) (by rw [cell_of_row w M 0 _ _ _ (hS.get hB4)]; rfl)) ?_; simp only [Act.put, z5, z6, z7]) | (refine wpDA_here rfl (fun D w hS => run_ldq _ isAgg_int _ rfl g 1 rfl (.int .i64 ((b + k + 1 : Nat) : Int)) (cell_keep hv1 hS.bel)) ?_; simp only [Act.put, z5, z6, z7]) | (refine wpDA_here rfl (fun D w hS => run_ldq _ isAgg_int _ rfl g 2 rfl (.int .i64 ((b + k + 2 : Nat) : Int)) (cell_keep hv2 hS.bel)) ?_; simp only [Act.put, z5, z6, z7]) | (refine wpDA_pure (v := ?_) rfl (fun u => ?_) ?_; rotate_left; (focus (go_simp; (try with_reducible rfl); done)); simp only [Act.put, z5, z6, z7]))
 refine wpDA_nil ⟨fun w hS => ⟨_, _, hS.mk1, run_bi2_op _ _ _ _ rfl rfl rfl⟩, fun s w1 hS => ?_⟩
 obtain ⟨x2, rfl, hx3, hx4⟩ := hS.new s rfl
 have hb1 := hS.bel
 clear hS hv0 hv1 hv2 hB4
 go_wp2_with (first | (go_at_call 38; refine Calls.mono (TR.stepB T hb1 fun R2 h => get_k A b _ _ _ [b + k + 1, b + k + 2] R2 _ (h.below hb1) (IL.far h x2 hx3 _ _ hx4 _ _ _ rfl (vals2 (b + k + 1) (b + k + 2))) (by (try simp only [zP, zN, zM, zL, zH, regs_len]); omega)) ?_; clear hb1; rintro e u2 ⟨rfl, T⟩))
 first | go_end0 | ((try simp only [Exit.inBlock, Exit.then]); refine bodyPost_ret (results_none rfl _ _ _) rfl ?_)
 have := TR.trans hC hF T
 have hp : (regs (b + k) 3).reverse = [b + k + 2, b + k + 1, b + k] := by simp [regs]
 rw [hp] at this
 exact ⟨rfl, by simpa [List.append_assoc] using this⟩
set_option maxRecDepth 100000 in
theorem laneld_4_0 (M A off b k i a mask p : Nat) (l : List Cel) (R : Option Nat) (u : World) (h : TA A l b k R u) (hM : MA M A 4 off R u) (h1 : l.length + 100 ≤ 1000) (h2 : off < 4294967296) (hb : b + k ≤ 1000) (hi : i = 0 + a) (ha : a < 2) (hp : p = 32 * a) (hmask : bits BinOp.xor IntKind.u64 (if IntKind.u64.signed = true then -1 else IntKind.u64.max) (IntKind.u64.wrap (4294967295 * 2 ^ min p 64)) = (mask : Int)) :
 Calls Tryz.prog 42 #[.pointer (some ⟨M, 0, none⟩), .bool true, .int .i64 (i : Int)] u fun e u' => e = .returned (.tuple #[]) ∧ TR A R u (l ++ ([b + k + 2, b + k + 1, b + k].map setc ++ [getc (b + k), atc 53 off, numc p, opc 134, getc (b + k + 1), numc mask, opc 131, opc 132, setc (b + k + 1), getc (b + k + 1), getc (b + k + 2)])) b (k + 3) u' := by
 have ed : (i : Int) / 2 = 0 := by omega
 have em : (i : Int) % 2 = (a : Int) := by omega
 have ewp : IntKind.i64.wrap (32 * (a : Int)) = (p : Int) := by rw [IntWalk.i64_in _ (by omega)]; omega
 have ewu : IntKind.u64.wrap (p : Int) = (p : Int) := by rw [IntKind.wrap_u64]; omega
 have ewa : IntKind.i64.wrap (a : Int) = a := IntWalk.i64_in _ (by omega)
 have ew0 : IntKind.i64.wrap 0 = 0 := IntWalk.i64_in _ (by decide)
 have ew1 : IntKind.i64.wrap 1 = 1 := IntWalk.i64_in _ (by decide)
 have ew2 : IntKind.i64.wrap 2 = 2 := IntWalk.i64_in _ (by decide)
 have ew32 : IntKind.i64.wrap 32 = 32 := IntWalk.i64_in _ (by decide)
 have HMK := Lib.hid hmask
 clear hi hp hmask
 have T := h.start
 clear h
 have hB := hM.blk
 go_enter Tryz.func42, Tryz.ntmps42
 go_wp2_with (first | ((with_reducible refine load_w ?_ 77 isAgg_asm _ rfl _ _ rfl _ _ (T.get hB hM.ne hM.nr) _ rfl ?_); (focus rfl)) | ((with_reducible refine load_w ?_ 3 isAgg_int _ rfl _ 1 rfl _ _ (T.get hB hM.ne hM.nr) _ rfl ?_); (focus rfl)) | (go_at_call 29; obtain ⟨R1, hA1, hC1, hF1⟩ := T.ex; have hM1 := hM.to hC1 hF1; refine Calls.mono (save_k A b k 3 _ R1 _ hA1 (by decide) (by omega) (by (try simp only [zP, zN, zM, zL, zH, regs_len]); omega)) ?_; clear T; rintro e u3 ⟨v, R3, rfl, hA3, hC3, hF3, hI⟩; have hM := hM1.to hC3 hF3; have hC := Chg.trans hC1 hC3 hF1; have hF := Frsh.trans hF1 hF3 hC1.size; clear hC1 hC3 hF1 hF3 hM1 hA1; have T := hA3.start; have hB := hM.blk; obtain ⟨g, c, rfl, h3⟩ := hI.three; clear hA3 hI))
 obtain ⟨hv0, hv1, hv2⟩ := h3.get T
 go_region
 clear hv0 hv1 hv2
 replace T := T.below (Below.refl _ _).drew
 try rw [em]
 generalize u3.drew = w5 at *
 simp only [Exit.then]
 go_at_K
 go_wp2_with fail
 obtain ⟨hv0, hv1, hv2⟩ := h3.get T
 have hB4 := T.get hB hM.ne hM.nr
 refine region_sp1 (LS _ #[.int .i64 ((b + k : Nat) : Int)] 3 1) 10 9 [0, 1, 2, 3, 4, 5, 6, 7, 8] rfl (by kernel_rfl) rfl rfl LS.start ?_
 simp only [opsAt, List.getElem?_cons_zero, List.getElem?_cons_succ, List.drop_succ_cons, List.drop_zero]
 repeat (first | (refine wpDA_here rfl (fun D w hS => run_ldq _ isAgg_asm _ rfl M 0 rfl (.pointer (some ⟨A, 0, none⟩)) (by rw [cell_of_row w M 0 _ _ _ (hS.get hB4)]; rfl)) ?_; simp only [Act.put, z5, z6, z7]) | (refine wpDA_here rfl (fun D w hS => run_ldq _ isAgg_int _ rfl g 0 rfl (.int .i64 ((b + k : Nat) : Int)) (cell_keep hv0 hS.bel)) ?_; simp only [Act.put, z5, z6, z7]) | (refine wpDA_pure (v := ?_) rfl (fun u => ?_) ?_; rotate_left; (focus (go_simp; (try with_reducible rfl); done)); simp only [Act.put, z5, z6, z7]))
 refine wpDA_nil ⟨fun w hS => ⟨_, _, hS.mk1, run_bi1_op _ _ rfl rfl⟩, fun s w1 hS => ?_⟩
 obtain ⟨x, rfl, hx1, hx2⟩ := hS.new s rfl
 have hb1 := hS.bel
 clear hS hv0 hv1 hv2 hB4
 go_wp2_with (first | (go_at_call 38; refine Calls.mono (TR.stepB T hb1 fun R2 h => get_k A b _ _ _ [b + k] R2 _ (h.below hb1) (IL.far h x hx1 _ _ hx2 _ _ _ rfl (vals1 (b + k))) (by (try simp only [zP, zN, zM, zL, zH, regs_len]); omega)) ?_; clear hb1; rintro e u2 ⟨rfl, T⟩) | ((with_reducible refine load_w ?_ 77 isAgg_asm _ rfl _ _ rfl _ _ (T.get hB hM.ne hM.nr) _ rfl ?_); (focus rfl)) | ((with_reducible refine load_w ?_ 3 isAgg_int _ rfl _ 1 rfl _ _ (T.get hB hM.ne hM.nr) _ rfl ?_); (focus rfl)) | (go_at_call 43; refine Calls.mono (ldop_4 _) ?_; rintro e u2 ⟨rfl, rfl⟩) | (go_at_call 39; refine Calls.mono (TR.stepM T hM fun R2 h m => mat_k M A 4 off b _ 53 0 _ R2 _ h m (by (try simp only [zP, zN, zM, zL, zH, regs_len]); omega) (by omega)) ?_; rintro e u2 ⟨rfl, T⟩) | (go_at_call 44; refine Calls.mono (TR.stepA T fun R2 h => num_k A b _ p _ _ [134] R2 _ (h.alloc _) (IL.one h _) (by (try simp only [zP, zN, zM, zL, zH, regs_len]); omega)) ?_; rintro e u2 ⟨rfl, T⟩) | (go_at_call 38; refine Calls.mono (TR.stepA T fun R2 h => get_k A b _ _ _ [b + k + 1] R2 _ (h.alloc _) (IL.one h _) (by (try simp only [zP, zN, zM, zL, zH, regs_len]); omega)) ?_; rintro e u2 ⟨rfl, T⟩))
 have hB4 := T.get hB hM.ne hM.nr
 refine region_sp1 (LS _ #[.int .i64 131, .int .i64 132] 3 2) 14 13 [0, 1, 2, 3, 4, 5, 6, 7, 8, 9, 10, 11, 12] rfl (by kernel_rfl) rfl rfl LS.start ?_
 simp only [opsAt, List.getElem?_cons_zero, List.getElem?_cons_succ, List.drop_succ_cons, List.drop_zero]
 repeat (first | (refine wpDA_here rfl (fun D w hS => run_ldq _ isAgg_asm _ rfl M 0 rfl (.pointer (some ⟨A, 0, none⟩)) (by rw [cell_of_row w M 0 _ _ _ (hS.get hB4)]; rfl)) ?_; simp only [Act.put, z5, z6, z7]) | (refine wpDA_call (v := .int .u64 4294967295) rfl 59 ?_ (fun u => ?_) (fun D u hS => ?_) ?_; rotate_left 1; (focus (go_simp; (try with_reducible rfl); done)); (focus (refine (ones_32 _).mono ?_; rintro e u2 ⟨rfl, rfl⟩; exact ⟨rfl, hS⟩)); simp only [Act.put, z5, z6, z7]) | (refine wpDA_pure (v := ?_) rfl (fun u => ?_) ?_; rotate_left; (focus (go_simp; (try with_reducible rfl); done)); simp only [Act.put, z5, z6, z7]))
 refine wpDA_nil ⟨fun w hS => ⟨_, _, hS.mk1, run_bi2_op _ _ _ _ rfl rfl rfl⟩, fun s w1 hS => ?_⟩
 obtain ⟨x, rfl, hx1, hx2⟩ := hS.new s rfl
 have hb1 := hS.bel
 clear hS hB4
 rw [HMK.out]
 go_wp2_with (first | (go_at_call 44; refine Calls.mono (TR.stepB T hb1 fun R2 h => num_k A b _ mask _ _ [131, 132] R2 _ (h.below hb1) (IL.far h x hx1 _ _ hx2 _ _ _ rfl (vals2 131 132)) (by (try simp only [zP, zN, zM, zL, zH, regs_len]); omega)) ?_; clear hb1; rintro e u2 ⟨rfl, T⟩) | ((with_reducible refine load_w ?_ 77 isAgg_asm _ rfl _ _ rfl _ _ (T.get hB hM.ne hM.nr) _ rfl ?_); (focus rfl)) | (go_at_call 66; refine Calls.mono (TR.stepA T fun R2 h => set_k A b _ _ _ [b + k + 1] R2 _ (h.alloc _) (IL.one h _) (by (try simp only [zP, zN, zM, zL, zH, regs_len]); omega)) ?_; rintro e u2 ⟨rfl, T⟩))
 obtain ⟨hv0, hv1, hv2⟩ := h3.get T
 have hB4 := T.get hB hM.ne hM.nr
 refine region_sp1 (LS _ #[.int .i64 ((b + k + 1 : Nat) : Int), .int .i64 ((b + k + 2 : Nat) : Int)] 3 2) 13 12 [0, 1, 2, 3, 4, 5, 6, 7, 8, 9, 10, 11] rfl (by kernel_rfl) rfl rfl LS.start ?_
 simp only [opsAt, List.getElem?_cons_zero, List.getElem?_cons_succ, List.drop_succ_cons, List.drop_zero]
 repeat (first | (refine wpDA_here rfl (fun D w hS => run_ldq _ isAgg_asm _ rfl M 0 rfl (.pointer (some ⟨A, 0, none⟩)) (by rw [cell_of_row w M 0 _ _ _ (hS.get hB4)]; rfl)) ?_; simp only [Act.put, z5, z6, z7]) | (refine wpDA_here rfl (fun D w hS => run_ldq _ isAgg_int _ rfl g 1 rfl (.int .i64 ((b + k + 1 : Nat) : Int)) (cell_keep hv1 hS.bel)) ?_; simp only [Act.put, z5, z6, z7]) | (refine wpDA_here rfl (fun D w hS => run_ldq _ isAgg_int _ rfl g 2 rfl (.int .i64 ((b + k + 2 : Nat) : Int)) (cell_keep hv2 hS.bel)) ?_; simp only [Act.put, z5, z6, z7]) | (refine wpDA_pure (v := ?_) rfl (fun u => ?_) ?_; rotate_left; (focus (go_simp; (try with_reducible rfl); done)); simp only [Act.put, z5, z6, z7]))
 refine wpDA_nil ⟨fun w hS => ⟨_, _, hS.mk1, run_bi2_op _ _ _ _ rfl rfl rfl⟩, fun s w1 hS => ?_⟩
 obtain ⟨x2, rfl, hx3, hx4⟩ := hS.new s rfl
 have hb1 := hS.bel
 clear hS hv0 hv1 hv2 hB4
 go_wp2_with (first | (go_at_call 38; refine Calls.mono (TR.stepB T hb1 fun R2 h => get_k A b _ _ _ [b + k + 1, b + k + 2] R2 _ (h.below hb1) (IL.far h x2 hx3 _ _ hx4 _ _ _ rfl (vals2 (b + k + 1) (b + k + 2))) (by (try simp only [zP, zN, zM, zL, zH, regs_len]); omega)) ?_; clear hb1; rintro e u2 ⟨rfl, T⟩))
 first | go_end0 | ((try simp only [Exit.inBlock, Exit.then]); refine bodyPost_ret (results_none rfl _ _ _) rfl ?_)
 have := TR.trans hC hF T
 have hp : (regs (b + k) 3).reverse = [b + k + 2, b + k + 1, b + k] := by simp [regs]
 rw [hp] at this
 exact ⟨rfl, by simpa [List.append_assoc] using this⟩
set_option maxRecDepth 100000 in
theorem laneld_4_1 (M A off b k i a mask p : Nat) (l : List Cel) (R : Option Nat) (u : World) (h : TA A l b k R u) (hM : MA M A 4 off R u) (h1 : l.length + 100 ≤ 1000) (h2 : off < 4294967296) (hb : b + k ≤ 1000) (hi : i = 2 + a) (ha : a < 2) (hp : p = 32 * a) (hmask : bits BinOp.xor IntKind.u64 (if IntKind.u64.signed = true then -1 else IntKind.u64.max) (IntKind.u64.wrap (4294967295 * 2 ^ min p 64)) = (mask : Int)) :
 Calls Tryz.prog 42 #[.pointer (some ⟨M, 0, none⟩), .bool true, .int .i64 (i : Int)] u fun e u' => e = .returned (.tuple #[]) ∧ TR A R u (l ++ ([b + k + 2, b + k + 1, b + k].map setc ++ [getc (b + k), atc 53 off, numc p, opc 134, getc (b + k + 2), numc mask, opc 131, opc 132, setc (b + k + 2), getc (b + k + 1), getc (b + k + 2)])) b (k + 3) u' := by
 have ed : (i : Int) / 2 = 1 := by omega
 have em : (i : Int) % 2 = (a : Int) := by omega
 have ewp : IntKind.i64.wrap (32 * (a : Int)) = (p : Int) := by rw [IntWalk.i64_in _ (by omega)]; omega
 have ewu : IntKind.u64.wrap (p : Int) = (p : Int) := by rw [IntKind.wrap_u64]; omega
 have ewa : IntKind.i64.wrap (a : Int) = a := IntWalk.i64_in _ (by omega)
 have ew0 : IntKind.i64.wrap 0 = 0 := IntWalk.i64_in _ (by decide)
 have ew1 : IntKind.i64.wrap 1 = 1 := IntWalk.i64_in _ (by decide)
 have ew2 : IntKind.i64.wrap 2 = 2 := IntWalk.i64_in _ (by decide)
 have ew32 : IntKind.i64.wrap 32 = 32 := IntWalk.i64_in _ (by decide)
 have HMK := Lib.hid hmask
 clear hi hp hmask
 have T := h.start
 clear h
 have hB := hM.blk
 go_enter Tryz.func42, Tryz.ntmps42
 go_wp2_with (first | ((with_reducible refine load_w ?_ 77 isAgg_asm _ rfl _ _ rfl _ _ (T.get hB hM.ne hM.nr) _ rfl ?_); (focus rfl)) | ((with_reducible refine load_w ?_ 3 isAgg_int _ rfl _ 1 rfl _ _ (T.get hB hM.ne hM.nr) _ rfl ?_); (focus rfl)) | (go_at_call 29; obtain ⟨R1, hA1, hC1, hF1⟩ := T.ex; have hM1 := hM.to hC1 hF1; refine Calls.mono (save_k A b k 3 _ R1 _ hA1 (by decide) (by omega) (by (try simp only [zP, zN, zM, zL, zH, regs_len]); omega)) ?_; clear T; rintro e u3 ⟨v, R3, rfl, hA3, hC3, hF3, hI⟩; have hM := hM1.to hC3 hF3; have hC := Chg.trans hC1 hC3 hF1; have hF := Frsh.trans hF1 hF3 hC1.size; clear hC1 hC3 hF1 hF3 hM1 hA1; have T := hA3.start; have hB := hM.blk; obtain ⟨g, c, rfl, h3⟩ := hI.three; clear hA3 hI))
 obtain ⟨hv0, hv1, hv2⟩ := h3.get T
 go_region
 clear hv0 hv1 hv2
 replace T := T.below (Below.refl _ _).drew
 try rw [em]
 generalize u3.drew = w5 at *
 simp only [Exit.then]
 go_at_K
 go_wp2_with fail
 obtain ⟨hv0, hv1, hv2⟩ := h3.get T
 have hB4 := T.get hB hM.ne hM.nr
 refine region_sp1 (LS _ #[.int .i64 ((b + k : Nat) : Int)] 3 1) 10 9 [0, 1, 2, 3, 4, 5, 6, 7, 8] rfl (by kernel_rfl) rfl rfl LS.start ?_
 simp only [opsAt, List.getElem?_cons_zero, List.getElem?_cons_succ, List.drop_succ_cons, List.drop_zero]
 repeat (first | (refine wpDA_here rfl (fun D w hS => run_ldq _ isAgg_asm _ rfl M 0 rfl (.pointer (some ⟨A, 0, none⟩)) (by rw [cell_of_row w M 0 _ _ _ (hS.get hB4)]; rfl)) ?_; simp only [Act.put, z5, z6, z7]) | (refine wpDA_here rfl (fun D w hS => run_ldq _ isAgg_int _ rfl g 0 rfl (.int .i64 ((b + k : Nat) : Int)) (cell_keep hv0 hS.bel)) ?_; simp only [Act.put, z5, z6, z7]) | (refine wpDA_pure (v := ?_) rfl (fun u => ?_) ?_; rotate_left; (focus (go_simp; (try with_reducible rfl); done)); simp only [Act.put, z5, z6, z7]))
 refine wpDA_nil ⟨fun w hS => ⟨_, _, hS.mk1, run_bi1_op _ _ rfl rfl⟩, fun s w1 hS => ?_⟩
 obtain ⟨x, rfl, hx1, hx2⟩ := hS.new s rfl
 have hb1 := hS.bel
 clear hS hv0 hv1 hv2 hB4
 go_wp2_with (first | (go_at_call 38; refine Calls.mono (TR.stepB T hb1 fun R2 h => get_k A b _ _ _ [b + k] R2 _ (h.below hb1) (IL.far h x hx1 _ _ hx2 _ _ _ rfl (vals1 (b + k))) (by (try simp only [zP, zN, zM, zL, zH, regs_len]); omega)) ?_; clear hb1; rintro e u2 ⟨rfl, T⟩) | ((with_reducible refine load_w ?_ 77 isAgg_asm _ rfl _ _ rfl _ _ (T.get hB hM.ne hM.nr) _ rfl ?_); (focus rfl)) | ((with_reducible refine load_w ?_ 3 isAgg_int _ rfl _ 1 rfl _ _ (T.get hB hM.ne hM.nr) _ rfl ?_); (focus rfl)) | (go_at_call 43; refine Calls.mono (ldop_4 _) ?_; rintro e u2 ⟨rfl, rfl⟩) | (go_at_call 39; refine Calls.mono (TR.stepM T hM fun R2 h m => mat_k M A 4 off b _ 53 0 _ R2 _ h m (by (try simp only [zP, zN, zM, zL, zH, regs_len]); omega) (by omega)) ?_; rintro e u2 ⟨rfl, T⟩) | (go_at_call 44; refine Calls.mono (TR.stepA T fun R2 h => num_k A b _ p _ _ [134] R2 _ (h.alloc _) (IL.one h _) (by (try simp only [zP, zN, zM, zL, zH, regs_len]); omega)) ?_; rintro e u2 ⟨rfl, T⟩) | (go_at_call 38; refine Calls.mono (TR.stepA T fun R2 h => get_k A b _ _ _ [b + k + 2] R2 _ (h.alloc _) (IL.one h _) (by (try simp only [zP, zN, zM, zL, zH, regs_len]); omega)) ?_; rintro e u2 ⟨rfl, T⟩))
 have hB4 := T.get hB hM.ne hM.nr
 refine region_sp1 (LS _ #[.int .i64 131, .int .i64 132] 3 2) 14 13 [0, 1, 2, 3, 4, 5, 6, 7, 8, 9, 10, 11, 12] rfl (by kernel_rfl) rfl rfl LS.start ?_
 simp only [opsAt, List.getElem?_cons_zero, List.getElem?_cons_succ, List.drop_succ_cons, List.drop_zero]
 repeat (first | (refine wpDA_here rfl (fun D w hS => run_ldq _ isAgg_asm _ rfl M 0 rfl (.pointer (some ⟨A, 0, none⟩)) (by rw [cell_of_row w M 0 _ _ _ (hS.get hB4)]; rfl)) ?_; simp only [Act.put, z5, z6, z7]) | (refine wpDA_call (v := .int .u64 4294967295) rfl 59 ?_ (fun u => ?_) (fun D u hS => ?_) ?_; rotate_left 1; (focus (go_simp; (try with_reducible rfl); done)); (focus (refine (ones_32 _).mono ?_; rintro e u2 ⟨rfl, rfl⟩; exact ⟨rfl, hS⟩)); simp only [Act.put, z5, z6, z7]) | (refine wpDA_pure (v := ?_) rfl (fun u => ?_) ?_; rotate_left; (focus (go_simp; (try with_reducible rfl); done)); simp only [Act.put, z5, z6, z7]))
 refine wpDA_nil ⟨fun w hS => ⟨_, _, hS.mk1, run_bi2_op _ _ _ _ rfl rfl rfl⟩, fun s w1 hS => ?_⟩
 obtain ⟨x, rfl, hx1, hx2⟩ := hS.new s rfl
 have hb1 := hS.bel
 clear hS hB4
 rw [HMK.out]
 go_wp2_with (first | (go_at_call 44; refine Calls.mono (TR.stepB T hb1 fun R2 h => num_k A b _ mask _ _ [131, 132] R2 _ (h.below hb1) (IL.far h x hx1 _ _ hx2 _ _ _ rfl (vals2 131 132)) (by (try simp only [zP, zN, zM, zL, zH, regs_len]); omega)) ?_; clear hb1; rintro e u2 ⟨rfl, T⟩) | ((with_reducible refine load_w ?_ 77 isAgg_asm _ rfl _ _ rfl _ _ (T.get hB hM.ne hM.nr) _ rfl ?_); (focus rfl)) | (go_at_call 66; refine Calls.mono (TR.stepA T fun R2 h => set_k A b _ _ _ [b + k + 2] R2 _ (h.alloc _) (IL.one h _) (by (try simp only [zP, zN, zM, zL, zH, regs_len]); omega)) ?_; rintro e u2 ⟨rfl, T⟩))
 obtain ⟨hv0, hv1, hv2⟩ := h3.get T
 have hB4 := T.get hB hM.ne hM.nr
 refine region_sp1 (LS _ #[.int .i64 ((b + k + 1 : Nat) : Int), .int .i64 ((b + k + 2 : Nat) : Int)] 3 2) 13 12 [0, 1, 2, 3, 4, 5, 6, 7, 8, 9, 10, 11] rfl (by kernel_rfl) rfl rfl LS.start ?_
 simp only [opsAt, List.getElem?_cons_zero, List.getElem?_cons_succ, List.drop_succ_cons, List.drop_zero]
 repeat (first | (refine wpDA_here rfl (fun D w hS => run_ldq _ isAgg_asm _ rfl M 0 rfl (.pointer (some ⟨A, 0, none⟩)) (by rw [cell_of_row w M 0 _ _ _ (hS.get hB4)]; rfl)) ?_; simp only [Act.put, z5, z6, z7]) | (refine wpDA_here rfl (fun D w hS => run_ldq _ isAgg_int _ rfl g 1 rfl (.int .i64 ((b + k + 1 : Nat) : Int)) (cell_keep hv1 hS.bel)) ?_; simp only [Act.put, z5, z6, z7]) | (refine wpDA_here rfl (fun D w hS => run_ldq _ isAgg_int _ rfl g 2 rfl (.int .i64 ((b + k + 2 : Nat) : Int)) (cell_keep hv2 hS.bel)) ?_; simp only [Act.put, z5, z6, z7]) | (refine wpDA_pure (v := ?_) rfl (fun u => ?_) ?_; rotate_left; (focus (go_simp; (try with_reducible rfl); done)); simp only [Act.put, z5, z6, z7]))
 refine wpDA_nil ⟨fun w hS => ⟨_, _, hS.mk1, run_bi2_op _ _ _ _ rfl rfl rfl⟩, fun s w1 hS => ?_⟩
 obtain ⟨x2, rfl, hx3, hx4⟩ := hS.new s rfl
 have hb1 := hS.bel
 clear hS hv0 hv1 hv2 hB4
 go_wp2_with (first | (go_at_call 38; refine Calls.mono (TR.stepB T hb1 fun R2 h => get_k A b _ _ _ [b + k + 1, b + k + 2] R2 _ (h.below hb1) (IL.far h x2 hx3 _ _ hx4 _ _ _ rfl (vals2 (b + k + 1) (b + k + 2))) (by (try simp only [zP, zN, zM, zL, zH, regs_len]); omega)) ?_; clear hb1; rintro e u2 ⟨rfl, T⟩))
 first | go_end0 | ((try simp only [Exit.inBlock, Exit.then]); refine bodyPost_ret (results_none rfl _ _ _) rfl ?_)
 have := TR.trans hC hF T
 have hp : (regs (b + k) 3).reverse = [b + k + 2, b + k + 1, b + k] := by simp [regs]
 rw [hp] at this
 exact ⟨rfl, by simpa [List.append_assoc] using this⟩
set_option maxRecDepth 100000 in
theorem laneld_8_0 (M A off b k : Nat) (l : List Cel) (R : Option Nat) (u : World) (h : TA A l b k R u) (hM : MA M A 8 off R u) (h1 : l.length + 100 ≤ 1000) (h2 : off < 4294967296) (hb : b + k ≤ 1000) :
 Calls Tryz.prog 42 #[.pointer (some ⟨M, 0, none⟩), .bool true, .int .i64 0] u fun e u' => e = .returned (.tuple #[]) ∧ TR A R u (l ++ ([b + k + 2, b + k + 1, b + k].map setc ++ [getc (b + k), atc 41 off, numc 0, opc 134, getc (b + k + 1), numc 0, opc 131, opc 132, setc (b + k + 1), getc (b + k + 1), getc (b + k + 2)])) b (k + 3) u' := by
 have ew0 : IntKind.i64.wrap 0 = 0 := IntWalk.i64_in _ (by decide)
 have ew1 : IntKind.i64.wrap 1 = 1 := IntWalk.i64_in _ (by decide)
 have ew2 : IntKind.i64.wrap 2 = 2 := IntWalk.i64_in _ (by decide)
 have ew64 : IntKind.i64.wrap 64 = 64 := IntWalk.i64_in _ (by decide)
 have T := h.start
 clear h
 have hB := hM.blk
 go_enter Tryz.func42, Tryz.ntmps42
 go_wp2_with (first | ((with_reducible refine load_w ?_ 77 isAgg_asm _ rfl _ _ rfl _ _ (T.get hB hM.ne hM.nr) _ rfl ?_); (focus rfl)) | ((with_reducible refine load_w ?_ 3 isAgg_int _ rfl _ 1 rfl _ _ (T.get hB hM.ne hM.nr) _ rfl ?_); (focus rfl)) | (go_at_call 29; obtain ⟨R1, hA1, hC1, hF1⟩ := T.ex; have hM1 := hM.to hC1 hF1; refine Calls.mono (save_k A b k 3 _ R1 _ hA1 (by decide) (by omega) (by (try simp only [zP, zN, zM, zL, zH, regs_len]); omega)) ?_; clear T; rintro e u3 ⟨v, R3, rfl, hA3, hC3, hF3, hI⟩; have hM := hM1.to hC3 hF3; have hC := Chg.trans hC1 hC3 hF1; have hF := Frsh.trans hF1 hF3 hC1.size; clear hC1 hC3 hF1 hF3 hM1 hA1; have T := hA3.start; have hB := hM.blk; obtain ⟨g, c, rfl, h3⟩ := hI.three; clear hA3 hI))
 obtain ⟨hv0, hv1, hv2⟩ := h3.get T
 go_region
 clear hv0 hv1 hv2
 replace T := T.below (Below.refl _ _).drew
 try rw [em]
 generalize u3.drew = w5 at *
 simp only [Exit.then]
 go_at_K
 go_wp2_with fail
 obtain ⟨hv0, hv1, hv2⟩ := h3.get T
 have hB4 := T.get hB hM.ne hM.nr
 refine region_sp1 (LS _ #[.int .i64 ((b + k : Nat) : Int)] 3 1) 10 9 [0, 1, 2, 3, 4, 5, 6, 7, 8] rfl (by kernel_rfl) rfl rfl LS.start ?_
 simp only [opsAt, List.getElem?_cons_zero, List.getElem?_cons_succ, List.drop_succ_cons, List.drop_zero]
 repeat (first | (refine wpDA_here rfl (fun D w hS => run_ldq _ isAgg_asm _ rfl M 0 rfl (.pointer (some ⟨A, 0, none⟩)) (by rw [cell_of_row w M 0 _ _ _ (hS.get hB4)]; rfl)) ?_; simp only [Act.put, z5, z6, z7]) | (refine wpDA_here rfl (fun D w hS => run_ldq _ isAgg_int _ rfl g 0 rfl (.int .i64 ((b + k : Nat) : Int)) (cell_keep hv0 hS.bel)) ?_; simp only [Act.put, z5, z6, z7]) | (refine wpDA_pure (v := ?_) rfl (fun u => ?_) ?_; rotate_left; (focus (go_simp; (try with_reducible rfl); done)); simp only [Act.put, z5, z6, z7]))
 refine wpDA_nil ⟨fun w hS => ⟨_, _, hS.mk1, run_bi1_op _ _ rfl rfl⟩, fun s w1 hS => ?_⟩
 obtain ⟨x, rfl, hx1, hx2⟩ := hS.new s rfl
 have hb1 := hS.bel
 clear hS hv0 hv1 hv2 hB4
 go_wp2_with (first | (go_at_call 38; refine Calls.mono (TR.stepB T hb1 fun R2 h => get_k A b _ _ _ [b + k] R2 _ (h.below hb1) (IL.far h x hx1 _ _ hx2 _ _ _ rfl (vals1 (b + k))) (by (try simp only [zP, zN, zM, zL, zH, regs_len]); omega)) ?_; clear hb1; rintro e u2 ⟨rfl, T⟩) | ((with_reducible refine load_w ?_ 77 isAgg_asm _ rfl _ _ rfl _ _ (T.get hB hM.ne hM.nr) _ rfl ?_); (focus rfl)) | ((with_reducible refine load_w ?_ 3 isAgg_int _ rfl _ 1 rfl _ _ (T.get hB hM.ne hM.nr) _ rfl ?_); (focus rfl)) | (go_at_call 43; refine Calls.mono (ldop_8 _) ?_; rintro e u2 ⟨rfl, rfl⟩) | (go_at_call 39; refine Calls.mono (TR.stepM T hM fun R2 h m => mat_k M A 8 off b _ 41 0 _ R2 _ h m (by (try simp only [zP, zN, zM, zL, zH, regs_len]); omega) (by omega)) ?_; rintro e u2 ⟨rfl, T⟩) | (go_at_call 44; refine Calls.mono (TR.stepA T fun R2 h => num_k A b _ 0 _ _ [134] R2 _ (h.alloc _) (IL.one h _) (by (try simp only [zP, zN, zM, zL, zH, regs_len]); omega)) ?_; rintro e u2 ⟨rfl, T⟩) | (go_at_call 38; refine Calls.mono (TR.stepA T fun R2 h => get_k A b _ _ _ [b + k + 1] R2 _ (h.alloc _) (IL.one h _) (by (try simp only [zP, zN, zM, zL, zH, regs_len]); omega)) ?_; rintro e u2 ⟨rfl, T⟩))
 have hB4 := T.get hB hM.ne hM.nr
 refine region_sp1 (LS _ #[.int .i64 131, .int .i64 132] 3 2) 14 13 [0, 1, 2, 3, 4, 5, 6, 7, 8, 9, 10, 11, 12] rfl (by kernel_rfl) rfl rfl LS.start ?_
 simp only [opsAt, List.getElem?_cons_zero, List.getElem?_cons_succ, List.drop_succ_cons, List.drop_zero]
 repeat (first | (refine wpDA_here rfl (fun D w hS => run_ldq _ isAgg_asm _ rfl M 0 rfl (.pointer (some ⟨A, 0, none⟩)) (by rw [cell_of_row w M 0 _ _ _ (hS.get hB4)]; rfl)) ?_; simp only [Act.put, z5, z6, z7]) | (refine wpDA_call (v := .int .u64 18446744073709551615) rfl 59 ?_ (fun u => ?_) (fun D u hS => ?_) ?_; rotate_left 1; (focus (go_simp; (try with_reducible rfl); done)); (focus (refine (ones_64 _).mono ?_; rintro e u2 ⟨rfl, rfl⟩; exact ⟨rfl, hS⟩)); simp only [Act.put, z5, z6, z7]) | (refine wpDA_pure (v := ?_) rfl (fun u => ?_) ?_; rotate_left; (focus (go_simp; (try with_reducible rfl); done)); simp only [Act.put, z5, z6, z7]))
 refine wpDA_nil ⟨fun w hS => ⟨_, _, hS.mk1, run_bi2_op _ _ _ _ rfl rfl rfl⟩, fun s w1 hS => ?_⟩
 obtain ⟨x, rfl, hx1, hx2⟩ := hS.new s rfl
 have hb1 := hS.bel
 clear hS hB4
 skip
 go_wp2_with (first | (go_at_call 44; refine Calls.mono (TR.stepB T hb1 fun R2 h => num_k A b _ 0 _ _ [131, 132] R2 _ (h.below hb1) (IL.far h x hx1 _ _ hx2 _ _ _ rfl (vals2 131 132)) (by (try simp only [zP, zN, zM, zL, zH, regs_len]); omega)) ?_; clear hb1; rintro e u2 ⟨rfl, T⟩) | ((with_reducible refine load_w ?_ 77 isAgg_asm _ rfl _ _ rfl _ _ (T.get hB hM.ne hM.nr) _ rfl ?_); (focus rfl)) | (go_at_call 66; refine Calls.mono (TR.stepA T fun R2 h => set_k A b _ _ _ [b + k + 1] R2 _ (h.alloc _) (IL.one h _) (by (try simp only [zP, zN, zM, zL, zH, regs_len]); omega)) ?_; rintro e u2 ⟨rfl, T⟩))
 obtain ⟨hv0, hv1, hv2⟩ := h3.get T
 have hB4 := T.get hB hM.ne hM.nr
 refine region_sp1 (LS _ #[.int .i64 ((b + k + 1 : Nat) : Int), .int .i64 ((b + k + 2 : Nat) : Int)] 3 2) 13 12 [0, 1, 2, 3, 4, 5, 6, 7, 8, 9, 10, 11] rfl (by kernel_rfl) rfl rfl LS.start ?_
 simp only [opsAt, List.getElem?_cons_zero, List.getElem?_cons_succ, List.drop_succ_cons, List.drop_zero]
 repeat (first | (refine wpDA_here rfl (fun D w hS => run_ldq _ isAgg_asm _ rfl M 0 rfl (.pointer (some ⟨A, 0, none⟩)) (by rw [cell_of_row w M 0 _ _ _ (hS.get hB4)]; rfl)) ?_; simp only [Act.put, z5, z6, z7]) | (refine wpDA_here rfl (fun D w hS => run_ldq _ isAgg_int _ rfl g 1 rfl (.int .i64 ((b + k + 1 : Nat) : Int)) (cell_keep hv1 hS.bel)) ?_; simp only [Act.put, z5, z6, z7]) | (refine wpDA_here rfl (fun D w hS => run_ldq _ isAgg_int _ rfl g 2 rfl (.int .i64 ((b + k + 2 : Nat) : Int)) (cell_keep hv2 hS.bel)) ?_; simp only [Act.put, z5, z6, z7]) | (refine wpDA_pure (v := ?_) rfl (fun u => ?_) ?_; rotate_left; (focus (go_simp; (try with_reducible rfl); done)); simp only [Act.put, z5, z6, z7]))
 refine wpDA_nil ⟨fun w hS => ⟨_, _, hS.mk1, run_bi2_op _ _ _ _ rfl rfl rfl⟩, fun s w1 hS => ?_⟩
 obtain ⟨x2, rfl, hx3, hx4⟩ := hS.new s rfl
 have hb1 := hS.bel
 clear hS hv0 hv1 hv2 hB4
 go_wp2_with (first | (go_at_call 38; refine Calls.mono (TR.stepB T hb1 fun R2 h => get_k A b _ _ _ [b + k + 1, b + k + 2] R2 _ (h.below hb1) (IL.far h x2 hx3 _ _ hx4 _ _ _ rfl (vals2 (b + k + 1) (b + k + 2))) (by (try simp only [zP, zN, zM, zL, zH, regs_len]); omega)) ?_; clear hb1; rintro e u2 ⟨rfl, T⟩))
 first | go_end0 | ((try simp only [Exit.inBlock, Exit.then]); refine bodyPost_ret (results_none rfl _ _ _) rfl ?_)
 have := TR.trans hC hF T
 have hp : (regs (b + k) 3).reverse = [b + k + 2, b + k + 1, b + k] := by simp [regs]
 rw [hp] at this
 exact ⟨rfl, by simpa [List.append_assoc] using this⟩
set_option maxRecDepth 100000 in
theorem laneld_8_1 (M A off b k : Nat) (l : List Cel) (R : Option Nat) (u : World) (h : TA A l b k R u) (hM : MA M A 8 off R u) (h1 : l.length + 100 ≤ 1000) (h2 : off < 4294967296) (hb : b + k ≤ 1000) :
 Calls Tryz.prog 42 #[.pointer (some ⟨M, 0, none⟩), .bool true, .int .i64 1] u fun e u' => e = .returned (.tuple #[]) ∧ TR A R u (l ++ ([b + k + 2, b + k + 1, b + k].map setc ++ [getc (b + k), atc 41 off, numc 0, opc 134, getc (b + k + 2), numc 0, opc 131, opc 132, setc (b + k + 2), getc (b + k + 1), getc (b + k + 2)])) b (k + 3) u' := by
 have ew0 : IntKind.i64.wrap 0 = 0 := IntWalk.i64_in _ (by decide)
 have ew1 : IntKind.i64.wrap 1 = 1 := IntWalk.i64_in _ (by decide)
 have ew2 : IntKind.i64.wrap 2 = 2 := IntWalk.i64_in _ (by decide)
 have ew64 : IntKind.i64.wrap 64 = 64 := IntWalk.i64_in _ (by decide)
 have T := h.start
 clear h
 have hB := hM.blk
 go_enter Tryz.func42, Tryz.ntmps42
 go_wp2_with (first | ((with_reducible refine load_w ?_ 77 isAgg_asm _ rfl _ _ rfl _ _ (T.get hB hM.ne hM.nr) _ rfl ?_); (focus rfl)) | ((with_reducible refine load_w ?_ 3 isAgg_int _ rfl _ 1 rfl _ _ (T.get hB hM.ne hM.nr) _ rfl ?_); (focus rfl)) | (go_at_call 29; obtain ⟨R1, hA1, hC1, hF1⟩ := T.ex; have hM1 := hM.to hC1 hF1; refine Calls.mono (save_k A b k 3 _ R1 _ hA1 (by decide) (by omega) (by (try simp only [zP, zN, zM, zL, zH, regs_len]); omega)) ?_; clear T; rintro e u3 ⟨v, R3, rfl, hA3, hC3, hF3, hI⟩; have hM := hM1.to hC3 hF3; have hC := Chg.trans hC1 hC3 hF1; have hF := Frsh.trans hF1 hF3 hC1.size; clear hC1 hC3 hF1 hF3 hM1 hA1; have T := hA3.start; have hB := hM.blk; obtain ⟨g, c, rfl, h3⟩ := hI.three; clear hA3 hI))
 obtain ⟨hv0, hv1, hv2⟩ := h3.get T
 go_region
 clear hv0 hv1 hv2
 replace T := T.below (Below.refl _ _).drew
 try rw [em]
 generalize u3.drew = w5 at *
 simp only [Exit.then]
 go_at_K
 go_wp2_with fail
 obtain ⟨hv0, hv1, hv2⟩ := h3.get T
 have hB4 := T.get hB hM.ne hM.nr
 refine region_sp1 (LS _ #[.int .i64 ((b + k : Nat) : Int)] 3 1) 10 9 [0, 1, 2, 3, 4, 5, 6, 7, 8] rfl (by kernel_rfl) rfl rfl LS.start ?_
 simp only [opsAt, List.getElem?_cons_zero, List.getElem?_cons_succ, List.drop_succ_cons, List.drop_zero]
 repeat (first | (refine wpDA_here rfl (fun D w hS => run_ldq _ isAgg_asm _ rfl M 0 rfl (.pointer (some ⟨A, 0, none⟩)) (by rw [cell_of_row w M 0 _ _ _ (hS.get hB4)]; rfl)) ?_; simp only [Act.put, z5, z6, z7]) | (refine wpDA_here rfl (fun D w hS => run_ldq _ isAgg_int _ rfl g 0 rfl (.int .i64 ((b + k : Nat) : Int)) (cell_keep hv0 hS.bel)) ?_; simp only [Act.put, z5, z6, z7]) | (refine wpDA_pure (v := ?_) rfl (fun u => ?_) ?_; rotate_left; (focus (go_simp; (try with_reducible rfl); done)); simp only [Act.put, z5, z6, z7]))
 refine wpDA_nil ⟨fun w hS => ⟨_, _, hS.mk1, run_bi1_op _ _ rfl rfl⟩, fun s w1 hS => ?_⟩
 obtain ⟨x, rfl, hx1, hx2⟩ := hS.new s rfl
 have hb1 := hS.bel
 clear hS hv0 hv1 hv2 hB4
 go_wp2_with (first | (go_at_call 38; refine Calls.mono (TR.stepB T hb1 fun R2 h => get_k A b _ _ _ [b + k] R2 _ (h.below hb1) (IL.far h x hx1 _ _ hx2 _ _ _ rfl (vals1 (b + k))) (by (try simp only [zP, zN, zM, zL, zH, regs_len]); omega)) ?_; clear hb1; rintro e u2 ⟨rfl, T⟩) | ((with_reducible refine load_w ?_ 77 isAgg_asm _ rfl _ _ rfl _ _ (T.get hB hM.ne hM.nr) _ rfl ?_); (focus rfl)) | ((with_reducible refine load_w ?_ 3 isAgg_int _ rfl _ 1 rfl _ _ (T.get hB hM.ne hM.nr) _ rfl ?_); (focus rfl)) | (go_at_call 43; refine Calls.mono (ldop_8 _) ?_; rintro e u2 ⟨rfl, rfl⟩) | (go_at_call 39; refine Calls.mono (TR.stepM T hM fun R2 h m => mat_k M A 8 off b _ 41 0 _ R2 _ h m (by (try simp only [zP, zN, zM, zL, zH, regs_len]); omega) (by omega)) ?_; rintro e u2 ⟨rfl, T⟩) | (go_at_call 44; refine Calls.mono (TR.stepA T fun R2 h => num_k A b _ 0 _ _ [134] R2 _ (h.alloc _) (IL.one h _) (by (try simp only [zP, zN, zM, zL, zH, regs_len]); omega)) ?_; rintro e u2 ⟨rfl, T⟩) | (go_at_call 38; refine Calls.mono (TR.stepA T fun R2 h => get_k A b _ _ _ [b + k + 2] R2 _ (h.alloc _) (IL.one h _) (by (try simp only [zP, zN, zM, zL, zH, regs_len]); omega)) ?_; rintro e u2 ⟨rfl, T⟩))
 have hB4 := T.get hB hM.ne hM.nr
 refine region_sp1 (LS _ #[.int .i64 131, .int .i64 132] 3 2) 14 13 [0, 1, 2, 3, 4, 5, 6, 7, 8, 9, 10, 11, 12] rfl (by kernel_rfl) rfl rfl LS.start ?_
 simp only [opsAt, List.getElem?_cons_zero, List.getElem?_cons_succ, List.drop_succ_cons, List.drop_zero]
 repeat (first | (refine wpDA_here rfl (fun D w hS => run_ldq _ isAgg_asm _ rfl M 0 rfl (.pointer (some ⟨A, 0, none⟩)) (by rw [cell_of_row w M 0 _ _ _ (hS.get hB4)]; rfl)) ?_; simp only [Act.put, z5, z6, z7]) | (refine wpDA_call (v := .int .u64 18446744073709551615) rfl 59 ?_ (fun u => ?_) (fun D u hS => ?_) ?_; rotate_left 1; (focus (go_simp; (try with_reducible rfl); done)); (focus (refine (ones_64 _).mono ?_; rintro e u2 ⟨rfl, rfl⟩; exact ⟨rfl, hS⟩)); simp only [Act.put, z5, z6, z7]) | (refine wpDA_pure (v := ?_) rfl (fun u => ?_) ?_; rotate_left; (focus (go_simp; (try with_reducible rfl); done)); simp only [Act.put, z5, z6, z7]))
 refine wpDA_nil ⟨fun w hS => ⟨_, _, hS.mk1, run_bi2_op _ _ _ _ rfl rfl rfl⟩, fun s w1 hS => ?_⟩
 obtain ⟨x, rfl, hx1, hx2⟩ := hS.new s rfl
 have hb1 := hS.bel
 clear hS hB4
 skip
 go_wp2_with (first | (go_at_call 44; refine Calls.mono (TR.stepB T hb1 fun R2 h => num_k A b _ 0 _ _ [131, 132] R2 _ (h.below hb1) (IL.far h x hx1 _ _ hx2 _ _ _ rfl (vals2 131 132)) (by (try simp only [zP, zN, zM, zL, zH, regs_len]); omega)) ?_; clear hb1; rintro e u2 ⟨rfl, T⟩) | ((with_reducible refine load_w ?_ 77 isAgg_asm _ rfl _ _ rfl _ _ (T.get hB hM.ne hM.nr) _ rfl ?_); (focus rfl)) | (go_at_call 66; refine Calls.mono (TR.stepA T fun R2 h => set_k A b _ _ _ [b + k + 2] R2 _ (h.alloc _) (IL.one h _) (by (try simp only [zP, zN, zM, zL, zH, regs_len]); omega)) ?_; rintro e u2 ⟨rfl, T⟩))
 obtain ⟨hv0, hv1, hv2⟩ := h3.get T
 have hB4 := T.get hB hM.ne hM.nr
 refine region_sp1 (LS _ #[.int .i64 ((b + k + 1 : Nat) : Int), .int .i64 ((b + k + 2 : Nat) : Int)] 3 2) 13 12 [0, 1, 2, 3, 4, 5, 6, 7, 8, 9, 10, 11] rfl (by kernel_rfl) rfl rfl LS.start ?_
 simp only [opsAt, List.getElem?_cons_zero, List.getElem?_cons_succ, List.drop_succ_cons, List.drop_zero]
 repeat (first | (refine wpDA_here rfl (fun D w hS => run_ldq _ isAgg_asm _ rfl M 0 rfl (.pointer (some ⟨A, 0, none⟩)) (by rw [cell_of_row w M 0 _ _ _ (hS.get hB4)]; rfl)) ?_; simp only [Act.put, z5, z6, z7]) | (refine wpDA_here rfl (fun D w hS => run_ldq _ isAgg_int _ rfl g 1 rfl (.int .i64 ((b + k + 1 : Nat) : Int)) (cell_keep hv1 hS.bel)) ?_; simp only [Act.put, z5, z6, z7]) | (refine wpDA_here rfl (fun D w hS => run_ldq _ isAgg_int _ rfl g 2 rfl (.int .i64 ((b + k + 2 : Nat) : Int)) (cell_keep hv2 hS.bel)) ?_; simp only [Act.put, z5, z6, z7]) | (refine wpDA_pure (v := ?_) rfl (fun u => ?_) ?_; rotate_left; (focus (go_simp; (try with_reducible rfl); done)); simp only [Act.put, z5, z6, z7]))
 refine wpDA_nil ⟨fun w hS => ⟨_, _, hS.mk1, run_bi2_op _ _ _ _ rfl rfl rfl⟩, fun s w1 hS => ?_⟩
 obtain ⟨x2, rfl, hx3, hx4⟩ := hS.new s rfl
 have hb1 := hS.bel
 clear hS hv0 hv1 hv2 hB4
 go_wp2_with (first | (go_at_call 38; refine Calls.mono (TR.stepB T hb1 fun R2 h => get_k A b _ _ _ [b + k + 1, b + k + 2] R2 _ (h.below hb1) (IL.far h x2 hx3 _ _ hx4 _ _ _ rfl (vals2 (b + k + 1) (b + k + 2))) (by (try simp only [zP, zN, zM, zL, zH, regs_len]); omega)) ?_; clear hb1; rintro e u2 ⟨rfl, T⟩))
 first | go_end0 | ((try simp only [Exit.inBlock, Exit.then]); refine bodyPost_ret (results_none rfl _ _ _) rfl ?_)
 have := TR.trans hC hF T
 have hp : (regs (b + k) 3).reverse = [b + k + 2, b + k + 1, b + k] := by simp [regs]
 rw [hp] at this
 exact ⟨rfl, by simpa [List.append_assoc] using this⟩
end Go.Proofs.YtmfmokblmipagaaGreat
