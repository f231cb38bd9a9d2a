/-
  Texts TaQ1, TaO.
-/
import Derived.Test.YtmfmokblmipagaaGreatR19
import Derived.Test.YtmfmokblmipagaaGreatR20
set_option linter.unusedSimpArgs false
set_option linter.unusedVariables false
set_option maxHeartbeats 8000000
open Pl
section
namespace Go.Proofs.YtmfmokblmipagaaGreat
open Go.RowKit Pl
set_option maxRecDepth 100000 in
theorem laneld_1_0 (M A off b k i a mask p : Nat) (l : List Cel) (R : Option Nat) (u : World) (h : TA A l b k R u) (hM : MA M A 1 off R u) (h1 : l.length + 100 ≤ 1000) (h2 : off < 4294967296) (hb : b + k ≤ 1000) (hi : i = 0 + a) (ha : a < 8) (hp : p = 8 * a) (hmask : bits BinOp.xor IntKind.u64 (if IntKind.u64.signed = true then -1 else IntKind.u64.max) (IntKind.u64.wrap (255 * 2 ^ min p 64)) = (mask : Int)) :
 Calls Tryz.prog 42 #[.pointer (some ⟨M, 0, none⟩), .bool true, .int .i64 (i : Int)] u fun e u' => e = .returned (.tuple #[]) ∧ TR A R u (l ++ ([b + k + 2, b + k + 1, b + k].map setc ++ [getc (b + k), atc 49 off, numc p, opc 134, getc (b + k + 1), numc mask, opc 131, opc 132, setc (b + k + 1), getc (b + k + 1), getc (b + k + 2)])) b (k + 3) u' := by
 have ed : (i : Int) / 8 = 0 := by omega
 have em : (i : Int) % 8 = (a : Int) := by omega
 have ewp : IntKind.i64.wrap (8 * (a : Int)) = (p : Int) := by rw [IntWalk.i64_in _ (by omega)]; omega
 have ewu : IntKind.u64.wrap (p : Int) = (p : Int) := by rw [IntKind.wrap_u64]; omega
 have ewa : IntKind.i64.wrap (a : Int) = a := IntWalk.i64_in _ (by omega)
 have ew0 : IntKind.i64.wrap 0 = 0 := IntWalk.i64_in _ (by decide)
 have ew1 : IntKind.i64.wrap 1 = 1 := IntWalk.i64_in _ (by decide)
 have ew2 : IntKind.i64.wrap 2 = 2 := IntWalk.i64_in _ (by decide)
 have ew8 : IntKind.i64.wrap 8 = 8 := IntWalk.i64_in _ (by decide)
 have HMK := Lib.hid hmask
 clear hi hp hmask
 have T := h.start
 clear h
 have hB := hM.blk
 go_enter Tryz.func42, Tryz.ntmps42
 go_wp2_with (first | ((with_reducible refine load_w ?_ 77 isAgg_asm _ rfl _ _ rfl _ _ (T.get hB hM.ne hM.nr) _ rfl ?_); (focus rfl)) | ((with_reducible refine load_w ?_ 3 isAgg_int _ rfl _ 1 rfl _ _ (T.get hB hM.ne hM.nr) _ rfl ?_); (focus rfl)) | (go_at_call 29; obtain ⟨R1, hA1, hC1, hF1⟩ := T.ex; have hM1 := hM.to hC1 hF1; refine Calls.mono (save_k A b k 3 _ R1 _ hA1 (by decide) (by omega) (by (try simp only [zP, zN, zM, zL, zH, regs_len]); omega)) ?_; clear T; rintro e u3 ⟨v, R3, rfl, hA3, hC3, hF3, hI⟩; have hM := hM1.to hC3 hF3; have hC := Chg.trans hC1 hC3 hF1; have hF := Frsh.trans hF1 hF3 hC1.size; clear hC1 hC3 hF1 hF3 hM1 hA1; have T := hA3.start; have hB := hM.blk; obtain ⟨g, c, rfl, h3⟩ := hI.three; clear hA3 hI))
 obtain ⟨hv0, hv1, hv2⟩ := h3.get T
 go_region
 clear hv0 hv1 hv2
 replace T := T.below (Below.refl _ _).drew
 try rw [em]
 generalize u3.drew = w5 at *
 simp only [Exit.then]
 go_at_K
 go_wp2_with fail
 obtain ⟨hv0, hv1, hv2⟩ := h3.get T
 have hB4 := T.get hB hM.ne hM.nr
 refine region_sp1 (LS _ #[.int .i64 ((b + k : Nat) : Int)] 3 1) 10 9 [0, 1, 2, 3, 4, 5, 6, 7, 8] rfl (by kernel_rfl) rfl rfl LS.start ?_
 simp only [opsAt, List.getElem?_cons_zero, List.getElem?_cons_succ, List.drop_succ_cons, List.drop_zero]
 repeat (first | (refine wpDA_here rfl (fun D w hS => run_ldq _ isAgg_asm _ rfl M 0 rfl (.pointer (some ⟨A, 0, none⟩)) (by rw [cell_of_row w M 0 _ _ _ (hS.get hB4)]; rfl)) ?_; simp only [Act.put, z5, z6, z7]) | (refine wpDA_here rfl (fun D w hS => run_ldq _ isAgg_int _ rfl g 0 rfl (.int .i64 ((b + k : Nat) : Int)) (cell_keep hv0 hS.bel)) ?_; simp only [Act.put, z5, z6, z7]) | (refine wpDA_pure (v := ?_) rfl (fun u => ?_) ?_; rotate_left; (focus (go_simp; (try with_reducible rfl); done)); simp only [Act.put, z5, z6, z7]))
 refine wpDA_nil ⟨fun w hS => ⟨_, _, hS.mk1, run_bi1_op _ _ rfl rfl⟩, fun s w1 hS => ?_⟩
 obtain ⟨x, rfl, hx1, hx2⟩ := hS.new s rfl
 have hb1 := hS.bel
 clear hS hv0 hv1 hv2 hB4
 go_wp2_with (first | (go_at_call 38; refine Calls.mono (TR.stepB T hb1 fun R2 h => get_k A b _ _ _ [b + k] R2 _ (h.below hb1) (IL.far h x hx1 _ _ hx2 _ _ _ rfl (vals1 (b + k))) (by (try simp only [zP, zN, zM, zL, zH, regs_len]); omega)) ?_; clear hb1; rintro e u2 ⟨rfl, T⟩) | ((with_reducible refine load_w ?_ 77 isAgg_asm _ rfl _ _ rfl _ _ (T.get hB hM.ne hM.nr) _ rfl ?_); (focus rfl)) | ((with_reducible refine load_w ?_ 3 isAgg_int _ rfl _ 1 rfl _ _ (T.get hB hM.ne hM.nr) _ rfl ?_); (focus rfl)) | (go_at_call 43; refine Calls.mono (ldop_1 _) ?_; rintro e u2 ⟨rfl, rfl⟩) | (go_at_call 39; refine Calls.mono (TR.stepM T hM fun R2 h m => mat_k M A 1 off b _ 49 0 _ R2 _ h m (by (try simp only [zP, zN, zM, zL, zH, regs_len]); omega) (by omega)) ?_; rintro e u2 ⟨rfl, T⟩) | (go_at_call 44; refine Calls.mono (TR.stepA T fun R2 h => num_k A b _ p _ _ [134] R2 _ (h.alloc _) (IL.one h _) (by (try simp only [zP, zN, zM, zL, zH, regs_len]); omega)) ?_; rintro e u2 ⟨rfl, T⟩) | (go_at_call 38; refine Calls.mono (TR.stepA T fun R2 h => get_k A b _ _ _ [b + k + 1] R2 _ (h.alloc _) (IL.one h _) (by (try simp only [zP, zN, zM, zL, zH, regs_len]); omega)) ?_; rintro e u2 ⟨rfl, T⟩))
 have hB4 := T.get hB hM.ne hM.nr
 refine region_sp1 (LS _ #[.int .i64 131, .int .i64 132] 3 2) 14 13 [0, 1, 2, 3, 4, 5, 6, 7, 8, 9, 10, 11, 12] rfl (by kernel_rfl) rfl rfl LS.start ?_
 simp only [opsAt, List.getElem?_cons_zero, List.getElem?_cons_succ, List.drop_succ_cons, List.drop_zero]
 repeat (first | (refine wpDA_here rfl (fun D w hS => run_ldq _ isAgg_asm _ rfl M 0 rfl (.pointer (some ⟨A, 0, none⟩)) (by rw [cell_of_row w M 0 _ _ _ (hS.get hB4)]; rfl)) ?_; simp only [Act.put, z5, z6, z7]) | (refine wpDA_call (v := .int .u64 255) rfl 59 ?_ (fun u => ?_) (fun D u hS => ?_) ?_; rotate_left 1; (focus (go_simp; (try with_reducible rfl); done)); (focus (refine (ones_8 _).mono ?_; rintro e u2 ⟨rfl, rfl⟩; exact ⟨rfl, hS⟩)); simp only [Act.put, z5, z6, z7]) | (refine wpDA_pure (v := ?_) rfl (fun u => ?_) ?_; rotate_left; (focus (go_simp; (try with_reducible rfl); done)); simp only [Act.put, z5, z6, z7]))
 refine wpDA_nil ⟨fun w hS => ⟨_, _, hS.mk1, run_bi2_op _ _ _ _ rfl rfl rfl⟩, fun s w1 hS => ?_⟩
 obtain ⟨x, rfl, hx1, hx2⟩ := hS.new s rfl
 have hb1 := hS.bel
 clear hS hB4
 rw [HMK.out]
 go_wp2_with (first | (go_at_call 44; refine Calls.mono (TR.stepB T hb1 fun R2 h => num_k A b _ mask _ _ [131, 132] R2 _ (h.below hb1) (IL.far h x hx1 _ _ hx2 _ _ _ rfl (vals2 131 132)) (by (try simp only [zP, zN, zM, zL, zH, regs_len]); omega)) ?_; clear hb1; rintro e u2 ⟨rfl, T⟩) | ((with_reducible refine load_w ?_ 77 isAgg_asm _ rfl _ _ rfl _ _ (T.get hB hM.ne hM.nr) _ rfl ?_); (focus rfl)) | (go_at_call 66; refine Calls.mono (TR.stepA T fun R2 h => set_k A b _ _ _ [b + k + 1] R2 _ (h.alloc _) (IL.one h _) (by (try simp only [zP, zN, zM, zL, zH, regs_len]); omega)) ?_; rintro e u2 ⟨rfl, T⟩))
 obtain ⟨hv0, hv1, hv2⟩ := h3.get T
 have hB4 := T.get hB hM.ne hM.nr
 refine region_sp1 (LS _ #[.int .i64 ((b + k + 1 : Nat) : Int), .int .i64 ((b + k + 2 : Nat) : Int)] 3 2) 13 12 [0, 1, 2, 3, 4, 5, 6, 7, 8, 9, 10, 11] rfl (by kernel_rfl) rfl rfl LS.start ?_
 simp only [opsAt, List.getElem?_cons_zero, List.getElem?_cons_succ, List.drop_succ_cons, List.drop_zero]
 repeat (first | (refine wpDA_here rfl (fun D w hS => run_ldq _ isAgg_asm _ rfl M 0 rfl (.pointer (some ⟨A, 0, none⟩)) (by rw [cell_of_row w M 0 _ _ _ (hS.get hB4)]; rfl)) ?_; simp only [Act.put, z5, z6, z7]) | (refine wpDA_here rfl (fun D w hS => run_ldq _ isAgg_int _ rfl g 1 rfl (.int .i64 ((b + k + 1 : Nat) : Int)) (cell_keep hv1 hS.bel)) ?_; simp only [Act.put, z5, z6, z7]) | (refine wpDA_here rfl (fun D w hS => run_ldq _ isAgg_int _ rfl g 2 rfl (.int .i64 ((b + k + 2 : Nat) : Int)) (cell_keep hv2 hS.bel)) ?_; simp only [Act.put, z5, z6, z7]) | (refine wpDA_pure (v := ?_) rfl (fun u => ?_) ?_; rotate_left; (focus (go_simp; (try with_reducible rfl); done)); simp only [Act.put, z5, z6, z7]))
 refine wpDA_nil ⟨fun w hS => ⟨_, _, hS.mk1, run_bi2_op _ _ _ _ rfl rfl rfl⟩, fun s w1 hS => ?_⟩
 obtain ⟨x2, rfl, hx3, hx4⟩ := hS.new s rfl
 have hb1 := hS.bel
 clear hS hv0 hv1 hv2 hB4
 go_wp2_with (first | (go_at_call 38; refine Calls.mono (TR.stepB T hb1 fun R2 h => get_k A b _ _ _ [b + k + 1, b + k + 2] R2 _ (h.below hb1) (IL.far h x2 hx3 _ _ hx4 _ _ _ rfl (vals2 (b + k + 1) (b + k + 2))) (by (try simp only [zP, zN, zM, zL, zH, regs_len]); omega)) ?_; clear hb1; rintro e u2 ⟨rfl, T⟩))
 first | go_end0 | ((try simp only [Exit.inBlock, Exit.then]); refine bodyPost_ret (results_none rfl _ _ _) rfl ?_)
 have := TR.trans hC hF T
 have hp : (regs (b + k) 3).reverse = [b + k + 2, b + k + 1, b + k] := by simp [regs]
 rw [hp] at this
 exact ⟨rfl, by simpa [List.append_assoc] using this⟩
set_option maxRecDepth 100000 in
theorem laneld_1_1 (M A off b k i a mask p : Nat) (l : List Cel) (R : Option Nat) (u : World) (h : TA A l b k R u) (hM : MA M A 1 off R u) (h1 : l.length + 100 ≤ 1000) (h2 : off < 4294967296) (hb : b + k ≤ 1000) (hi : i = 8 + a) (ha : a < 8) (hp : p = 8 * a) (hmask : bits BinOp.xor IntKind.u64 (if IntKind.u64.signed = true then -1 else IntKind.u64.max) (IntKind.u64.wrap (255 * 2 ^ min p 64)) = (mask : Int)) :
 Calls Tryz.prog 42 #[.pointer (some ⟨M, 0, none⟩), .bool true, .int .i64 (i : Int)] u fun e u' => e = .returned (.tuple #[]) ∧ TR A R u (l ++ ([b + k + 2, b + k + 1, b + k].map setc ++ [getc (b + k), atc 49 off, numc p, opc 134, getc (b + k + 2), numc mask, opc 131, opc 132, setc (b + k + 2), getc (b + k + 1), getc (b + k + 2)])) b (k + 3) u' := by
 have ed : (i : Int) / 8 = 1 := by omega
 have em : (i : Int) % 8 = (a : Int) := by omega
 have ewp : IntKind.i64.wrap (8 * (a : Int)) = (p : Int) := by rw [IntWalk.i64_in _ (by omega)]; omega
 have ewu : IntKind.u64.wrap (p : Int) = (p : Int) := by rw [IntKind.wrap_u64]; omega
 have ewa : IntKind.i64.wrap (a : Int) = a := IntWalk.i64_in _ (by omega)
 have ew0 : IntKind.i64.wrap 0 = 0 := IntWalk.i64_in _ (by decide)
 have ew1 : IntKind.i64.wrap 1 = 1 := IntWalk.i64_in _ (by decide)
 have ew2 : IntKind.i64.wrap 2 = 2 := IntWalk.i64_in _ (by decide)
 have ew8 : IntKind.i64.wrap 8 = 8 := IntWalk.i64_in _ (by decide)
 have HMK := Lib.hid hmask
 clear hi hp hmask
 have T := h.start
 clear h
 have hB := hM.blk
 go_enter Tryz.func42, Tryz.ntmps42
 go_wp2_with (first | ((with_reducible refine load_w ?_ 77 isAgg_asm _ rfl _ _ rfl _ _ (T.get hB hM.ne hM.nr) _ rfl ?_); (focus rfl)) | ((with_reducible refine load_w ?_ 3 isAgg_int _ rfl _ 1 rfl _ _ (T.get hB hM.ne hM.nr) _ rfl ?_); (focus rfl)) | (go_at_call 29; obtain ⟨R1, hA1, hC1, hF1⟩ := T.ex; have hM1 := hM.to hC1 hF1; refine Calls.mono (save_k A b k 3 _ R1 _ hA1 (by decide) (by omega) (by (try simp only [zP, zN, zM, zL, zH, regs_len]); omega)) ?_; clear T; rintro e u3 ⟨v, R3, rfl, hA3, hC3, hF3, hI⟩; have hM := hM1.to hC3 hF3; have hC := Chg.trans hC1 hC3 hF1; have hF := Frsh.trans hF1 hF3 hC1.size; clear hC1 hC3 hF1 hF3 hM1 hA1; have T := hA3.start; have hB := hM.blk; obtain ⟨g, c, rfl, h3⟩ := hI.three; clear hA3 hI))
 obtain ⟨hv0, hv1, hv2⟩ := h3.get T
 go_region
 clear hv0 hv1 hv2
 replace T := T.below (Below.refl _ _).drew
 try rw [em]
 generalize u3.drew = w5 at *
 simp only [Exit.then]
 go_at_K
 go_wp2_with fail
 obtain ⟨hv0, hv1, hv2⟩ := h3.get T
 have hB4 := T.get hB hM.ne hM.nr
 refine region_sp1 (LS _ #[.int .i64 ((b + k : Nat) : Int)] 3 1) 10 9 [0, 1, 2, 3, 4, 5, 6, 7, 8] rfl (by kernel_rfl) rfl rfl LS.start ?_
 simp only [opsAt, List.getElem?_cons_zero, List.getElem?_cons_succ, List.drop_succ_cons, List.drop_zero]
 repeat (first | (refine wpDA_here rfl (fun D w hS => run_ldq _ isAgg_asm _ rfl M 0 rfl (.pointer (some ⟨A, 0, none⟩)) (by rw [cell_of_row w M 0 _ _ _ (hS.get hB4)]; rfl)) ?_; simp only [Act.put, z5, z6, z7]) | (refine wpDA_here rfl (fun D w hS => run_ldq _ isAgg_int _ rfl g 0 rfl (.int .i64 ((b + k : Nat) : Int)) (cell_keep hv0 hS.bel)) ?_; simp only [Act.put, z5, z6, z7]) | (refine wpDA_pure (v := ?_) rfl (fun u => ?_) ?_; rotate_left; (focus (go_simp; (try with_reducible rfl); done)); simp only [Act.put, z5, z6, z7]))
 refine wpDA_nil ⟨fun w hS => ⟨_, _, hS.mk1, run_bi1_op _ _ rfl rfl⟩, fun s w1 hS => ?_⟩
 obtain ⟨x, rfl, hx1, hx2⟩ := hS.new s rfl
 have hb1 := hS.bel
 clear hS hv0 hv1 hv2 hB4
 go_wp2_with (first | (go_at_call 38; refine Calls.mono (TR.stepB T hb1 fun R2 h => get_k A b _ _ _ [b + k] R2 _ (h.below hb1) (IL.far h x hx1 _ _ hx2 _ _ _ rfl (vals1 (b + k))) (by (try simp only [zP, zN, zM, zL, zH, regs_len]); omega)) ?_; clear hb1; rintro e u2 ⟨rfl, T⟩) | ((with_reducible refine load_w ?_ 77 isAgg_asm _ rfl _ _ rfl _ _ (T.get hB hM.ne hM.nr) _ rfl ?_); (focus rfl)) | ((with_reducible refine load_w ?_ 3 isAgg_int _ rfl _ 1 rfl _ _ (T.get hB hM.ne hM.nr) _ rfl ?_); (focus rfl)) | (go_at_call 43; refine Calls.mono (ldop_1 _) ?_; rintro e u2 ⟨rfl, rfl⟩) | (go_at_call 39; refine Calls.mono (TR.stepM T hM fun R2 h m => mat_k M A 1 off b _ 49 0 _ R2 _ h m (by (try simp only [zP, zN, zM, zL, zH, regs_len]); omega) (by omega)) ?_; rintro e u2 ⟨rfl, T⟩) | (go_at_call 44; refine Calls.mono (TR.stepA T fun R2 h => num_k A b _ p _ _ [134] R2 _ (h.alloc _) (IL.one h _) (by (try simp only [zP, zN, zM, zL, zH, regs_len]); omega)) ?_; rintro e u2 ⟨rfl, T⟩) | (go_at_call 38; refine Calls.mono (TR.stepA T fun R2 h => get_k A b _ _ _ [b + k + 2] R2 _ (h.alloc _) (IL.one h _) (by (try simp only [zP, zN, zM, zL, zH, regs_len]); omega)) ?_; rintro e u2 ⟨rfl, T⟩))
 have hB4 := T.get hB hM.ne hM.nr
 refine region_sp1 (LS _ #[.int .i64 131, .int .i64 132] 3 2) 14 13 [0, 1, 2, 3, 4, 5, 6, 7, 8, 9, 10, 11, 12] rfl (by kernel_rfl) rfl rfl LS.start ?_
 simp only [opsAt, List.getElem?_cons_zero, List.getElem?_cons_succ, List.drop_succ_cons, List.drop_zero]
 repeat (first | (refine wpDA_here rfl (fun D w hS => run_ldq _ isAgg_asm _ rfl M 0 rfl (.pointer (some ⟨A, 0, none⟩)) (by rw [cell_of_row w M 0 _ _ _ (hS.get hB4)]; rfl)) ?_; simp only [Act.put, z5, z6, z7]) | (refine wpDA_call (v := .int .u64 255) rfl 59 ?_ (fun u => ?_) (fun D u hS => ?_) ?_; rotate_left 1; (focus (go_simp; (try with_reducible rfl); done)); (focus (refine (ones_8 _).mono ?_; rintro e u2 ⟨rfl, rfl⟩; exact ⟨rfl, hS⟩)); simp only [Act.put, z5, z6, z7]) | (refine wpDA_pure (v := ?_) rfl (fun u => ?_) ?_; rotate_left; (focus (go_simp; (try with_reducible rfl); done)); simp only [Act.put, z5, z6, z7]))
 refine wpDA_nil ⟨fun w hS => ⟨_, _, hS.mk1, run_bi2_op _ _ _ _ rfl rfl rfl⟩, fun s w1 hS => ?_⟩
 obtain ⟨x, rfl, hx1, hx2⟩ := hS.new s rfl
 have hb1 := hS.bel
 clear hS hB4
 rw [HMK.out]
 go_wp2_with (first | (go_at_call 44; refine Calls.mono (TR.stepB T hb1 fun R2 h => num_k A b _ mask _ _ [131, 132] R2 _ (h.below hb1) (IL.far h x hx1 _ _ hx2 _ _ _ rfl (vals2 131 132)) (by (try simp only [zP, zN, zM, zL, zH, regs_len]); omega)) ?_; clear hb1; rintro e u2 ⟨rfl, T⟩) | ((with_reducible refine load_w ?_ 77 isAgg_asm _ rfl _ _ rfl _ _ (T.get hB hM.ne hM.nr) _ rfl ?_); (focus rfl)) | (go_at_call 66; refine Calls.mono (TR.stepA T fun R2 h => set_k A b _ _ _ [b + k + 2] R2 _ (h.alloc _) (IL.one h _) (by (try simp only [zP, zN, zM, zL, zH, regs_len]); omega)) ?_; rintro e u2 ⟨rfl, T⟩))
 obtain ⟨hv0, hv1, hv2⟩ := h3.get T
 have hB4 := T.get hB hM.ne hM.nr
 refine region_sp1 (LS _ #[.int .i64 ((b + k + 1 : Nat) : Int), .int .i64 ((b + k + 2 : Nat) : Int)] 3 2) 13 12 [0, 1, 2, 3, 4, 5, 6, 7, 8, 9, 10, 11] rfl (by kernel_rfl) rfl rfl LS.start ?_
 simp only [opsAt, List.getElem?_cons_zero, List.getElem?_cons_succ, List.drop_succ_cons, List.drop_zero]
 repeat (first | (refine wpDA_here rfl (fun D w hS => run_ldq _ isAgg_asm _ rfl M 0 rfl (.pointer (some ⟨A, 0, none⟩)) (by rw [cell_of_row w M 0 _ _ _ (hS.get hB4)]; rfl)) ?_; simp only [Act.put, z5, z6, z7]) | (refine wpDA_here rfl (fun D w hS => run_ldq _ isAgg_int _ rfl g 1 rfl (.int .i64 ((b + k + 1 : Nat) : Int)) (cell_keep hv1 hS.bel)) ?_; simp only [Act.put, z5, z6, z7]) | (refine wpDA_here rfl (fun D w hS => run_ldq _ isAgg_int _ rfl g 2 rfl (.int .i64 ((b + k + 2 : Nat) : Int)) (cell_keep hv2 hS.bel)) ?_; simp only [Act.put, z5, z6, z7]) | (refine wpDA_pure (v := ?_) rfl (fun u => ?_) ?_; rotate_left; (focus (go_simp; (try with_reducible rfl); done)); simp only [Act.put, z5, z6, z7]))
 refine wpDA_nil ⟨fun w hS => ⟨_, _, hS.mk1, run_bi2_op _ _ _ _ rfl rfl rfl⟩, fun s w1 hS => ?_⟩
 obtain ⟨x2, rfl, hx3, hx4⟩ := hS.new s rfl
 have hb1 := hS.bel
 clear hS hv0 hv1 hv2 hB4
 go_wp2_with (first | (go_at_call 38; refine Calls.mono (TR.stepB T hb1 fun R2 h => get_k A b _ _ _ [b + k + 1, b + k + 2] R2 _ (h.below hb1) (IL.far h x2 hx3 _ _ hx4 _ _ _ rfl (vals2 (b + k + 1) (b + k + 2))) (by (try simp only [zP, zN, zM, zL, zH, regs_len]); omega)) ?_; clear hb1; rintro e u2 ⟨rfl, T⟩))
 first | go_end0 | ((try simp only [Exit.inBlock, Exit.then]); refine bodyPost_ret (results_none rfl _ _ _) rfl ?_)
 have := TR.trans hC hF T
 have hp : (regs (b + k) 3).reverse = [b + k + 2, b + k + 1, b + k] := by simp [regs]
 rw [hp] at this
 exact ⟨rfl, by simpa [List.append_assoc] using this⟩
end Go.Proofs.YtmfmokblmipagaaGreat
end
section
namespace Go.Proofs.YtmfmokblmipagaaGreat
open Go.RowKit Pl
theorem IS.setM {f : FX} {w1 u u2 : World} {s : CS} (h : IS f w1 s u) {om : MObj} (hom : f.om = some om) (mm : ∀ o, f.om = some o → o.p ≠ f.G ∧ o.p ≠ f.F ∧ o.q ≠ some f.G ∧ o.q ≠ some f.F) (k : Keep (fun k => om.q = some k) u u2) (β2 : Nat → Nat) (hm : MemAt u2 (withβ om β2)) : IS f w1 { s with β := β2 } u2 := by
 obtain ⟨v, l, h1, h2, h3, h4⟩ := h.fr
 obtain ⟨m1, m2, m3, m4⟩ := mm om hom
 have hq : ∀ j, om.q = some j → j < w1.heap.size := fun j hj => h.lt.2.2 om hom j (.inr hj)
 have kr : ∀ (x : Value) (n : Nat) (xs : List Value), u.ownsRow w1.heap.size 22 1 x n xs → u2.ownsRow w1.heap.size 22 1 x n xs := fun x n xs hx => by
  refine ⟨hx.1, hx.2.imp id fun ⟨g, cap, cur, e, hB, hg, hr⟩ => ⟨g, cap, cur, e, hB, k.get hg (fun hk => by have := hq g hk; omega), hr⟩⟩
 refine ⟨⟨k.os.trans h.keep.os, k.tape.trans h.keep.tape, k.output.trans h.keep.output, Nat.le_trans h.keep.size k.size, fun j hj hS => (k.block j (Nat.lt_of_lt_of_le hj h.keep.size) (fun e => hS (.inr (.inr ⟨om, hom, e⟩)))).trans (h.keep.block j hj hS)⟩, k.get h.run m3, h.lt, ⟨v, l, k.get h1 m4, kr _ _ _ h2, kr _ _ _ h3, h4⟩, fun o ho => ?_⟩
 rw [hom] at ho
 injection ho with ho
 subst ho
 exact hm
structure SM (W : World) (om : MObj) (β2 : Nat → Nat) (E : Int) (D : Option Value) (v : World) : Prop where
 kp : Keep (fun k => om.q = some k) W v
 d0 : D = none → Below W.heap.size W v
 d1 : ∀ r, D = some r → MemAt v (withβ om β2)
theorem rstore_z (o : MObj) (w : World) (h : MemAt w o) (A s x : Nat) (hA : A < 18446744073709551616) (hs : szOk s = true) (hs8 : s ≤ 8) (hx : x < 18446744073709551616) (E : Int) (γ : Nat → Nat) (hE : E = if A + s ≤ o.n then 0 else 23) (hγ : γ = if A + s ≤ o.n then storeN o.β A x s else o.β) :
 Calls Tryz.prog 114 #[.pointer (some ⟨o.p, 0, none⟩), .int .u64 (A : Int), .int .i64 (s : Int), .int .u64 (x : Int)] w fun e w' => e = .returned (.int .i64 E) ∧ MemAt w' (withβ o γ) ∧ Keep (fun k => o.q = some k) w w' := by
 have := rstore_k o w h A (s : Int) x hx hA (by omega)
 have e1 : mayE o.n A (s : Int) = E := by
  rw [hE]
  unfold mayE
  rw [if_pos hs, Int.toNat_natCast]
 have e2 : storeB o A (s : Int) x = γ := by
  rw [hγ]
  unfold storeB mayE
  rw [if_pos hs, Int.toNat_natCast]
  split <;> simp_all
 rw [e1, e2] at this
 exact this
set_option maxRecDepth 100000 in
theorem number_st (f : FX) (cs : List Cel) (w1 : World) (F : FixAt f cs w1) (om : MObj) (hom : f.om = some om) (op a m : Nat) (x y : BitVec 64) (V L : List (BitVec 64)) (β : Nat → Nat) (lv : Value) (u : World) (h : IS f w1 ⟨V, L, β, 0⟩ u) (hl : LV w1 lv [x, y] u) (ho : stC op ≠ 0) (hm : m < 8589934592) (E : Int) (γ : Nat → Nat)
 (hE : E = if x.toNat % 4294967296 + m + stC op ≤ om.n then 0 else 23) (hγ : γ = if x.toNat % 4294967296 + m + stC op ≤ om.n then storeN β (x.toNat % 4294967296 + m) y.toNat (stC op) else β) :
 Calls Tryz.prog 108 #[.pointer (some ⟨f.G, 0, none⟩), .pointer (some ⟨f.F, 0, none⟩), .agg (celR ⟨op, a, m⟩).toArray, lv] u fun e u' => e = .returned (.tuple #[]) ∧ IS f w1 ⟨V, L, γ, E⟩ u' := by
 obtain ⟨z, hz⟩ : ∃ z : Int, z = (op : Int) := ⟨_, rfl⟩
 obtain ⟨s, hs⟩ : ∃ s, s = stC op := ⟨_, rfl⟩
 obtain ⟨A, hA⟩ : ∃ A, A = x.toNat % 4294967296 + m := ⟨_, rfl⟩
 have hsz := stC_sz ho
 have HS := fun W => size18_st op ho W
 rw [← hs] at hsz HS hE hγ
 rw [← hA] at hE hγ
 rw [← hz] at HS
 replace HS := Lib.hid HS
 have HB : ∀ W, MemAt W (withβ om β) → Calls Tryz.prog 114 #[.pointer (some ⟨om.p, 0, none⟩), .int .u64 (A : Int), .int .i64 (s : Int), .int .u64 (y.toNat : Int)] W fun e w' => e = .returned (.int .i64 E) ∧ MemAt w' (withβ om γ) ∧ Keep (fun k => om.q = some k) W w' := fun W hW =>
  rstore_z (withβ om β) W hW A s y.toNat (by omega) hsz.1 hsz.2 y.isLt E γ hE hγ
 replace HB := Lib.hid HB
 have hop : op = 55 ∨ op = 60 ∨ op = 61 ∨ op = 62 := by
  unfold stC at ho
  repeat (first | omega | (split at ho; omega))
 have hcl : (celR ⟨op, a, m⟩).toArray = #[.int .i64 z, .int .i64 (a : Int), .int .u64 (m : Int)] := by rw [hz]; rfl
 rw [hcl]
 have d1 : decide (54 ≤ z) = true := decide_eq_true (by omega)
 have d3 : decide (z ≤ 62) = true := decide_eq_true (by omega)
 have e1 : IntKind.u64.wrap ((x.toNat : Int) % 4294967296 + (m : Int)) = (A : Int) := by rw [IntKind.wrap_u64]; omega
 have e2 : IntKind.u64.wrap ((x.toNat : Int).tmod 4294967296 + (m : Int)) = (A : Int) := by rw [Int.tmod_eq_emod_of_nonneg (by omega)]; exact e1
 have FF := Lib.hid F
 have HI := Lib.hid h
 have HOM := Lib.hid hom
 obtain ⟨g, c, cur, rfl, hg1, hg2, hg3⟩ := hl.ex
 have hx := hg3 0 x rfl
 have hy := hg3 1 y rfl
 clear h hl hg3 hz hE hγ ho hop hcl F hom hs hA hsz
 go_enter Tryz.func108, Tryz.ntmps108
 go_upto_region 3 with fail
 obtain ⟨W, hW⟩ : ∃ W, W = u.alloc (.cells #[.int .i64 z, .int .i64 (a : Int), .int .u64 (m : Int)] 130) := ⟨_, rfl⟩
 have hC : W.heap[u.heap.size]? = some (.cells #[.int .i64 z, .int .i64 (a : Int), .int .u64 (m : Int)] 130 (0, 0)) := hW ▸ heap_alloc_new _ _
 have hg4 : W.heap[g]? = some (.cells cur 22 (0, 0)) := hW ▸ blk_alloc hg2 _
 have hIW : Hid (IS f w1 ⟨V, L, β, 0⟩ W) := hW ▸ HI.out.below ((Below.refl _ _).alloc (Nat.le_refl _) _)
 have hrun := hIW.out.run
 have hst : ∃ sc, W.heap[f.sb]? = some (.cells sc 73 (0, 0)) ∧ sc[11]? = some (.pointer (some ⟨om.p, 0, none⟩)) := by
  obtain ⟨sc, h1, h2, h3⟩ := FF.out.st
  rw [HOM.out] at h2
  exact ⟨sc, hIW.out.keep.get h1 FF.out.ns, h2⟩
 obtain ⟨sc, hst, hsc⟩ := hst
 have qlt : ∀ j, om.q = some j → j < w1.heap.size := fun j hj => HI.out.lt.2.2 om HOM.out j (.inr hj)
 have hus : w1.heap.size ≤ u.heap.size := HI.out.keep.size
 have nG : ¬ om.q = some f.G := (FF.out.mm om HOM.out).2.2.1
 have nS : ¬ om.q = some f.sb := fun e => FF.out.ns (.inr (.inr ⟨om, HOM.out, e⟩))
 have ng : ¬ om.q = some g := fun e => by have := qlt g e; omega
 have nC : ¬ om.q = some u.heap.size := fun e => by have := qlt _ e; omega
 have QLT := Lib.hid qlt
 rw [← hW]
 clear hW hg2 qlt
 refine region_call (SM W om γ E) (fun v => v = .int .i64 E) 24 21 [0, 1, 2, 3, 4, 5, 6, 7, 8, 9, 10, 11, 12, 13, 14, 15, 16, 17, 18, 19, 20] [22, 23] rfl (by kernel_rfl) rfl rfl ⟨Keep.of_below (Below.refl _ _).drew, fun _ => (Below.refl _ _).drew, fun r h => by simp at h⟩ ?_
 simp only [opsAt, List.getElem?_cons_zero, List.getElem?_cons_succ, List.drop_succ_cons, List.drop_zero]
 repeat (first | (refine wpDA_here rfl (fun D v hS => run_ldq _ isAgg_int _ rfl u.heap.size 0 rfl (.int .i64 z) (by rw [cell_of_row v u.heap.size 0 _ _ _ (hS.kp.get hC nC)]; rfl)) ?_; simp only [Act.put, z5, z6, z7]) | (refine wpDA_here rfl (fun D v hS => run_ldq _ isAgg_u7 _ rfl u.heap.size 2 rfl (.int .u64 (m : Int)) (by rw [cell_of_row v u.heap.size 2 _ _ _ (hS.kp.get hC nC)]; rfl)) ?_; simp only [Act.put, z5, z6, z7]) | (refine wpDA_here rfl (fun D v hS => run_ldq _ isAgg_u7 _ rfl g 0 rfl (.int .u64 (x.toNat : Int)) (by rw [cell_of_row v g 0 _ _ _ (hS.kp.get hg4 ng)]; exact hx)) ?_; simp only [Act.put, z5, z6, z7]) | (refine wpDA_here rfl (fun D v hS => run_ldq _ isAgg_u7 _ rfl g 1 rfl (.int .u64 (y.toNat : Int)) (by rw [cell_of_row v g 1 _ _ _ (hS.kp.get hg4 ng)]; exact hy)) ?_; simp only [Act.put, z5, z6, z7]) | (refine wpDA_here rfl (fun D v hS => run_ldq _ isAgg_pst _ rfl f.G 2 rfl (.pointer (some ⟨f.sb, 0, none⟩)) (by rw [cell_of_row v f.G 2 _ _ _ (hS.kp.get hrun nG)]; rfl)) ?_; simp only [Act.put, z5, z6, z7]) | (refine wpDA_here rfl (fun D v hS => run_ldq _ isAgg_pmem _ rfl f.sb 11 rfl (.pointer (some ⟨om.p, 0, none⟩)) (by rw [cell_of_row v f.sb 11 _ _ _ (hS.kp.get hst nS)]; exact hsc)) ?_; simp only [Act.put, z5, z6, z7]) | (refine wpDA_call (v := .int .i64 (s : Int)) rfl 115 ?_ (fun u => ?_) (fun D u hS => ?_) ?_; rotate_left 1; (focus (go_simp; (try with_reducible rfl); done)); (focus (refine (HS.out _).mono ?_; rintro e u2 ⟨rfl, hb⟩; exact ⟨rfl, hS.kp.trans (Keep.of_below hb), fun h => (hS.d0 h).trans (hb.mono (hS.d0 h).size), fun r h => (hS.d1 r h).below hb⟩)); simp only [Act.put, z5, z6, z7]) | (refine wpDA_pure (v := ?_) rfl (fun u => ?_) ?_; rotate_left; (focus (go_simp; (try with_reducible rfl); done)); simp only [Act.put, z5, z6, z7]))
 refine wpDA_nil ⟨114, #[.pointer (some ⟨om.p, 0, none⟩), .int .u64 (A : Int), .int .i64 (s : Int), .int .u64 (y.toNat : Int)], fun v => ?_, fun v hS => ?_, ?_⟩
 ·go_simp
  try with_reducible rfl
 ·refine (HB.out v ((hIW.out.below (hS.d0 rfl)).mem _ HOM.out)).mono ?_
  rintro e u2 ⟨rfl, hm2, hk2⟩
  exact ⟨_, rfl, ⟨hS.kp.trans hk2, fun h => by simp at h, fun r h => hm2⟩, rfl⟩
 rintro v rfl
 simp only [opsAt, List.getElem?_cons_zero, List.getElem?_cons_succ, List.drop_succ_cons, List.drop_zero]
 simp only [Act.put, z5, z6, z7]
 repeat (refine wpDA_pure (v := ?_) rfl (fun u => ?_) ?_; rotate_left; (focus (go_simp; (try with_reducible rfl); done)); simp only [Act.put, z5, z6, z7])
 refine wpDA_nil fun w5 hS => ?_
 have hI5 := hIW.out.setM HOM.out FF.out.mm hS.kp γ (hS.d1 _ rfl)
 have hz5 := frozen_of_row w5 f.G 7 _ _ hI5.run
 have hc5 : w5.cell? ⟨f.G, 7, none⟩ = some (.int .i64 0) := by rw [cell_of_row w5 f.G 7 _ _ _ hI5.run]; rfl
 have HI5 := Lib.hid hI5
 clear hI5 hS hrun hst hsc
 go_wp2_with fail
 first | go_end0 | ((try simp only [Exit.inBlock, Exit.then]); refine bodyPost_ret (results_none rfl _ _ _) rfl ?_)
 exact ⟨rfl, HI5.out.setE FF.out.gf FF.out.mm E⟩
end Go.Proofs.YtmfmokblmipagaaGreat
end
