/-
  Texts TaP, TaJ, TaK.
-/
import Derived.Test.YtmfmokblmipagaaGreatR18
import Derived.Deep.Cut
set_option linter.unusedSimpArgs false
set_option linter.unusedVariables false
set_option maxHeartbeats 8000000
open Pl
section
namespace Go.Proofs.YtmfmokblmipagaaGreat
open Go.RowKit Pl
set_option maxRecDepth 100000 in
theorem splat_1 (M A off b k : Nat) (l : List Cel) (R : Option Nat) (u : World) (h : TA A l b k R u) (hM : MA M A 1 off R u) (h1 : l.length + 100 ≤ 1000) (h2 : off < 4294967296) (hb : b + k ≤ 1000) :
 Calls Tryz.prog 41 #[.pointer (some ⟨M, 0, none⟩)] u fun e u' => e = .returned (.tuple #[]) ∧ TR A R u (l ++ atc 49 off :: numc 72340172838076673 :: opc 126 :: [setc (b + k), getc (b + k), getc (b + k)]) b (k + 1) u' := by
 have T := h.start
 clear h
 have hB := hM.blk
 go_enter Tryz.func41, Tryz.ntmps41
 go_wp2_with (first | ((with_reducible refine load_w ?_ 77 isAgg_asm _ rfl _ _ rfl _ _ (T.get hB hM.ne hM.nr) _ rfl ?_); (focus rfl)) | ((with_reducible refine load_w ?_ 3 isAgg_int _ rfl _ 1 rfl _ _ (T.get hB hM.ne hM.nr) _ rfl ?_); (focus rfl)) | (go_at_call 43; refine Calls.mono (ldop_1 _) ?_; rintro e u2 ⟨rfl, rfl⟩) | (go_at_call 39; refine Calls.mono (TR.stepM T hM fun R2 h m => mat_k M A 1 off b _ 49 0 _ R2 _ h m (by (try simp only [zP, zN, zM, zL, zH, regs_len]); omega) (by omega)) ?_; rintro e u2 ⟨rfl, T⟩) | (go_at_call 29; obtain ⟨R1, hA1, hC1, hF1⟩ := T.ex; have hM1 := hM.to hC1 hF1; refine Calls.mono (save_k A b k 1 _ R1 _ hA1 (by decide) (by omega) (by (try simp only [zP, zN, zM, zL, zH, regs_len]); omega)) ?_; clear T; rintro e u3 ⟨v, R3, rfl, hA3, hC3, hF3, hI⟩; have hM := hM1.to hC3 hF3; have hC := Chg.trans hC1 hC3 hF1; have hF := Frsh.trans hF1 hF3 hC1.size; clear hC1 hC3 hF1 hF3 hM1 hA1; have T := hA3.start; have hB := hM.blk; obtain ⟨g, c, e, hc⟩ := hI.at T 0 _ (regs_0 _ _); rw [regs_len] at e; subst e; clear hA3) | (go_at_call 38; refine Calls.mono (TR.stepA T fun R2 h => get_k A b _ _ _ [b + k, b + k] R2 _ (h.alloc _) (IL.two h _ _) (by (try simp only [zP, zN, zM, zL, zH, regs_len]); omega)) ?_; rintro e u2 ⟨rfl, T⟩))
 have hB4 := T.get hB hM.ne hM.nr
 have e1 : IntKind.i64.wrap 8 = 8 := IntWalk.i64_in _ (by decide)
 refine region_sp1 (LS _ #[.int .i64 126] 3 1) 13 12 [0, 1, 2, 3, 4, 5, 6, 7, 8, 9, 10, 11] rfl (by kernel_rfl) rfl rfl LS.start ?_
 simp only [opsAt, List.getElem?_cons_zero, List.getElem?_cons_succ, List.drop_succ_cons, List.drop_zero]
 repeat (first | (refine wpDA_here rfl (fun D w hS => run_ldq _ isAgg_asm _ rfl M 0 rfl (.pointer (some ⟨A, 0, none⟩)) (by rw [cell_of_row w M 0 _ _ _ (hS.get hB4)]; rfl)) ?_; simp only [Act.put, z5, z6, z7]) | (refine wpDA_here rfl (fun D w hS => run_ldq _ isAgg_int _ rfl M 1 rfl (.int .i64 1) (by rw [cell_of_row w M 1 _ _ _ (hS.get hB4)]; rfl)) ?_; simp only [Act.put, z5, z6, z7]) | (refine wpDA_call (v := .int .u64 72340172838076673) rfl 55 ?_ (fun u => ?_) (fun D u hS => ?_) ?_; rotate_left 1; (focus (go_simp; (try with_reducible rfl); done)); (focus (refine (rep_8_1 _).mono ?_; rintro e u2 ⟨rfl, rfl⟩; exact ⟨rfl, hS⟩)); simp only [Act.put, z5, z6, z7]) | (refine wpDA_pure (v := ?_) rfl (fun u => ?_) ?_; rotate_left; (focus (go_simp; (try with_reducible rfl); done)); simp only [Act.put, z5, z6, z7]))
 refine wpDA_nil ⟨fun w hS => ⟨_, _, hS.mk1, run_bi1_op _ _ rfl rfl⟩, fun s w1 hS => ?_⟩
 obtain ⟨x, rfl, hx1, hx2⟩ := hS.new s rfl
 have hb1 := hS.bel
 clear hS
 go_wp2_with (first | (go_at_call 44; refine Calls.mono (TR.stepB T hb1 fun R2 h => num_k A b _ 72340172838076673 _ _ [126] R2 _ (h.below hb1) (IL.far h x hx1 _ _ hx2 _ _ _ rfl (vals1 126)) (by (try simp only [zP, zN, zM, zL, zH, regs_len]); omega)) ?_; clear hb1; rintro e u2 ⟨rfl, T⟩) | ((with_reducible refine load_w ?_ 77 isAgg_asm _ rfl _ _ rfl _ _ (T.get hB hM.ne hM.nr) _ rfl ?_); (focus rfl)) | (go_at_call 29; obtain ⟨R1, hA1, hC1, hF1⟩ := T.ex; have hM1 := hM.to hC1 hF1; refine Calls.mono (save_k A b k 1 _ R1 _ hA1 (by decide) (by omega) (by (try simp only [zP, zN, zM, zL, zH, regs_len]); omega)) ?_; clear T; rintro e u3 ⟨v, R3, rfl, hA3, hC3, hF3, hI⟩; have hM := hM1.to hC3 hF3; have hC := Chg.trans hC1 hC3 hF1; have hF := Frsh.trans hF1 hF3 hC1.size; clear hC1 hC3 hF1 hF3 hM1 hA1; have T := hA3.start; have hB := hM.blk; obtain ⟨g, c, e, hc⟩ := hI.at T 0 _ (regs_0 _ _); rw [regs_len] at e; subst e; clear hA3) | (go_at_call 38; refine Calls.mono (TR.stepA T fun R2 h => get_k A b _ _ _ [b + k, b + k] R2 _ (h.alloc _) (IL.two h _ _) (by (try simp only [zP, zN, zM, zL, zH, regs_len]); omega)) ?_; rintro e u2 ⟨rfl, T⟩))
 go_end0
 have := TR.trans hC hF T
 have hp : regs (b + k) 1 = [b + k] := by simp [regs]
 rw [hp] at this
 exact ⟨rfl, by simpa [List.append_assoc] using this⟩
set_option maxRecDepth 100000 in
theorem splat_2 (M A off b k : Nat) (l : List Cel) (R : Option Nat) (u : World) (h : TA A l b k R u) (hM : MA M A 2 off R u) (h1 : l.length + 100 ≤ 1000) (h2 : off < 4294967296) (hb : b + k ≤ 1000) :
 Calls Tryz.prog 41 #[.pointer (some ⟨M, 0, none⟩)] u fun e u' => e = .returned (.tuple #[]) ∧ TR A R u (l ++ atc 51 off :: numc 281479271743489 :: opc 126 :: [setc (b + k), getc (b + k), getc (b + k)]) b (k + 1) u' := by
 have T := h.start
 clear h
 have hB := hM.blk
 go_enter Tryz.func41, Tryz.ntmps41
 go_wp2_with (first | ((with_reducible refine load_w ?_ 77 isAgg_asm _ rfl _ _ rfl _ _ (T.get hB hM.ne hM.nr) _ rfl ?_); (focus rfl)) | ((with_reducible refine load_w ?_ 3 isAgg_int _ rfl _ 1 rfl _ _ (T.get hB hM.ne hM.nr) _ rfl ?_); (focus rfl)) | (go_at_call 43; refine Calls.mono (ldop_2 _) ?_; rintro e u2 ⟨rfl, rfl⟩) | (go_at_call 39; refine Calls.mono (TR.stepM T hM fun R2 h m => mat_k M A 2 off b _ 51 0 _ R2 _ h m (by (try simp only [zP, zN, zM, zL, zH, regs_len]); omega) (by omega)) ?_; rintro e u2 ⟨rfl, T⟩) | (go_at_call 29; obtain ⟨R1, hA1, hC1, hF1⟩ := T.ex; have hM1 := hM.to hC1 hF1; refine Calls.mono (save_k A b k 1 _ R1 _ hA1 (by decide) (by omega) (by (try simp only [zP, zN, zM, zL, zH, regs_len]); omega)) ?_; clear T; rintro e u3 ⟨v, R3, rfl, hA3, hC3, hF3, hI⟩; have hM := hM1.to hC3 hF3; have hC := Chg.trans hC1 hC3 hF1; have hF := Frsh.trans hF1 hF3 hC1.size; clear hC1 hC3 hF1 hF3 hM1 hA1; have T := hA3.start; have hB := hM.blk; obtain ⟨g, c, e, hc⟩ := hI.at T 0 _ (regs_0 _ _); rw [regs_len] at e; subst e; clear hA3) | (go_at_call 38; refine Calls.mono (TR.stepA T fun R2 h => get_k A b _ _ _ [b + k, b + k] R2 _ (h.alloc _) (IL.two h _ _) (by (try simp only [zP, zN, zM, zL, zH, regs_len]); omega)) ?_; rintro e u2 ⟨rfl, T⟩))
 have hB4 := T.get hB hM.ne hM.nr
 have e1 : IntKind.i64.wrap 16 = 16 := IntWalk.i64_in _ (by decide)
 refine region_sp1 (LS _ #[.int .i64 126] 3 1) 13 12 [0, 1, 2, 3, 4, 5, 6, 7, 8, 9, 10, 11] rfl (by kernel_rfl) rfl rfl LS.start ?_
 simp only [opsAt, List.getElem?_cons_zero, List.getElem?_cons_succ, List.drop_succ_cons, List.drop_zero]
 repeat (first | (refine wpDA_here rfl (fun D w hS => run_ldq _ isAgg_asm _ rfl M 0 rfl (.pointer (some ⟨A, 0, none⟩)) (by rw [cell_of_row w M 0 _ _ _ (hS.get hB4)]; rfl)) ?_; simp only [Act.put, z5, z6, z7]) | (refine wpDA_here rfl (fun D w hS => run_ldq _ isAgg_int _ rfl M 1 rfl (.int .i64 2) (by rw [cell_of_row w M 1 _ _ _ (hS.get hB4)]; rfl)) ?_; simp only [Act.put, z5, z6, z7]) | (refine wpDA_call (v := .int .u64 281479271743489) rfl 55 ?_ (fun u => ?_) (fun D u hS => ?_) ?_; rotate_left 1; (focus (go_simp; (try with_reducible rfl); done)); (focus (refine (rep_16_1 _).mono ?_; rintro e u2 ⟨rfl, rfl⟩; exact ⟨rfl, hS⟩)); simp only [Act.put, z5, z6, z7]) | (refine wpDA_pure (v := ?_) rfl (fun u => ?_) ?_; rotate_left; (focus (go_simp; (try with_reducible rfl); done)); simp only [Act.put, z5, z6, z7]))
 refine wpDA_nil ⟨fun w hS => ⟨_, _, hS.mk1, run_bi1_op _ _ rfl rfl⟩, fun s w1 hS => ?_⟩
 obtain ⟨x, rfl, hx1, hx2⟩ := hS.new s rfl
 have hb1 := hS.bel
 clear hS
 go_wp2_with (first | (go_at_call 44; refine Calls.mono (TR.stepB T hb1 fun R2 h => num_k A b _ 281479271743489 _ _ [126] R2 _ (h.below hb1) (IL.far h x hx1 _ _ hx2 _ _ _ rfl (vals1 126)) (by (try simp only [zP, zN, zM, zL, zH, regs_len]); omega)) ?_; clear hb1; rintro e u2 ⟨rfl, T⟩) | ((with_reducible refine load_w ?_ 77 isAgg_asm _ rfl _ _ rfl _ _ (T.get hB hM.ne hM.nr) _ rfl ?_); (focus rfl)) | (go_at_call 29; obtain ⟨R1, hA1, hC1, hF1⟩ := T.ex; have hM1 := hM.to hC1 hF1; refine Calls.mono (save_k A b k 1 _ R1 _ hA1 (by decide) (by omega) (by (try simp only [zP, zN, zM, zL, zH, regs_len]); omega)) ?_; clear T; rintro e u3 ⟨v, R3, rfl, hA3, hC3, hF3, hI⟩; have hM := hM1.to hC3 hF3; have hC := Chg.trans hC1 hC3 hF1; have hF := Frsh.trans hF1 hF3 hC1.size; clear hC1 hC3 hF1 hF3 hM1 hA1; have T := hA3.start; have hB := hM.blk; obtain ⟨g, c, e, hc⟩ := hI.at T 0 _ (regs_0 _ _); rw [regs_len] at e; subst e; clear hA3) | (go_at_call 38; refine Calls.mono (TR.stepA T fun R2 h => get_k A b _ _ _ [b + k, b + k] R2 _ (h.alloc _) (IL.two h _ _) (by (try simp only [zP, zN, zM, zL, zH, regs_len]); omega)) ?_; rintro e u2 ⟨rfl, T⟩))
 go_end0
 have := TR.trans hC hF T
 have hp : regs (b + k) 1 = [b + k] := by simp [regs]
 rw [hp] at this
 exact ⟨rfl, by simpa [List.append_assoc] using this⟩
set_option maxRecDepth 100000 in
theorem splat_4 (M A off b k : Nat) (l : List Cel) (R : Option Nat) (u : World) (h : TA A l b k R u) (hM : MA M A 4 off R u) (h1 : l.length + 100 ≤ 1000) (h2 : off < 4294967296) (hb : b + k ≤ 1000) :
 Calls Tryz.prog 41 #[.pointer (some ⟨M, 0, none⟩)] u fun e u' => e = .returned (.tuple #[]) ∧ TR A R u (l ++ atc 53 off :: numc 4294967297 :: opc 126 :: [setc (b + k), getc (b + k), getc (b + k)]) b (k + 1) u' := by
 have T := h.start
 clear h
 have hB := hM.blk
 go_enter Tryz.func41, Tryz.ntmps41
 go_wp2_with (first | ((with_reducible refine load_w ?_ 77 isAgg_asm _ rfl _ _ rfl _ _ (T.get hB hM.ne hM.nr) _ rfl ?_); (focus rfl)) | ((with_reducible refine load_w ?_ 3 isAgg_int _ rfl _ 1 rfl _ _ (T.get hB hM.ne hM.nr) _ rfl ?_); (focus rfl)) | (go_at_call 43; refine Calls.mono (ldop_4 _) ?_; rintro e u2 ⟨rfl, rfl⟩) | (go_at_call 39; refine Calls.mono (TR.stepM T hM fun R2 h m => mat_k M A 4 off b _ 53 0 _ R2 _ h m (by (try simp only [zP, zN, zM, zL, zH, regs_len]); omega) (by omega)) ?_; rintro e u2 ⟨rfl, T⟩) | (go_at_call 29; obtain ⟨R1, hA1, hC1, hF1⟩ := T.ex; have hM1 := hM.to hC1 hF1; refine Calls.mono (save_k A b k 1 _ R1 _ hA1 (by decide) (by omega) (by (try simp only [zP, zN, zM, zL, zH, regs_len]); omega)) ?_; clear T; rintro e u3 ⟨v, R3, rfl, hA3, hC3, hF3, hI⟩; have hM := hM1.to hC3 hF3; have hC := Chg.trans hC1 hC3 hF1; have hF := Frsh.trans hF1 hF3 hC1.size; clear hC1 hC3 hF1 hF3 hM1 hA1; have T := hA3.start; have hB := hM.blk; obtain ⟨g, c, e, hc⟩ := hI.at T 0 _ (regs_0 _ _); rw [regs_len] at e; subst e; clear hA3) | (go_at_call 38; refine Calls.mono (TR.stepA T fun R2 h => get_k A b _ _ _ [b + k, b + k] R2 _ (h.alloc _) (IL.two h _ _) (by (try simp only [zP, zN, zM, zL, zH, regs_len]); omega)) ?_; rintro e u2 ⟨rfl, T⟩))
 have hB4 := T.get hB hM.ne hM.nr
 have e1 : IntKind.i64.wrap 32 = 32 := IntWalk.i64_in _ (by decide)
 refine region_sp1 (LS _ #[.int .i64 126] 3 1) 13 12 [0, 1, 2, 3, 4, 5, 6, 7, 8, 9, 10, 11] rfl (by kernel_rfl) rfl rfl LS.start ?_
 simp only [opsAt, List.getElem?_cons_zero, List.getElem?_cons_succ, List.drop_succ_cons, List.drop_zero]
 repeat (first | (refine wpDA_here rfl (fun D w hS => run_ldq _ isAgg_asm _ rfl M 0 rfl (.pointer (some ⟨A, 0, none⟩)) (by rw [cell_of_row w M 0 _ _ _ (hS.get hB4)]; rfl)) ?_; simp only [Act.put, z5, z6, z7]) | (refine wpDA_here rfl (fun D w hS => run_ldq _ isAgg_int _ rfl M 1 rfl (.int .i64 4) (by rw [cell_of_row w M 1 _ _ _ (hS.get hB4)]; rfl)) ?_; simp only [Act.put, z5, z6, z7]) | (refine wpDA_call (v := .int .u64 4294967297) rfl 55 ?_ (fun u => ?_) (fun D u hS => ?_) ?_; rotate_left 1; (focus (go_simp; (try with_reducible rfl); done)); (focus (refine (rep_32_1 _).mono ?_; rintro e u2 ⟨rfl, rfl⟩; exact ⟨rfl, hS⟩)); simp only [Act.put, z5, z6, z7]) | (refine wpDA_pure (v := ?_) rfl (fun u => ?_) ?_; rotate_left; (focus (go_simp; (try with_reducible rfl); done)); simp only [Act.put, z5, z6, z7]))
 refine wpDA_nil ⟨fun w hS => ⟨_, _, hS.mk1, run_bi1_op _ _ rfl rfl⟩, fun s w1 hS => ?_⟩
 obtain ⟨x, rfl, hx1, hx2⟩ := hS.new s rfl
 have hb1 := hS.bel
 clear hS
 go_wp2_with (first | (go_at_call 44; refine Calls.mono (TR.stepB T hb1 fun R2 h => num_k A b _ 4294967297 _ _ [126] R2 _ (h.below hb1) (IL.far h x hx1 _ _ hx2 _ _ _ rfl (vals1 126)) (by (try simp only [zP, zN, zM, zL, zH, regs_len]); omega)) ?_; clear hb1; rintro e u2 ⟨rfl, T⟩) | ((with_reducible refine load_w ?_ 77 isAgg_asm _ rfl _ _ rfl _ _ (T.get hB hM.ne hM.nr) _ rfl ?_); (focus rfl)) | (go_at_call 29; obtain ⟨R1, hA1, hC1, hF1⟩ := T.ex; have hM1 := hM.to hC1 hF1; refine Calls.mono (save_k A b k 1 _ R1 _ hA1 (by decide) (by omega) (by (try simp only [zP, zN, zM, zL, zH, regs_len]); omega)) ?_; clear T; rintro e u3 ⟨v, R3, rfl, hA3, hC3, hF3, hI⟩; have hM := hM1.to hC3 hF3; have hC := Chg.trans hC1 hC3 hF1; have hF := Frsh.trans hF1 hF3 hC1.size; clear hC1 hC3 hF1 hF3 hM1 hA1; have T := hA3.start; have hB := hM.blk; obtain ⟨g, c, e, hc⟩ := hI.at T 0 _ (regs_0 _ _); rw [regs_len] at e; subst e; clear hA3) | (go_at_call 38; refine Calls.mono (TR.stepA T fun R2 h => get_k A b _ _ _ [b + k, b + k] R2 _ (h.alloc _) (IL.two h _ _) (by (try simp only [zP, zN, zM, zL, zH, regs_len]); omega)) ?_; rintro e u2 ⟨rfl, T⟩))
 go_end0
 have := TR.trans hC hF T
 have hp : regs (b + k) 1 = [b + k] := by simp [regs]
 rw [hp] at this
 exact ⟨rfl, by simpa [List.append_assoc] using this⟩
set_option maxRecDepth 100000 in
theorem splat_8 (M A off b k : Nat) (l : List Cel) (R : Option Nat) (u : World) (h : TA A l b k R u) (hM : MA M A 8 off R u) (h1 : l.length + 100 ≤ 1000) (h2 : off < 4294967296) (hb : b + k ≤ 1000) :
 Calls Tryz.prog 41 #[.pointer (some ⟨M, 0, none⟩)] u fun e u' => e = .returned (.tuple #[]) ∧ TR A R u (l ++ atc 41 off :: [setc (b + k), getc (b + k), getc (b + k)]) b (k + 1) u' := by
 have T := h.start
 clear h
 have hB := hM.blk
 go_enter Tryz.func41, Tryz.ntmps41
 go_wp2_with (first | ((with_reducible refine load_w ?_ 77 isAgg_asm _ rfl _ _ rfl _ _ (T.get hB hM.ne hM.nr) _ rfl ?_); (focus rfl)) | ((with_reducible refine load_w ?_ 3 isAgg_int _ rfl _ 1 rfl _ _ (T.get hB hM.ne hM.nr) _ rfl ?_); (focus rfl)) | (go_at_call 43; refine Calls.mono (ldop_8 _) ?_; rintro e u2 ⟨rfl, rfl⟩) | (go_at_call 39; refine Calls.mono (TR.stepM T hM fun R2 h m => mat_k M A 8 off b _ 41 0 _ R2 _ h m (by (try simp only [zP, zN, zM, zL, zH, regs_len]); omega) (by omega)) ?_; rintro e u2 ⟨rfl, T⟩) | (go_at_call 29; obtain ⟨R1, hA1, hC1, hF1⟩ := T.ex; have hM1 := hM.to hC1 hF1; refine Calls.mono (save_k A b k 1 _ R1 _ hA1 (by decide) (by omega) (by (try simp only [zP, zN, zM, zL, zH, regs_len]); omega)) ?_; clear T; rintro e u3 ⟨v, R3, rfl, hA3, hC3, hF3, hI⟩; have hM := hM1.to hC3 hF3; have hC := Chg.trans hC1 hC3 hF1; have hF := Frsh.trans hF1 hF3 hC1.size; clear hC1 hC3 hF1 hF3 hM1 hA1; have T := hA3.start; have hB := hM.blk; obtain ⟨g, c, e, hc⟩ := hI.at T 0 _ (regs_0 _ _); rw [regs_len] at e; subst e; clear hA3) | (go_at_call 38; refine Calls.mono (TR.stepA T fun R2 h => get_k A b _ _ _ [b + k, b + k] R2 _ (h.alloc _) (IL.two h _ _) (by (try simp only [zP, zN, zM, zL, zH, regs_len]); omega)) ?_; rintro e u2 ⟨rfl, T⟩))
 go_end0
 have := TR.trans hC hF T
 have hp : regs (b + k) 1 = [b + k] := by simp [regs]
 rw [hp] at this
 exact ⟨rfl, by simpa [List.append_assoc] using this⟩
end Go.Proofs.YtmfmokblmipagaaGreat
end
section
namespace Go.Proofs.YtmfmokblmipagaaGreat
open Go.RowKit Pl
theorem u64Info : (Tryz.prog.info? 22).map (fun i => (i.zero, i.size, i.bytes)) = some (some (.int .u64 0), 1, 8) := by kernel_rfl
theorem isAgg_slu (w : World) : (isAgg 38).run Tryz.prog w = .ok false w := by kernel_rfl
theorem isAgg_u7 (w : World) : (isAgg 22).run Tryz.prog w = .ok false w := by kernel_rfl
theorem run_appU (base : Nat) (T : TypeId) (v : Value) (xs new : List (BitVec 64)) (b off m c : Nat) (hm : m = new.length) (w : World) (hown : w.ownsRow base 22 1 v xs.length (u6s xs)) (hb : ∀ (j : Nat) (x : BitVec 64), new[j]? = some x → w.cell? ⟨b, off + j, none⟩ = some (.int .u64 (x.toNat : Int))) (hsm : xs.length + new.length ≤ 1000) (hbase : base ≤ w.heap.size) :
 ∃ v' w', (Builtin.append_ #[38, 38] T #[v, .slice (some ⟨b, off, none⟩) m c]).run Tryz.prog w = .ok v' w' ∧ w'.ownsRow base 22 1 v' (xs ++ new).length (u6s (xs ++ new)) ∧ w.grownBy w' v.ownBlock ∧ (∀ k, v'.ownBlock = some k → v.ownBlock = some k ∨ k = w.heap.size) := by
 obtain ⟨i, hi, hz0, hz1, hz2⟩ := info_parts u64Info
 obtain ⟨v', w', hr, h2, h3, _, h5⟩ := run_append_own_at (P := Tryz.prog) w base 38 T 22 i (.int .u64 0) 1 8 Tryz.underlying38 hi hz0 hz1 hz2 rfl (by decide) v xs.length (u6s xs) hown ⟨b, off, none⟩ m c (u6s new) (by rw [u6s_len, hm]; omega)
  (fun j z hj => by
   rw [u6s, List.getElem?_map] at hj
   cases hx : new[j]? with
   | none => rw [hx] at hj; simp at hj
   | some x =>
     rw [hx] at hj
     have e : z = Value.int .u64 (x.toNat : Int) := by simpa using hj.symm
     rw [e, Go.Addr.add_mid]
     exact hb j x hx) (fun z hz => by
   rw [u6s, List.mem_map] at hz
   obtain ⟨x, _, rfl⟩ := hz
   rfl) (by unfold maxLen; omega) (by omega) hbase
 refine ⟨v', w', hr, by rw [u6s, List.map_append, List.length_append, ← hm]; exact h2, h3, fun k hk => ?_⟩
 rcases h5 with e | e
 ·exact .inl (e ▸ hk)
 ·rw [e] at hk; injection hk with hk; exact .inr hk.symm
theorem app_u {ops : Array Oper} {rest : List Oper} {o : Oper} {a : Act} {w : World} {Q : Exit → Act → World → Prop} (hgd : o.guard = none) (s x : Operand) (ho : o.op = .call { callee := .builtin .append, args := #[s, x], argTypes := #[38, 38] })
 (base : Nat) (v : Value) (xs new : List (BitVec 64)) (hs : a.eval s = v) (hown : w.ownsRow base 22 1 v xs.length (u6s xs)) (b off m c : Nat) (hm : m = new.length)
 (hx : a.eval x = .slice (some ⟨b, off, none⟩) m c) (hb : ∀ (j : Nat) (x : BitVec 64), new[j]? = some x → w.cell? ⟨b, off + j, none⟩ = some (.int .u64 (x.toNat : Int))) (hsm : xs.length + new.length ≤ 1000) (hbase : base ≤ w.heap.size)
 (h : ∀ v' w', w'.ownsRow base 22 1 v' (xs ++ new).length (u6s (xs ++ new)) → w.grownBy w' v.ownBlock → (∀ k, v'.ownBlock = some k → v.ownBlock = some k ∨ k = w.heap.size) → wpList Tryz.prog ops Q rest (a.put o.dst v') w') : wpList Tryz.prog ops Q (o :: rest) a w := by
 refine wpList_plain hgd fun K hK => ?_
 obtain ⟨v', w', hr, h2, h3, h5⟩ := run_appU base o.type v xs new b off m c hm w hown hb hsm hbase
 unfold Oper.wp execOp
 simp only [ho, resolve, invoke, builtin, Sem.run_bind, Sem.run_pure, Result.andThen_ok, List.map_toArray, List.map_cons, List.map_nil, hs, hx, hr]
 exact hK _ _ (h v' w' h2 h3 h5)
theorem one_u (w : World) (x : BitVec 64) (T : TypeId) : ∀ (j : Nat) (y : BitVec 64), [x][j]? = some y → (w.alloc (.cells #[.int .u64 (x.toNat : Int)] T)).cell? ⟨w.heap.size, 0 + j, none⟩ = some (.int .u64 (y.toNat : Int)) := by
 intro j y h
 match j with
 | 0 =>
   simp at h
   subst h
   rw [cell_of_row _ w.heap.size _ _ _ _ (heap_alloc_new _ _)]
   rfl
 | j + 1 => simp at h
theorem rbin8 (op : Nat) (h : op = 124 ∨ op = 126 ∨ 131 ≤ op ∧ op ≤ 136) (x y : BitVec 64) (w : World) : Calls Tryz.prog 118 #[.int .i64 (op : Int), .int .u64 (x.toNat : Int), .int .u64 (y.toNat : Int)] w fun e w' => e = .returned (.tuple #[.int .u64 ((Nm.binB op x y).1.toNat : Int), .int .i64 (Nm.binB op x y).2]) ∧ Below w.heap.size w w' := by
 rcases (show op = 124 ∨ op = 126 ∨ op = 131 ∨ op = 132 ∨ op = 133 ∨ op = 134 ∨ op = 135 ∨ op = 136 by omega) with rfl | rfl | rfl | rfl | rfl | rfl | rfl | rfl
 ·exact rbin_124 x y w
 ·exact rbin_126 x y w
 ·exact rbin_131 x y w
 ·exact rbin_132 x y w
 ·exact rbin_133 x y w
 ·exact rbin_134 x y w
 ·exact rbin_135 x y w
 ·exact rbin_136 x y w
set_option maxRecDepth 100000 in
theorem number_bin (f : FX) (cs : List Cel) (w1 : World) (F : FixAt f cs w1) (op a m : Nat) (x y : BitVec 64) (V L : List (BitVec 64)) (β : Nat → Nat) (lv : Value) (u : World) (h : IS f w1 ⟨V, L, β, 0⟩ u) (hl : LV w1 lv [x, y] u) (ho : (124 ≤ op ∧ op ≤ 138) ∧ (op = 124 ∨ op = 126 ∨ 131 ≤ op ∧ op ≤ 136)) (h2 : (Nm.binB op x y).2 = 0) (hV : V.length ≤ 100) :
 Calls Tryz.prog 108 #[.pointer (some ⟨f.G, 0, none⟩), .pointer (some ⟨f.F, 0, none⟩), .agg (celR ⟨op, a, m⟩).toArray, lv] u fun e u' => e = .returned (.tuple #[]) ∧ IS f w1 ⟨V ++ [(Nm.binB op x y).1], L, β, 0⟩ u' := by
 obtain ⟨r, hr⟩ : ∃ r, r = (Nm.binB op x y).1 := ⟨_, rfl⟩
 obtain ⟨z, hz⟩ : ∃ z : Int, z = (op : Int) := ⟨_, rfl⟩
 have HB : ∀ W, Calls Tryz.prog 118 #[.int .i64 z, .int .u64 (x.toNat : Int), .int .u64 (y.toNat : Int)] W fun e w' => e = .returned (.tuple #[.int .u64 (r.toNat : Int), .int .i64 0]) ∧ Below W.heap.size W w' := fun W => by
  have := rbin8 op ho.2 x y W
  rw [h2, ← hr, ← hz] at this
  exact this
 replace HB := Lib.hid HB
 have hcl : (celR ⟨op, a, m⟩).toArray = #[.int .i64 z, .int .i64 (a : Int), .int .u64 (m : Int)] := by rw [hz]; rfl
 rw [hcl, ← hr]
 have d1 : decide (54 ≤ z) = true := decide_eq_true (by omega)
 have d2 : decide (z ≤ 62) = false := decide_eq_false (by omega)
 have d3 : decide (z ≤ 53) = false := decide_eq_false (by omega)
 have FF := Lib.hid F
 have HI := Lib.hid h
 have hL := hl
 obtain ⟨g, c, cur, rfl, hg1, hg2, hg3⟩ := hl.ex
 have hx := hg3 0 x rfl
 have hy := hg3 1 y rfl
 clear h hl hg3 hL hz hr h2 ho hcl F
 go_enter Tryz.func108, Tryz.ntmps108
 go_upto_region 8 with fail
 obtain ⟨W, hW⟩ : ∃ W, W = u.alloc (.cells #[.int .i64 z, .int .i64 (a : Int), .int .u64 (m : Int)] 130) := ⟨_, rfl⟩
 have hC : W.heap[u.heap.size]? = some (.cells #[.int .i64 z, .int .i64 (a : Int), .int .u64 (m : Int)] 130 (0, 0)) := hW ▸ heap_alloc_new _ _
 have hg4 : W.heap[g]? = some (.cells cur 22 (0, 0)) := hW ▸ blk_alloc hg2 _
 have hIW : Hid (IS f w1 ⟨V, L, β, 0⟩ W) := hW ▸ HI.out.below ((Below.refl _ _).alloc (Nat.le_refl _) _)
 rw [← hW]
 clear hW hg2
 refine region_do (fun v => Below W.heap.size W v) 16 (by kernel_rfl) (by kernel_rfl) (Below.refl _ _).drew ?_
 simp only [zF, zE, zD, zC]
 repeat (first | (refine wpD_here rfl (fun v hS => run_ldq _ isAgg_int _ rfl u.heap.size 0 rfl (.int .i64 z) (by rw [cell_of_row v u.heap.size 0 _ _ _ (blk_keep hC hS)]; rfl)) ?_; simp only [Act.put, z5, z6, z7]) | (refine wpD_here rfl (fun v hS => run_ldq _ isAgg_u7 _ rfl g 0 rfl (.int .u64 (x.toNat : Int)) (by rw [cell_of_row v g 0 _ _ _ (blk_keep hg4 hS)]; exact hx)) ?_; simp only [Act.put, z5, z6, z7]) | (refine wpD_here rfl (fun v hS => run_ldq _ isAgg_u7 _ rfl g 1 rfl (.int .u64 (y.toNat : Int)) (by rw [cell_of_row v g 1 _ _ _ (blk_keep hg4 hS)]; exact hy)) ?_; simp only [Act.put, z5, z6, z7]) | (refine wpD_call (v := .tuple #[.int .u64 (r.toNat : Int), .int .i64 0]) rfl 118 ?_ (fun u => ?_) (fun u hS => ?_) ?_; rotate_left 1; (focus (go_simp; (try with_reducible rfl); done)); (focus (refine (HB.out _).mono ?_; rintro e u2 ⟨rfl, hb⟩; exact ⟨rfl, hS.trans (hb.mono hS.size)⟩)); simp only [Act.put, z5, z6, z7]) | (refine wpD_pure (v := ?_) rfl (fun u => ?_) ?_; rotate_left; (focus (go_simp; (try with_reducible rfl); done)); simp only [Act.put, z5, z6, z7]))
 refine wpD_nil (fun w5 hb5 => ?_)
 have hI5 := hIW.out.below hb5
 have hz5 := frozen_of_row w5 f.G 7 _ _ hI5.run
 have hc5 : w5.cell? ⟨f.G, 7, none⟩ = some (.int .i64 0) := by rw [cell_of_row w5 f.G 7 _ _ _ hI5.run]; rfl
 have HI5 := Lib.hid hI5
 clear hI5 hb5
 go_upto_region 9 with fail
 have hI6 := HI5.out.setE FF.out.gf FF.out.mm 0
 obtain ⟨w6, hw6⟩ : ∃ w6, w6 = w5.setCell ⟨f.G, 7, none⟩ (.int .i64 0) := ⟨_, rfl⟩
 rw [← hw6] at hI6 ⊢
 clear hw6 hz5 hc5 HI5
 obtain ⟨v, l, hF, hv, hl, hvl⟩ := hI6.fr
 have hcF : w6.cell? ⟨f.F, 0, none⟩ = some v := by rw [cell_of_row w6 f.F 0 _ _ _ hF]; rfl
 have HI6 := Lib.hid hI6
 have HF := Lib.hid hF
 have HV := Lib.hid hv
 have HS6 := Lib.hid (Nat.le_trans hI6.keep.size (Nat.le_refl _))
 clear hI6 hF hv hl hvl
 go_wp2_with (at_builtin; refine app_u rfl _ _ rfl w1.heap.size v V [r] rfl (own_below HV.out ((Below.refl _ _).alloc (Nat.le_refl _) _)) w6.heap.size 0 1 1 rfl rfl (one_u w6 r _) (by simp; omega) (Nat.le_trans HS6.out (by simp)) ?_; intro v2 w7 hown2 g7 hn7; obtain ⟨ad2, c2, rfl⟩ := own_slice hown2; (have hF6 : (w6.alloc (.cells #[.int .u64 (r.toNat : Int)] 22)).heap[f.F]? = some (.cells #[v, l] 128 (0, 0)) := blk_alloc HF.out _); (have hF7 : w7.heap[f.F]? = some (.cells #[v, l] 128 (0, 0)) := (g7.block f.F (block_lt hF6) (fun e => by have := (own_lt HV.out _ e.symm).1; have := HI6.out.lt.2.1; omega)).trans hF6); (have hz7 := frozen_of_row w7 f.F 0 _ _ hF7); (have hc7 : w7.cell? ⟨f.F, 0, none⟩ = some v := by rw [cell_of_row w7 f.F 0 _ _ _ hF7]; rfl); (have HI7 := Lib.hid ((HI6.out.below ((Below.refl _ _).alloc (Nat.le_refl _) _)).setV FF.out.gf FF.out.mm hF6 g7 (V ++ [r]) hown2 (fun k hk => (hn7 k hk).imp id (fun e => by omega)))); clear hF6 hF7 hown2 g7 hn7)
 go_end0
 exact ⟨rfl, by simpa using HI7.out⟩
end Go.Proofs.YtmfmokblmipagaaGreat
end
section
namespace Go.Proofs.YtmfmokblmipagaaGreat
open Go.RowKit Pl
theorem isAgg_pst (w : World) : (isAgg 60).run Tryz.prog w = .ok false w := by kernel_rfl
theorem isAgg_pmem (w : World) : (isAgg 42).run Tryz.prog w = .ok false w := by kernel_rfl
theorem cell_kp {u u2 : World} {a : Addr} {v : Value} (h : u.cell? a = some v) (hb : Below u.heap.size u u2) : u2.cell? a = some v := (hb.cell (World.block_lt_of_cell? _ _ h)).trans h
set_option maxRecDepth 100000 in
theorem number_ld (f : FX) (cs : List Cel) (w1 : World) (F : FixAt f cs w1) (om : MObj) (hom : f.om = some om) (op a m : Nat) (x y : BitVec 64) (V L : List (BitVec 64)) (β : Nat → Nat) (lv : Value) (u : World) (h : IS f w1 ⟨V, L, β, 0⟩ u) (hl : LV w1 lv [x] u) (ho : ldC op ≠ 0) (hm : m < 8589934592) (hV : V.length ≤ 100) (E : Int)
 (hy : y.toNat = if x.toNat % 4294967296 + m + ldC op ≤ om.n then loadN β (x.toNat % 4294967296 + m) (ldC op) else 0) (hE : E = if x.toNat % 4294967296 + m + ldC op ≤ om.n then 0 else 23) :
 Calls Tryz.prog 108 #[.pointer (some ⟨f.G, 0, none⟩), .pointer (some ⟨f.F, 0, none⟩), .agg (celR ⟨op, a, m⟩).toArray, lv] u fun e u' => e = .returned (.tuple #[]) ∧ IS f w1 ⟨V ++ [y], L, β, E⟩ u' := by
 obtain ⟨z, hz⟩ : ∃ z : Int, z = (op : Int) := ⟨_, rfl⟩
 have HB : ∀ W, MemAt W (withβ om β) → Calls Tryz.prog 116 #[.pointer (some ⟨om.p, 0, none⟩), .int .i64 z, .int .u64 (x.toNat : Int), .int .u64 (m : Int)] W fun e w' => e = .returned (.tuple #[.int .u64 (y.toNat : Int), .int .i64 E]) ∧ Below W.heap.size W w' := fun W hW => by
  have := load18_k (withβ om β) op x.toNat m W hW ho x.isLt hm
  rw [show (withβ om β).n = om.n from rfl, show (withβ om β).β = β from rfl, show (withβ om β).p = om.p from rfl, ← hy, ← hE, ← hz] at this
  exact this
 replace HB := Lib.hid HB
 have hop : op = 41 ∨ op = 49 ∨ op = 51 ∨ op = 53 := by
  unfold ldC at ho
  repeat (first | omega | (split at ho; omega))
 have hcl : (celR ⟨op, a, m⟩).toArray = #[.int .i64 z, .int .i64 (a : Int), .int .u64 (m : Int)] := by rw [hz]; rfl
 rw [hcl]
 have d1 : decide (54 ≤ z) = false := decide_eq_false (by omega)
 have d3 : decide (z ≤ 53) = true := decide_eq_true (by omega)
 have FF := Lib.hid F
 have HI := Lib.hid h
 have HOM := Lib.hid hom
 obtain ⟨g, c, cur, rfl, hg1, hg2, hg3⟩ := hl.ex
 have hx := hg3 0 x rfl
 clear h hl hg3 hz hy hE ho hop hcl F hom
 go_enter Tryz.func108, Tryz.ntmps108
 go_upto_region 5 with fail
 obtain ⟨W, hW⟩ : ∃ W, W = u.alloc (.cells #[.int .i64 z, .int .i64 (a : Int), .int .u64 (m : Int)] 130) := ⟨_, rfl⟩
 have hC : W.heap[u.heap.size]? = some (.cells #[.int .i64 z, .int .i64 (a : Int), .int .u64 (m : Int)] 130 (0, 0)) := hW ▸ heap_alloc_new _ _
 have hg4 : W.heap[g]? = some (.cells cur 22 (0, 0)) := hW ▸ blk_alloc hg2 _
 have hIW : Hid (IS f w1 ⟨V, L, β, 0⟩ W) := hW ▸ HI.out.below ((Below.refl _ _).alloc (Nat.le_refl _) _)
 have hrun := hIW.out.run
 have hst : W.cell? ⟨f.sb, 11, none⟩ = some (.pointer (some ⟨om.p, 0, none⟩)) := by have := (hIW.out.st FF.out).1; rw [HOM.out] at this; exact this
 rw [← hW]
 clear hW hg2
 refine region_do (fun v => Below W.heap.size W v) 22 (by kernel_rfl) (by kernel_rfl) (Below.refl _ _).drew ?_
 simp only [zF, zE, zD, zC]
 repeat (first | (refine wpD_here rfl (fun v hS => run_ldq _ isAgg_int _ rfl u.heap.size 0 rfl (.int .i64 z) (by rw [cell_of_row v u.heap.size 0 _ _ _ (blk_keep hC hS)]; rfl)) ?_; simp only [Act.put, z5, z6, z7]) | (refine wpD_here rfl (fun v hS => run_ldq _ isAgg_u7 _ rfl u.heap.size 2 rfl (.int .u64 (m : Int)) (by rw [cell_of_row v u.heap.size 2 _ _ _ (blk_keep hC hS)]; rfl)) ?_; simp only [Act.put, z5, z6, z7]) | (refine wpD_here rfl (fun v hS => run_ldq _ isAgg_u7 _ rfl g 0 rfl (.int .u64 (x.toNat : Int)) (by rw [cell_of_row v g 0 _ _ _ (blk_keep hg4 hS)]; exact hx)) ?_; simp only [Act.put, z5, z6, z7]) | (refine wpD_here rfl (fun v hS => run_ldq _ isAgg_pst _ rfl f.G 2 rfl (.pointer (some ⟨f.sb, 0, none⟩)) (by rw [cell_of_row v f.G 2 _ _ _ (blk_keep hrun hS)]; rfl)) ?_; simp only [Act.put, z5, z6, z7]) | (refine wpD_here rfl (fun v hS => run_ldq _ isAgg_pmem _ rfl f.sb 11 rfl (.pointer (some ⟨om.p, 0, none⟩)) (cell_kp hst hS)) ?_; simp only [Act.put, z5, z6, z7]) | (refine wpD_call (v := .tuple #[.int .u64 (y.toNat : Int), .int .i64 E]) rfl 116 ?_ (fun u => ?_) (fun u hS => ?_) ?_; rotate_left 1; (focus (go_simp; (try with_reducible rfl); done)); (focus (refine (HB.out _ ((hIW.out.below hS).mem _ HOM.out)).mono ?_; rintro e u2 ⟨rfl, hb⟩; exact ⟨rfl, hS.trans (hb.mono hS.size)⟩)); simp only [Act.put, z5, z6, z7]) | (refine wpD_pure (v := ?_) rfl (fun u => ?_) ?_; rotate_left; (focus (go_simp; (try with_reducible rfl); done)); simp only [Act.put, z5, z6, z7]))
 refine wpD_nil (fun w5 hb5 => ?_)
 clear hrun hst
 have hI5 := hIW.out.below hb5
 have hz5 := frozen_of_row w5 f.G 7 _ _ hI5.run
 have hc5 : w5.cell? ⟨f.G, 7, none⟩ = some (.int .i64 0) := by rw [cell_of_row w5 f.G 7 _ _ _ hI5.run]; rfl
 have HI5 := Lib.hid hI5
 clear hI5 hb5
 go_upto_region 9 with fail
 have hI6 := HI5.out.setE FF.out.gf FF.out.mm E
 obtain ⟨w6, hw6⟩ : ∃ w6, w6 = w5.setCell ⟨f.G, 7, none⟩ (.int .i64 E) := ⟨_, rfl⟩
 rw [← hw6] at hI6 ⊢
 clear hw6 hz5 hc5 HI5
 obtain ⟨v, l, hF, hv, hl, hvl⟩ := hI6.fr
 have hcF : w6.cell? ⟨f.F, 0, none⟩ = some v := by rw [cell_of_row w6 f.F 0 _ _ _ hF]; rfl
 have HI6 := Lib.hid hI6
 have HF := Lib.hid hF
 have HV := Lib.hid hv
 have HS6 := Lib.hid (Nat.le_trans hI6.keep.size (Nat.le_refl _))
 clear hI6 hF hv hl hvl
 go_wp2_with (at_builtin; refine app_u rfl _ _ rfl w1.heap.size v V [y] rfl (own_below HV.out ((Below.refl _ _).alloc (Nat.le_refl _) _)) w6.heap.size 0 1 1 rfl rfl (one_u w6 y _) (by simp; omega) (Nat.le_trans HS6.out (by simp)) ?_; intro v2 w7 hown2 g7 hn7; obtain ⟨ad2, c2, rfl⟩ := own_slice hown2; (have hF6 : (w6.alloc (.cells #[.int .u64 (y.toNat : Int)] 22)).heap[f.F]? = some (.cells #[v, l] 128 (0, 0)) := blk_alloc HF.out _); (have hF7 : w7.heap[f.F]? = some (.cells #[v, l] 128 (0, 0)) := (g7.block f.F (block_lt hF6) (fun e => by have := (own_lt HV.out _ e.symm).1; have := HI6.out.lt.2.1; omega)).trans hF6); (have hz7 := frozen_of_row w7 f.F 0 _ _ hF7); (have hc7 : w7.cell? ⟨f.F, 0, none⟩ = some v := by rw [cell_of_row w7 f.F 0 _ _ _ hF7]; rfl); (have HI7 := Lib.hid ((HI6.out.below ((Below.refl _ _).alloc (Nat.le_refl _) _)).setV FF.out.gf FF.out.mm hF6 g7 (V ++ [y]) hown2 (fun k hk => (hn7 k hk).imp id (fun e => by omega)))); clear hF6 hF7 hown2 g7 hn7)
 go_end0
 exact ⟨rfl, by simpa using HI7.out⟩
end Go.Proofs.YtmfmokblmipagaaGreat
end
