/-
  Texts TaQ.
-/
import Derived.Test.YtmfmokblmipagaaGreatR19
set_option linter.unusedSimpArgs false
set_option linter.unusedVariables false
set_option maxHeartbeats 8000000
open Pl
namespace Go.Proofs.YtmfmokblmipagaaGreat
open Go.RowKit Pl
theorem regs3 (s : Nat) : (regs s 3)[0]? = some s ∧ (regs s 3)[1]? = some (s + 1) ∧ (regs s 3)[2]? = some (s + 2) := ⟨rfl, rfl, rfl⟩
structure I3 (A : Nat) (R : Option Nat) (g r : Nat) (u : World) : Prop where
 ex : ∃ cur T, u.heap[g]? = some (.cells cur T (0, 0)) ∧ cur[0]? = some (Value.int .i64 (r : Int)) ∧ cur[1]? = some (Value.int .i64 ((r + 1 : Nat) : Int)) ∧ cur[2]? = some (Value.int .i64 ((r + 2 : Nat) : Int))
 ne : g ≠ A
 nr : some g ≠ R
theorem IL.three {A : Nat} {R : Option Nat} {u : World} {v : Value} {s : Nat} (h : IL A R u v (regs s 3)) : ∃ g c, v = .slice (some ⟨g, 0, none⟩) 3 c ∧ I3 A R g s u := by
 obtain ⟨ad, c, e, hi⟩ := h.ex
 rw [regs_len] at e
 rcases hi with h0 | ⟨g, cur, T0, rfl, hg, hA, hR, hc⟩
 ·simp [regs] at h0
 ·exact ⟨g, c, e, ⟨cur, T0, hg, hc 0 _ (regs3 s).1, hc 1 _ (regs3 s).2.1, hc 2 _ (regs3 s).2.2⟩, hA, hR⟩
theorem I3.get {A : Nat} {R : Option Nat} {g r : Nat} {u u2 : World} {l : List Cel} {b k : Nat} (h : I3 A R g r u) (T : TR A R u l b k u2) : u2.cell? ⟨g, 0, none⟩ = some (.int .i64 (r : Int)) ∧ u2.cell? ⟨g, 1, none⟩ = some (.int .i64 ((r + 1 : Nat) : Int)) ∧ u2.cell? ⟨g, 2, none⟩ = some (.int .i64 ((r + 2 : Nat) : Int)) := by
 obtain ⟨cur, T0, hg, h0, h1, h2⟩ := h.ex
 have := T.get hg h.ne h.nr
 exact ⟨by rw [cell_of_row u2 g 0 _ _ _ this]; exact h0, by rw [cell_of_row u2 g 1 _ _ _ this]; exact h1, by rw [cell_of_row u2 g 2 _ _ _ this]; exact h2⟩
theorem cell_keep {u u2 : World} {a : Addr} {v : Value} (h : u.cell? a = some v) (hb : Below u.heap.size u u2) : u2.cell? a = some v := (hb.cell (World.block_lt_of_cell? _ _ h)).trans h
set_option maxRecDepth 100000 in
theorem lanest_1_0 (M A off b k i a : Nat) (l : List Cel) (R : Option Nat) (u : World) (h : TA A l b k R u) (hM : MA M A 1 off R u) (h1 : l.length + 100 ≤ 1000) (h2 : off < 4294967296) (hb : b + k ≤ 1000) (hi : i = 0 + a) (ha : a < 8) :
 Calls Tryz.prog 42 #[.pointer (some ⟨M, 0, none⟩), .bool false, .int .i64 (i : Int)] u fun e u' => e = .returned (.tuple #[]) ∧ TR A R u (l ++ ([b + k + 2, b + k + 1, b + k].map setc ++ getc (b + k) :: (laneC (b + k + 1) 8 a false ++ [atc 60 off]))) b (k + 3) u' := by
 have ed : (i : Int) / 8 = 0 := by omega
 have em : (i : Int) % 8 = (a : Int) := by omega
 have ew : IntKind.i64.wrap 8 = 8 := IntWalk.i64_in _ (by decide)
 have ew2 : IntKind.i64.wrap 1 = 1 := IntWalk.i64_in _ (by decide)
 have ew0 : IntKind.i64.wrap 0 = 0 := IntWalk.i64_in _ (by decide)
 have ew1 : IntKind.i64.wrap 1 = 1 := IntWalk.i64_in _ (by decide)
 have ewa : IntKind.i64.wrap (a : Int) = a := IntWalk.i64_in _ (by omega)
 have ew3 : IntKind.i64.wrap 8 = 8 := IntWalk.i64_in _ (by decide)
 clear hi
 have hll := laneC_len (b + k + 1) 8 a false
 have T := h.start
 clear h
 have hB := hM.blk
 go_enter Tryz.func42, Tryz.ntmps42
 go_wp2_with (first | ((with_reducible refine load_w ?_ 77 isAgg_asm _ rfl _ _ rfl _ _ (T.get hB hM.ne hM.nr) _ rfl ?_); (focus rfl)) | ((with_reducible refine load_w ?_ 3 isAgg_int _ rfl _ 1 rfl _ _ (T.get hB hM.ne hM.nr) _ rfl ?_); (focus rfl)) | (go_at_call 29; obtain ⟨R1, hA1, hC1, hF1⟩ := T.ex; have hM1 := hM.to hC1 hF1; refine Calls.mono (save_k A b k 3 _ R1 _ hA1 (by decide) (by omega) (by (try simp only [zP, zN, zM, zL, zH, regs_len]); omega)) ?_; clear T; rintro e u3 ⟨v, R3, rfl, hA3, hC3, hF3, hI⟩; have hM := hM1.to hC3 hF3; have hC := Chg.trans hC1 hC3 hF1; have hF := Frsh.trans hF1 hF3 hC1.size; clear hC1 hC3 hF1 hF3 hM1 hA1; have T := hA3.start; have hB := hM.blk; obtain ⟨g, c, rfl, h3⟩ := hI.three; clear hA3 hI))
 obtain ⟨hv0, hv1, hv2⟩ := h3.get T
 go_region
 clear hv0 hv1 hv2
 replace T := T.below (Below.refl _ _).drew
 try rw [em]
 generalize u3.drew = w5 at *
 simp only [Exit.then]
 go_at_K
 go_wp2_with fail
 obtain ⟨hv0, hv1, hv2⟩ := h3.get T
 have hB4 := T.get hB hM.ne hM.nr
 refine region_sp1 (LS _ #[.int .i64 ((b + k : Nat) : Int)] 3 1) 10 9 [0, 1, 2, 3, 4, 5, 6, 7, 8] rfl (by kernel_rfl) rfl rfl LS.start ?_
 simp only [opsAt, List.getElem?_cons_zero, List.getElem?_cons_succ, List.drop_succ_cons, List.drop_zero]
 repeat (first | (refine wpDA_here rfl (fun D w hS => run_ldq _ isAgg_asm _ rfl M 0 rfl (.pointer (some ⟨A, 0, none⟩)) (by rw [cell_of_row w M 0 _ _ _ (hS.get hB4)]; rfl)) ?_; simp only [Act.put, z5, z6, z7]) | (refine wpDA_here rfl (fun D w hS => run_ldq _ isAgg_int _ rfl g 0 rfl (.int .i64 ((b + k : Nat) : Int)) (cell_keep hv0 hS.bel)) ?_; simp only [Act.put, z5, z6, z7]) | (refine wpDA_pure (v := ?_) rfl (fun u => ?_) ?_; rotate_left; (focus (go_simp; (try with_reducible rfl); done)); simp only [Act.put, z5, z6, z7]))
 refine wpDA_nil ⟨fun w hS => ⟨_, _, hS.mk1, run_bi1_op _ _ rfl rfl⟩, fun s w1 hS => ?_⟩
 obtain ⟨x, rfl, hx1, hx2⟩ := hS.new s rfl
 have hb1 := hS.bel
 clear hS hv0 hv1 hv2 hB4
 go_wp2_with (first | (go_at_call 38; refine Calls.mono (TR.stepB T hb1 fun R2 h => get_k A b _ _ _ [b + k] R2 _ (h.below hb1) (IL.far h x hx1 _ _ hx2 _ _ _ rfl (vals1 (b + k))) (by (try simp only [zP, zN, zM, zL, zH, regs_len]); omega)) ?_; clear hb1; rintro e u2 ⟨rfl, T⟩) | ((with_reducible refine load_w ?_ 77 isAgg_asm _ rfl _ _ rfl _ _ (T.get hB hM.ne hM.nr) _ rfl ?_); (focus rfl)) | ((with_reducible refine load_w ?_ 3 isAgg_int _ rfl _ 1 rfl _ _ (T.get hB hM.ne hM.nr) _ rfl ?_); (focus rfl)) | (go_at_call 80; refine Calls.mono (T.step fun R2 h => lane_k A b _ 8 a (b + k + 1) false _ R2 _ h (by decide) (by omega) (by (try simp only [zP, zN, zM, zL, zH, regs_len]); omega)) ?_; rintro e u4 ⟨rfl, T⟩) | (go_at_call 82; refine Calls.mono (stop_1 _) ?_; rintro e u2 ⟨rfl, rfl⟩) | (go_at_call 39; refine Calls.mono (TR.stepM T hM fun R2 h m => mat_k M A 1 off b _ 60 0 _ R2 _ h m (by (try simp only [zP, zN, zM, zL, zH, regs_len]); omega) (by omega)) ?_; rintro e u2 ⟨rfl, T⟩))
 first | go_end0 | ((try simp only [Exit.inBlock, Exit.then]); refine bodyPost_ret (results_none rfl _ _ _) rfl ?_)
 have := TR.trans hC hF T
 have hp : (regs (b + k) 3).reverse = [b + k + 2, b + k + 1, b + k] := by simp [regs]
 rw [hp] at this
 exact ⟨rfl, by simpa [List.append_assoc] using this⟩
set_option maxRecDepth 100000 in
theorem lanest_1_1 (M A off b k i a : Nat) (l : List Cel) (R : Option Nat) (u : World) (h : TA A l b k R u) (hM : MA M A 1 off R u) (h1 : l.length + 100 ≤ 1000) (h2 : off < 4294967296) (hb : b + k ≤ 1000) (hi : i = 8 + a) (ha : a < 8) :
 Calls Tryz.prog 42 #[.pointer (some ⟨M, 0, none⟩), .bool false, .int .i64 (i : Int)] u fun e u' => e = .returned (.tuple #[]) ∧ TR A R u (l ++ ([b + k + 2, b + k + 1, b + k].map setc ++ getc (b + k) :: (laneC (b + k + 2) 8 a false ++ [atc 60 off]))) b (k + 3) u' := by
 have ed : (i : Int) / 8 = 1 := by omega
 have em : (i : Int) % 8 = (a : Int) := by omega
 have ew : IntKind.i64.wrap 8 = 8 := IntWalk.i64_in _ (by decide)
 have ew2 : IntKind.i64.wrap 2 = 2 := IntWalk.i64_in _ (by decide)
 have ew0 : IntKind.i64.wrap 0 = 0 := IntWalk.i64_in _ (by decide)
 have ew1 : IntKind.i64.wrap 1 = 1 := IntWalk.i64_in _ (by decide)
 have ewa : IntKind.i64.wrap (a : Int) = a := IntWalk.i64_in _ (by omega)
 have ew3 : IntKind.i64.wrap 8 = 8 := IntWalk.i64_in _ (by decide)
 clear hi
 have hll := laneC_len (b + k + 2) 8 a false
 have T := h.start
 clear h
 have hB := hM.blk
 go_enter Tryz.func42, Tryz.ntmps42
 go_wp2_with (first | ((with_reducible refine load_w ?_ 77 isAgg_asm _ rfl _ _ rfl _ _ (T.get hB hM.ne hM.nr) _ rfl ?_); (focus rfl)) | ((with_reducible refine load_w ?_ 3 isAgg_int _ rfl _ 1 rfl _ _ (T.get hB hM.ne hM.nr) _ rfl ?_); (focus rfl)) | (go_at_call 29; obtain ⟨R1, hA1, hC1, hF1⟩ := T.ex; have hM1 := hM.to hC1 hF1; refine Calls.mono (save_k A b k 3 _ R1 _ hA1 (by decide) (by omega) (by (try simp only [zP, zN, zM, zL, zH, regs_len]); omega)) ?_; clear T; rintro e u3 ⟨v, R3, rfl, hA3, hC3, hF3, hI⟩; have hM := hM1.to hC3 hF3; have hC := Chg.trans hC1 hC3 hF1; have hF := Frsh.trans hF1 hF3 hC1.size; clear hC1 hC3 hF1 hF3 hM1 hA1; have T := hA3.start; have hB := hM.blk; obtain ⟨g, c, rfl, h3⟩ := hI.three; clear hA3 hI))
 obtain ⟨hv0, hv1, hv2⟩ := h3.get T
 go_region
 clear hv0 hv1 hv2
 replace T := T.below (Below.refl _ _).drew
 try rw [em]
 generalize u3.drew = w5 at *
 simp only [Exit.then]
 go_at_K
 go_wp2_with fail
 obtain ⟨hv0, hv1, hv2⟩ := h3.get T
 have hB4 := T.get hB hM.ne hM.nr
 refine region_sp1 (LS _ #[.int .i64 ((b + k : Nat) : Int)] 3 1) 10 9 [0, 1, 2, 3, 4, 5, 6, 7, 8] rfl (by kernel_rfl) rfl rfl LS.start ?_
 simp only [opsAt, List.getElem?_cons_zero, List.getElem?_cons_succ, List.drop_succ_cons, List.drop_zero]
 repeat (first | (refine wpDA_here rfl (fun D w hS => run_ldq _ isAgg_asm _ rfl M 0 rfl (.pointer (some ⟨A, 0, none⟩)) (by rw [cell_of_row w M 0 _ _ _ (hS.get hB4)]; rfl)) ?_; simp only [Act.put, z5, z6, z7]) | (refine wpDA_here rfl (fun D w hS => run_ldq _ isAgg_int _ rfl g 0 rfl (.int .i64 ((b + k : Nat) : Int)) (cell_keep hv0 hS.bel)) ?_; simp only [Act.put, z5, z6, z7]) | (refine wpDA_pure (v := ?_) rfl (fun u => ?_) ?_; rotate_left; (focus (go_simp; (try with_reducible rfl); done)); simp only [Act.put, z5, z6, z7]))
 refine wpDA_nil ⟨fun w hS => ⟨_, _, hS.mk1, run_bi1_op _ _ rfl rfl⟩, fun s w1 hS => ?_⟩
 obtain ⟨x, rfl, hx1, hx2⟩ := hS.new s rfl
 have hb1 := hS.bel
 clear hS hv0 hv1 hv2 hB4
 go_wp2_with (first | (go_at_call 38; refine Calls.mono (TR.stepB T hb1 fun R2 h => get_k A b _ _ _ [b + k] R2 _ (h.below hb1) (IL.far h x hx1 _ _ hx2 _ _ _ rfl (vals1 (b + k))) (by (try simp only [zP, zN, zM, zL, zH, regs_len]); omega)) ?_; clear hb1; rintro e u2 ⟨rfl, T⟩) | ((with_reducible refine load_w ?_ 77 isAgg_asm _ rfl _ _ rfl _ _ (T.get hB hM.ne hM.nr) _ rfl ?_); (focus rfl)) | ((with_reducible refine load_w ?_ 3 isAgg_int _ rfl _ 1 rfl _ _ (T.get hB hM.ne hM.nr) _ rfl ?_); (focus rfl)) | (go_at_call 80; refine Calls.mono (T.step fun R2 h => lane_k A b _ 8 a (b + k + 2) false _ R2 _ h (by decide) (by omega) (by (try simp only [zP, zN, zM, zL, zH, regs_len]); omega)) ?_; rintro e u4 ⟨rfl, T⟩) | (go_at_call 82; refine Calls.mono (stop_1 _) ?_; rintro e u2 ⟨rfl, rfl⟩) | (go_at_call 39; refine Calls.mono (TR.stepM T hM fun R2 h m => mat_k M A 1 off b _ 60 0 _ R2 _ h m (by (try simp only [zP, zN, zM, zL, zH, regs_len]); omega) (by omega)) ?_; rintro e u2 ⟨rfl, T⟩))
 first | go_end0 | ((try simp only [Exit.inBlock, Exit.then]); refine bodyPost_ret (results_none rfl _ _ _) rfl ?_)
 have := TR.trans hC hF T
 have hp : (regs (b + k) 3).reverse = [b + k + 2, b + k + 1, b + k] := by simp [regs]
 rw [hp] at this
 exact ⟨rfl, by simpa [List.append_assoc] using this⟩
set_option maxRecDepth 100000 in
theorem lanest_2_0 (M A off b k i a : Nat) (l : List Cel) (R : Option Nat) (u : World) (h : TA A l b k R u) (hM : MA M A 2 off R u) (h1 : l.length + 100 ≤ 1000) (h2 : off < 4294967296) (hb : b + k ≤ 1000) (hi : i = 0 + a) (ha : a < 4) :
 Calls Tryz.prog 42 #[.pointer (some ⟨M, 0, none⟩), .bool false, .int .i64 (i : Int)] u fun e u' => e = .returned (.tuple #[]) ∧ TR A R u (l ++ ([b + k + 2, b + k + 1, b + k].map setc ++ getc (b + k) :: (laneC (b + k + 1) 16 a false ++ [atc 61 off]))) b (k + 3) u' := by
 have ed : (i : Int) / 4 = 0 := by omega
 have em : (i : Int) % 4 = (a : Int) := by omega
 have ew : IntKind.i64.wrap 4 = 4 := IntWalk.i64_in _ (by decide)
 have ew2 : IntKind.i64.wrap 1 = 1 := IntWalk.i64_in _ (by decide)
 have ew0 : IntKind.i64.wrap 0 = 0 := IntWalk.i64_in _ (by decide)
 have ew1 : IntKind.i64.wrap 1 = 1 := IntWalk.i64_in _ (by decide)
 have ewa : IntKind.i64.wrap (a : Int) = a := IntWalk.i64_in _ (by omega)
 have ew3 : IntKind.i64.wrap 16 = 16 := IntWalk.i64_in _ (by decide)
 clear hi
 have hll := laneC_len (b + k + 1) 16 a false
 have T := h.start
 clear h
 have hB := hM.blk
 go_enter Tryz.func42, Tryz.ntmps42
 go_wp2_with (first | ((with_reducible refine load_w ?_ 77 isAgg_asm _ rfl _ _ rfl _ _ (T.get hB hM.ne hM.nr) _ rfl ?_); (focus rfl)) | ((with_reducible refine load_w ?_ 3 isAgg_int _ rfl _ 1 rfl _ _ (T.get hB hM.ne hM.nr) _ rfl ?_); (focus rfl)) | (go_at_call 29; obtain ⟨R1, hA1, hC1, hF1⟩ := T.ex; have hM1 := hM.to hC1 hF1; refine Calls.mono (save_k A b k 3 _ R1 _ hA1 (by decide) (by omega) (by (try simp only [zP, zN, zM, zL, zH, regs_len]); omega)) ?_; clear T; rintro e u3 ⟨v, R3, rfl, hA3, hC3, hF3, hI⟩; have hM := hM1.to hC3 hF3; have hC := Chg.trans hC1 hC3 hF1; have hF := Frsh.trans hF1 hF3 hC1.size; clear hC1 hC3 hF1 hF3 hM1 hA1; have T := hA3.start; have hB := hM.blk; obtain ⟨g, c, rfl, h3⟩ := hI.three; clear hA3 hI))
 obtain ⟨hv0, hv1, hv2⟩ := h3.get T
 go_region
 clear hv0 hv1 hv2
 replace T := T.below (Below.refl _ _).drew
 try rw [em]
 generalize u3.drew = w5 at *
 simp only [Exit.then]
 go_at_K
 go_wp2_with fail
 obtain ⟨hv0, hv1, hv2⟩ := h3.get T
 have hB4 := T.get hB hM.ne hM.nr
 refine region_sp1 (LS _ #[.int .i64 ((b + k : Nat) : Int)] 3 1) 10 9 [0, 1, 2, 3, 4, 5, 6, 7, 8] rfl (by kernel_rfl) rfl rfl LS.start ?_
 simp only [opsAt, List.getElem?_cons_zero, List.getElem?_cons_succ, List.drop_succ_cons, List.drop_zero]
 repeat (first | (refine wpDA_here rfl (fun D w hS => run_ldq _ isAgg_asm _ rfl M 0 rfl (.pointer (some ⟨A, 0, none⟩)) (by rw [cell_of_row w M 0 _ _ _ (hS.get hB4)]; rfl)) ?_; simp only [Act.put, z5, z6, z7]) | (refine wpDA_here rfl (fun D w hS => run_ldq _ isAgg_int _ rfl g 0 rfl (.int .i64 ((b + k : Nat) : Int)) (cell_keep hv0 hS.bel)) ?_; simp only [Act.put, z5, z6, z7]) | (refine wpDA_pure (v := ?_) rfl (fun u => ?_) ?_; rotate_left; (focus (go_simp; (try with_reducible rfl); done)); simp only [Act.put, z5, z6, z7]))
 refine wpDA_nil ⟨fun w hS => ⟨_, _, hS.mk1, run_bi1_op _ _ rfl rfl⟩, fun s w1 hS => ?_⟩
 obtain ⟨x, rfl, hx1, hx2⟩ := hS.new s rfl
 have hb1 := hS.bel
 clear hS hv0 hv1 hv2 hB4
 go_wp2_with (first | (go_at_call 38; refine Calls.mono (TR.stepB T hb1 fun R2 h => get_k A b _ _ _ [b + k] R2 _ (h.below hb1) (IL.far h x hx1 _ _ hx2 _ _ _ rfl (vals1 (b + k))) (by (try simp only [zP, zN, zM, zL, zH, regs_len]); omega)) ?_; clear hb1; rintro e u2 ⟨rfl, T⟩) | ((with_reducible refine load_w ?_ 77 isAgg_asm _ rfl _ _ rfl _ _ (T.get hB hM.ne hM.nr) _ rfl ?_); (focus rfl)) | ((with_reducible refine load_w ?_ 3 isAgg_int _ rfl _ 1 rfl _ _ (T.get hB hM.ne hM.nr) _ rfl ?_); (focus rfl)) | (go_at_call 80; refine Calls.mono (T.step fun R2 h => lane_k A b _ 16 a (b + k + 1) false _ R2 _ h (by decide) (by omega) (by (try simp only [zP, zN, zM, zL, zH, regs_len]); omega)) ?_; rintro e u4 ⟨rfl, T⟩) | (go_at_call 82; refine Calls.mono (stop_2 _) ?_; rintro e u2 ⟨rfl, rfl⟩) | (go_at_call 39; refine Calls.mono (TR.stepM T hM fun R2 h m => mat_k M A 2 off b _ 61 0 _ R2 _ h m (by (try simp only [zP, zN, zM, zL, zH, regs_len]); omega) (by omega)) ?_; rintro e u2 ⟨rfl, T⟩))
 first | go_end0 | ((try simp only [Exit.inBlock, Exit.then]); refine bodyPost_ret (results_none rfl _ _ _) rfl ?_)
 have := TR.trans hC hF T
 have hp : (regs (b + k) 3).reverse = [b + k + 2, b + k + 1, b + k] := by simp [regs]
 rw [hp] at this
 exact ⟨rfl, by simpa [List.append_assoc] using this⟩
set_option maxRecDepth 100000 in
theorem lanest_2_1 (M A off b k i a : Nat) (l : List Cel) (R : Option Nat) (u : World) (h : TA A l b k R u) (hM : MA M A 2 off R u) (h1 : l.length + 100 ≤ 1000) (h2 : off < 4294967296) (hb : b + k ≤ 1000) (hi : i = 4 + a) (ha : a < 4) :
 Calls Tryz.prog 42 #[.pointer (some ⟨M, 0, none⟩), .bool false, .int .i64 (i : Int)] u fun e u' => e = .returned (.tuple #[]) ∧ TR A R u (l ++ ([b + k + 2, b + k + 1, b + k].map setc ++ getc (b + k) :: (laneC (b + k + 2) 16 a false ++ [atc 61 off]))) b (k + 3) u' := by
 have ed : (i : Int) / 4 = 1 := by omega
 have em : (i : Int) % 4 = (a : Int) := by omega
 have ew : IntKind.i64.wrap 4 = 4 := IntWalk.i64_in _ (by decide)
 have ew2 : IntKind.i64.wrap 2 = 2 := IntWalk.i64_in _ (by decide)
 have ew0 : IntKind.i64.wrap 0 = 0 := IntWalk.i64_in _ (by decide)
 have ew1 : IntKind.i64.wrap 1 = 1 := IntWalk.i64_in _ (by decide)
 have ewa : IntKind.i64.wrap (a : Int) = a := IntWalk.i64_in _ (by omega)
 have ew3 : IntKind.i64.wrap 16 = 16 := IntWalk.i64_in _ (by decide)
 clear hi
 have hll := laneC_len (b + k + 2) 16 a false
 have T := h.start
 clear h
 have hB := hM.blk
 go_enter Tryz.func42, Tryz.ntmps42
 go_wp2_with (first | ((with_reducible refine load_w ?_ 77 isAgg_asm _ rfl _ _ rfl _ _ (T.get hB hM.ne hM.nr) _ rfl ?_); (focus rfl)) | ((with_reducible refine load_w ?_ 3 isAgg_int _ rfl _ 1 rfl _ _ (T.get hB hM.ne hM.nr) _ rfl ?_); (focus rfl)) | (go_at_call 29; obtain ⟨R1, hA1, hC1, hF1⟩ := T.ex; have hM1 := hM.to hC1 hF1; refine Calls.mono (save_k A b k 3 _ R1 _ hA1 (by decide) (by omega) (by (try simp only [zP, zN, zM, zL, zH, regs_len]); omega)) ?_; clear T; rintro e u3 ⟨v, R3, rfl, hA3, hC3, hF3, hI⟩; have hM := hM1.to hC3 hF3; have hC := Chg.trans hC1 hC3 hF1; have hF := Frsh.trans hF1 hF3 hC1.size; clear hC1 hC3 hF1 hF3 hM1 hA1; have T := hA3.start; have hB := hM.blk; obtain ⟨g, c, rfl, h3⟩ := hI.three; clear hA3 hI))
 obtain ⟨hv0, hv1, hv2⟩ := h3.get T
 go_region
 clear hv0 hv1 hv2
 replace T := T.below (Below.refl _ _).drew
 try rw [em]
 generalize u3.drew = w5 at *
 simp only [Exit.then]
 go_at_K
 go_wp2_with fail
 obtain ⟨hv0, hv1, hv2⟩ := h3.get T
 have hB4 := T.get hB hM.ne hM.nr
 refine region_sp1 (LS _ #[.int .i64 ((b + k : Nat) : Int)] 3 1) 10 9 [0, 1, 2, 3, 4, 5, 6, 7, 8] rfl (by kernel_rfl) rfl rfl LS.start ?_
 simp only [opsAt, List.getElem?_cons_zero, List.getElem?_cons_succ, List.drop_succ_cons, List.drop_zero]
 repeat (first | (refine wpDA_here rfl (fun D w hS => run_ldq _ isAgg_asm _ rfl M 0 rfl (.pointer (some ⟨A, 0, none⟩)) (by rw [cell_of_row w M 0 _ _ _ (hS.get hB4)]; rfl)) ?_; simp only [Act.put, z5, z6, z7]) | (refine wpDA_here rfl (fun D w hS => run_ldq _ isAgg_int _ rfl g 0 rfl (.int .i64 ((b + k : Nat) : Int)) (cell_keep hv0 hS.bel)) ?_; simp only [Act.put, z5, z6, z7]) | (refine wpDA_pure (v := ?_) rfl (fun u => ?_) ?_; rotate_left; (focus (go_simp; (try with_reducible rfl); done)); simp only [Act.put, z5, z6, z7]))
 refine wpDA_nil ⟨fun w hS => ⟨_, _, hS.mk1, run_bi1_op _ _ rfl rfl⟩, fun s w1 hS => ?_⟩
 obtain ⟨x, rfl, hx1, hx2⟩ := hS.new s rfl
 have hb1 := hS.bel
 clear hS hv0 hv1 hv2 hB4
 go_wp2_with (first | (go_at_call 38; refine Calls.mono (TR.stepB T hb1 fun R2 h => get_k A b _ _ _ [b + k] R2 _ (h.below hb1) (IL.far h x hx1 _ _ hx2 _ _ _ rfl (vals1 (b + k))) (by (try simp only [zP, zN, zM, zL, zH, regs_len]); omega)) ?_; clear hb1; rintro e u2 ⟨rfl, T⟩) | ((with_reducible refine load_w ?_ 77 isAgg_asm _ rfl _ _ rfl _ _ (T.get hB hM.ne hM.nr) _ rfl ?_); (focus rfl)) | ((with_reducible refine load_w ?_ 3 isAgg_int _ rfl _ 1 rfl _ _ (T.get hB hM.ne hM.nr) _ rfl ?_); (focus rfl)) | (go_at_call 80; refine Calls.mono (T.step fun R2 h => lane_k A b _ 16 a (b + k + 2) false _ R2 _ h (by decide) (by omega) (by (try simp only [zP, zN, zM, zL, zH, regs_len]); omega)) ?_; rintro e u4 ⟨rfl, T⟩) | (go_at_call 82; refine Calls.mono (stop_2 _) ?_; rintro e u2 ⟨rfl, rfl⟩) | (go_at_call 39; refine Calls.mono (TR.stepM T hM fun R2 h m => mat_k M A 2 off b _ 61 0 _ R2 _ h m (by (try simp only [zP, zN, zM, zL, zH, regs_len]); omega) (by omega)) ?_; rintro e u2 ⟨rfl, T⟩))
 first | go_end0 | ((try simp only [Exit.inBlock, Exit.then]); refine bodyPost_ret (results_none rfl _ _ _) rfl ?_)
 have := TR.trans hC hF T
 have hp : (regs (b + k) 3).reverse = [b + k + 2, b + k + 1, b + k] := by simp [regs]
 rw [hp] at this
 exact ⟨rfl, by simpa [List.append_assoc] using this⟩
set_option maxRecDepth 100000 in
theorem lanest_4_0 (M A off b k i a : Nat) (l : List Cel) (R : Option Nat) (u : World) (h : TA A l b k R u) (hM : MA M A 4 off R u) (h1 : l.length + 100 ≤ 1000) (h2 : off < 4294967296) (hb : b + k ≤ 1000) (hi : i = 0 + a) (ha : a < 2) :
 Calls Tryz.prog 42 #[.pointer (some ⟨M, 0, none⟩), .bool false, .int .i64 (i : Int)] u fun e u' => e = .returned (.tuple #[]) ∧ TR A R u (l ++ ([b + k + 2, b + k + 1, b + k].map setc ++ getc (b + k) :: (laneC (b + k + 1) 32 a false ++ [atc 62 off]))) b (k + 3) u' := by
 have ed : (i : Int) / 2 = 0 := by omega
 have em : (i : Int) % 2 = (a : Int) := by omega
 have ew : IntKind.i64.wrap 2 = 2 := IntWalk.i64_in _ (by decide)
 have ew2 : IntKind.i64.wrap 1 = 1 := IntWalk.i64_in _ (by decide)
 have ew0 : IntKind.i64.wrap 0 = 0 := IntWalk.i64_in _ (by decide)
 have ew1 : IntKind.i64.wrap 1 = 1 := IntWalk.i64_in _ (by decide)
 have ewa : IntKind.i64.wrap (a : Int) = a := IntWalk.i64_in _ (by omega)
 have ew3 : IntKind.i64.wrap 32 = 32 := IntWalk.i64_in _ (by decide)
 clear hi
 have hll := laneC_len (b + k + 1) 32 a false
 have T := h.start
 clear h
 have hB := hM.blk
 go_enter Tryz.func42, Tryz.ntmps42
 go_wp2_with (first | ((with_reducible refine load_w ?_ 77 isAgg_asm _ rfl _ _ rfl _ _ (T.get hB hM.ne hM.nr) _ rfl ?_); (focus rfl)) | ((with_reducible refine load_w ?_ 3 isAgg_int _ rfl _ 1 rfl _ _ (T.get hB hM.ne hM.nr) _ rfl ?_); (focus rfl)) | (go_at_call 29; obtain ⟨R1, hA1, hC1, hF1⟩ := T.ex; have hM1 := hM.to hC1 hF1; refine Calls.mono (save_k A b k 3 _ R1 _ hA1 (by decide) (by omega) (by (try simp only [zP, zN, zM, zL, zH, regs_len]); omega)) ?_; clear T; rintro e u3 ⟨v, R3, rfl, hA3, hC3, hF3, hI⟩; have hM := hM1.to hC3 hF3; have hC := Chg.trans hC1 hC3 hF1; have hF := Frsh.trans hF1 hF3 hC1.size; clear hC1 hC3 hF1 hF3 hM1 hA1; have T := hA3.start; have hB := hM.blk; obtain ⟨g, c, rfl, h3⟩ := hI.three; clear hA3 hI))
 obtain ⟨hv0, hv1, hv2⟩ := h3.get T
 go_region
 clear hv0 hv1 hv2
 replace T := T.below (Below.refl _ _).drew
 try rw [em]
 generalize u3.drew = w5 at *
 simp only [Exit.then]
 go_at_K
 go_wp2_with fail
 obtain ⟨hv0, hv1, hv2⟩ := h3.get T
 have hB4 := T.get hB hM.ne hM.nr
 refine region_sp1 (LS _ #[.int .i64 ((b + k : Nat) : Int)] 3 1) 10 9 [0, 1, 2, 3, 4, 5, 6, 7, 8] rfl (by kernel_rfl) rfl rfl LS.start ?_
 simp only [opsAt, List.getElem?_cons_zero, List.getElem?_cons_succ, List.drop_succ_cons, List.drop_zero]
 repeat (first | (refine wpDA_here rfl (fun D w hS => run_ldq _ isAgg_asm _ rfl M 0 rfl (.pointer (some ⟨A, 0, none⟩)) (by rw [cell_of_row w M 0 _ _ _ (hS.get hB4)]; rfl)) ?_; simp only [Act.put, z5, z6, z7]) | (refine wpDA_here rfl (fun D w hS => run_ldq _ isAgg_int _ rfl g 0 rfl (.int .i64 ((b + k : Nat) : Int)) (cell_keep hv0 hS.bel)) ?_; simp only [Act.put, z5, z6, z7]) | (refine wpDA_pure (v := ?_) rfl (fun u => ?_) ?_; rotate_left; (focus (go_simp; (try with_reducible rfl); done)); simp only [Act.put, z5, z6, z7]))
 refine wpDA_nil ⟨fun w hS => ⟨_, _, hS.mk1, run_bi1_op _ _ rfl rfl⟩, fun s w1 hS => ?_⟩
 obtain ⟨x, rfl, hx1, hx2⟩ := hS.new s rfl
 have hb1 := hS.bel
 clear hS hv0 hv1 hv2 hB4
 go_wp2_with (first | (go_at_call 38; refine Calls.mono (TR.stepB T hb1 fun R2 h => get_k A b _ _ _ [b + k] R2 _ (h.below hb1) (IL.far h x hx1 _ _ hx2 _ _ _ rfl (vals1 (b + k))) (by (try simp only [zP, zN, zM, zL, zH, regs_len]); omega)) ?_; clear hb1; rintro e u2 ⟨rfl, T⟩) | ((with_reducible refine load_w ?_ 77 isAgg_asm _ rfl _ _ rfl _ _ (T.get hB hM.ne hM.nr) _ rfl ?_); (focus rfl)) | ((with_reducible refine load_w ?_ 3 isAgg_int _ rfl _ 1 rfl _ _ (T.get hB hM.ne hM.nr) _ rfl ?_); (focus rfl)) | (go_at_call 80; refine Calls.mono (T.step fun R2 h => lane_k A b _ 32 a (b + k + 1) false _ R2 _ h (by decide) (by omega) (by (try simp only [zP, zN, zM, zL, zH, regs_len]); omega)) ?_; rintro e u4 ⟨rfl, T⟩) | (go_at_call 82; refine Calls.mono (stop_4 _) ?_; rintro e u2 ⟨rfl, rfl⟩) | (go_at_call 39; refine Calls.mono (TR.stepM T hM fun R2 h m => mat_k M A 4 off b _ 62 0 _ R2 _ h m (by (try simp only [zP, zN, zM, zL, zH, regs_len]); omega) (by omega)) ?_; rintro e u2 ⟨rfl, T⟩))
 first | go_end0 | ((try simp only [Exit.inBlock, Exit.then]); refine bodyPost_ret (results_none rfl _ _ _) rfl ?_)
 have := TR.trans hC hF T
 have hp : (regs (b + k) 3).reverse = [b + k + 2, b + k + 1, b + k] := by simp [regs]
 rw [hp] at this
 exact ⟨rfl, by simpa [List.append_assoc] using this⟩
set_option maxRecDepth 100000 in
theorem lanest_4_1 (M A off b k i a : Nat) (l : List Cel) (R : Option Nat) (u : World) (h : TA A l b k R u) (hM : MA M A 4 off R u) (h1 : l.length + 100 ≤ 1000) (h2 : off < 4294967296) (hb : b + k ≤ 1000) (hi : i = 2 + a) (ha : a < 2) :
 Calls Tryz.prog 42 #[.pointer (some ⟨M, 0, none⟩), .bool false, .int .i64 (i : Int)] u fun e u' => e = .returned (.tuple #[]) ∧ TR A R u (l ++ ([b + k + 2, b + k + 1, b + k].map setc ++ getc (b + k) :: (laneC (b + k + 2) 32 a false ++ [atc 62 off]))) b (k + 3) u' := by
 have ed : (i : Int) / 2 = 1 := by omega
 have em : (i : Int) % 2 = (a : Int) := by omega
 have ew : IntKind.i64.wrap 2 = 2 := IntWalk.i64_in _ (by decide)
 have ew2 : IntKind.i64.wrap 2 = 2 := IntWalk.i64_in _ (by decide)
 have ew0 : IntKind.i64.wrap 0 = 0 := IntWalk.i64_in _ (by decide)
 have ew1 : IntKind.i64.wrap 1 = 1 := IntWalk.i64_in _ (by decide)
 have ewa : IntKind.i64.wrap (a : Int) = a := IntWalk.i64_in _ (by omega)
 have ew3 : IntKind.i64.wrap 32 = 32 := IntWalk.i64_in _ (by decide)
 clear hi
 have hll := laneC_len (b + k + 2) 32 a false
 have T := h.start
 clear h
 have hB := hM.blk
 go_enter Tryz.func42, Tryz.ntmps42
 go_wp2_with (first | ((with_reducible refine load_w ?_ 77 isAgg_asm _ rfl _ _ rfl _ _ (T.get hB hM.ne hM.nr) _ rfl ?_); (focus rfl)) | ((with_reducible refine load_w ?_ 3 isAgg_int _ rfl _ 1 rfl _ _ (T.get hB hM.ne hM.nr) _ rfl ?_); (focus rfl)) | (go_at_call 29; obtain ⟨R1, hA1, hC1, hF1⟩ := T.ex; have hM1 := hM.to hC1 hF1; refine Calls.mono (save_k A b k 3 _ R1 _ hA1 (by decide) (by omega) (by (try simp only [zP, zN, zM, zL, zH, regs_len]); omega)) ?_; clear T; rintro e u3 ⟨v, R3, rfl, hA3, hC3, hF3, hI⟩; have hM := hM1.to hC3 hF3; have hC := Chg.trans hC1 hC3 hF1; have hF := Frsh.trans hF1 hF3 hC1.size; clear hC1 hC3 hF1 hF3 hM1 hA1; have T := hA3.start; have hB := hM.blk; obtain ⟨g, c, rfl, h3⟩ := hI.three; clear hA3 hI))
 obtain ⟨hv0, hv1, hv2⟩ := h3.get T
 go_region
 clear hv0 hv1 hv2
 replace T := T.below (Below.refl _ _).drew
 try rw [em]
 generalize u3.drew = w5 at *
 simp only [Exit.then]
 go_at_K
 go_wp2_with fail
 obtain ⟨hv0, hv1, hv2⟩ := h3.get T
 have hB4 := T.get hB hM.ne hM.nr
 refine region_sp1 (LS _ #[.int .i64 ((b + k : Nat) : Int)] 3 1) 10 9 [0, 1, 2, 3, 4, 5, 6, 7, 8] rfl (by kernel_rfl) rfl rfl LS.start ?_
 simp only [opsAt, List.getElem?_cons_zero, List.getElem?_cons_succ, List.drop_succ_cons, List.drop_zero]
 repeat (first | (refine wpDA_here rfl (fun D w hS => run_ldq _ isAgg_asm _ rfl M 0 rfl (.pointer (some ⟨A, 0, none⟩)) (by rw [cell_of_row w M 0 _ _ _ (hS.get hB4)]; rfl)) ?_; simp only [Act.put, z5, z6, z7]) | (refine wpDA_here rfl (fun D w hS => run_ldq _ isAgg_int _ rfl g 0 rfl (.int .i64 ((b + k : Nat) : Int)) (cell_keep hv0 hS.bel)) ?_; simp only [Act.put, z5, z6, z7]) | (refine wpDA_pure (v := ?_) rfl (fun u => ?_) ?_; rotate_left; (focus (go_simp; (try with_reducible rfl); done)); simp only [Act.put, z5, z6, z7]))
 refine wpDA_nil ⟨fun w hS => ⟨_, _, hS.mk1, run_bi1_op _ _ rfl rfl⟩, fun s w1 hS => ?_⟩
 obtain ⟨x, rfl, hx1, hx2⟩ := hS.new s rfl
 have hb1 := hS.bel
 clear hS hv0 hv1 hv2 hB4
 go_wp2_with (first | (go_at_call 38; refine Calls.mono (TR.stepB T hb1 fun R2 h => get_k A b _ _ _ [b + k] R2 _ (h.below hb1) (IL.far h x hx1 _ _ hx2 _ _ _ rfl (vals1 (b + k))) (by (try simp only [zP, zN, zM, zL, zH, regs_len]); omega)) ?_; clear hb1; rintro e u2 ⟨rfl, T⟩) | ((with_reducible refine load_w ?_ 77 isAgg_asm _ rfl _ _ rfl _ _ (T.get hB hM.ne hM.nr) _ rfl ?_); (focus rfl)) | ((with_reducible refine load_w ?_ 3 isAgg_int _ rfl _ 1 rfl _ _ (T.get hB hM.ne hM.nr) _ rfl ?_); (focus rfl)) | (go_at_call 80; refine Calls.mono (T.step fun R2 h => lane_k A b _ 32 a (b + k + 2) false _ R2 _ h (by decide) (by omega) (by (try simp only [zP, zN, zM, zL, zH, regs_len]); omega)) ?_; rintro e u4 ⟨rfl, T⟩) | (go_at_call 82; refine Calls.mono (stop_4 _) ?_; rintro e u2 ⟨rfl, rfl⟩) | (go_at_call 39; refine Calls.mono (TR.stepM T hM fun R2 h m => mat_k M A 4 off b _ 62 0 _ R2 _ h m (by (try simp only [zP, zN, zM, zL, zH, regs_len]); omega) (by omega)) ?_; rintro e u2 ⟨rfl, T⟩))
 first | go_end0 | ((try simp only [Exit.inBlock, Exit.then]); refine bodyPost_ret (results_none rfl _ _ _) rfl ?_)
 have := TR.trans hC hF T
 have hp : (regs (b + k) 3).reverse = [b + k + 2, b + k + 1, b + k] := by simp [regs]
 rw [hp] at this
 exact ⟨rfl, by simpa [List.append_assoc] using this⟩
set_option maxRecDepth 100000 in
theorem lanest_8_0 (M A off b k : Nat) (l : List Cel) (R : Option Nat) (u : World) (h : TA A l b k R u) (hM : MA M A 8 off R u) (h1 : l.length + 100 ≤ 1000) (h2 : off < 4294967296) (hb : b + k ≤ 1000) :
 Calls Tryz.prog 42 #[.pointer (some ⟨M, 0, none⟩), .bool false, .int .i64 0] u fun e u' => e = .returned (.tuple #[]) ∧ TR A R u (l ++ ([b + k + 2, b + k + 1, b + k].map setc ++ getc (b + k) :: (laneC (b + k + 1) 64 0 false ++ [atc 55 off]))) b (k + 3) u' := by
 have ew2 : IntKind.i64.wrap 2 = 2 := IntWalk.i64_in _ (by decide)
 have ew0 : IntKind.i64.wrap 0 = 0 := IntWalk.i64_in _ (by decide)
 have ew : IntKind.i64.wrap 1 = 1 := IntWalk.i64_in _ (by decide)
 have ew3 : IntKind.i64.wrap 64 = 64 := IntWalk.i64_in _ (by decide)
 have hll := laneC_len (b + k + 1) 64 0 false
 have T := h.start
 clear h
 have hB := hM.blk
 go_enter Tryz.func42, Tryz.ntmps42
 go_wp2_with (first | ((with_reducible refine load_w ?_ 77 isAgg_asm _ rfl _ _ rfl _ _ (T.get hB hM.ne hM.nr) _ rfl ?_); (focus rfl)) | ((with_reducible refine load_w ?_ 3 isAgg_int _ rfl _ 1 rfl _ _ (T.get hB hM.ne hM.nr) _ rfl ?_); (focus rfl)) | (go_at_call 29; obtain ⟨R1, hA1, hC1, hF1⟩ := T.ex; have hM1 := hM.to hC1 hF1; refine Calls.mono (save_k A b k 3 _ R1 _ hA1 (by decide) (by omega) (by (try simp only [zP, zN, zM, zL, zH, regs_len]); omega)) ?_; clear T; rintro e u3 ⟨v, R3, rfl, hA3, hC3, hF3, hI⟩; have hM := hM1.to hC3 hF3; have hC := Chg.trans hC1 hC3 hF1; have hF := Frsh.trans hF1 hF3 hC1.size; clear hC1 hC3 hF1 hF3 hM1 hA1; have T := hA3.start; have hB := hM.blk; obtain ⟨g, c, rfl, h3⟩ := hI.three; clear hA3 hI))
 obtain ⟨hv0, hv1, hv2⟩ := h3.get T
 go_region
 clear hv0 hv1 hv2
 replace T := T.below (Below.refl _ _).drew
 try rw [em]
 generalize u3.drew = w5 at *
 simp only [Exit.then]
 go_at_K
 go_wp2_with fail
 obtain ⟨hv0, hv1, hv2⟩ := h3.get T
 have hB4 := T.get hB hM.ne hM.nr
 refine region_sp1 (LS _ #[.int .i64 ((b + k : Nat) : Int)] 3 1) 10 9 [0, 1, 2, 3, 4, 5, 6, 7, 8] rfl (by kernel_rfl) rfl rfl LS.start ?_
 simp only [opsAt, List.getElem?_cons_zero, List.getElem?_cons_succ, List.drop_succ_cons, List.drop_zero]
 repeat (first | (refine wpDA_here rfl (fun D w hS => run_ldq _ isAgg_asm _ rfl M 0 rfl (.pointer (some ⟨A, 0, none⟩)) (by rw [cell_of_row w M 0 _ _ _ (hS.get hB4)]; rfl)) ?_; simp only [Act.put, z5, z6, z7]) | (refine wpDA_here rfl (fun D w hS => run_ldq _ isAgg_int _ rfl g 0 rfl (.int .i64 ((b + k : Nat) : Int)) (cell_keep hv0 hS.bel)) ?_; simp only [Act.put, z5, z6, z7]) | (refine wpDA_pure (v := ?_) rfl (fun u => ?_) ?_; rotate_left; (focus (go_simp; (try with_reducible rfl); done)); simp only [Act.put, z5, z6, z7]))
 refine wpDA_nil ⟨fun w hS => ⟨_, _, hS.mk1, run_bi1_op _ _ rfl rfl⟩, fun s w1 hS => ?_⟩
 obtain ⟨x, rfl, hx1, hx2⟩ := hS.new s rfl
 have hb1 := hS.bel
 clear hS hv0 hv1 hv2 hB4
 go_wp2_with (first | (go_at_call 38; refine Calls.mono (TR.stepB T hb1 fun R2 h => get_k A b _ _ _ [b + k] R2 _ (h.below hb1) (IL.far h x hx1 _ _ hx2 _ _ _ rfl (vals1 (b + k))) (by (try simp only [zP, zN, zM, zL, zH, regs_len]); omega)) ?_; clear hb1; rintro e u2 ⟨rfl, T⟩) | ((with_reducible refine load_w ?_ 77 isAgg_asm _ rfl _ _ rfl _ _ (T.get hB hM.ne hM.nr) _ rfl ?_); (focus rfl)) | ((with_reducible refine load_w ?_ 3 isAgg_int _ rfl _ 1 rfl _ _ (T.get hB hM.ne hM.nr) _ rfl ?_); (focus rfl)) | (go_at_call 80; refine Calls.mono (T.step fun R2 h => lane_k A b _ 64 0 (b + k + 1) false _ R2 _ h (by decide) (by omega) (by (try simp only [zP, zN, zM, zL, zH, regs_len]); omega)) ?_; rintro e u4 ⟨rfl, T⟩) | (go_at_call 82; refine Calls.mono (stop_8 _) ?_; rintro e u2 ⟨rfl, rfl⟩) | (go_at_call 39; refine Calls.mono (TR.stepM T hM fun R2 h m => mat_k M A 8 off b _ 55 0 _ R2 _ h m (by (try simp only [zP, zN, zM, zL, zH, regs_len]); omega) (by omega)) ?_; rintro e u2 ⟨rfl, T⟩))
 first | go_end0 | ((try simp only [Exit.inBlock, Exit.then]); refine bodyPost_ret (results_none rfl _ _ _) rfl ?_)
 have := TR.trans hC hF T
 have hp : (regs (b + k) 3).reverse = [b + k + 2, b + k + 1, b + k] := by simp [regs]
 rw [hp] at this
 exact ⟨rfl, by simpa [List.append_assoc] using this⟩
set_option maxRecDepth 100000 in
theorem lanest_8_1 (M A off b k : Nat) (l : List Cel) (R : Option Nat) (u : World) (h : TA A l b k R u) (hM : MA M A 8 off R u) (h1 : l.length + 100 ≤ 1000) (h2 : off < 4294967296) (hb : b + k ≤ 1000) :
 Calls Tryz.prog 42 #[.pointer (some ⟨M, 0, none⟩), .bool false, .int .i64 1] u fun e u' => e = .returned (.tuple #[]) ∧ TR A R u (l ++ ([b + k + 2, b + k + 1, b + k].map setc ++ getc (b + k) :: (laneC (b + k + 2) 64 0 false ++ [atc 55 off]))) b (k + 3) u' := by
 have ew2 : IntKind.i64.wrap 2 = 2 := IntWalk.i64_in _ (by decide)
 have ew0 : IntKind.i64.wrap 0 = 0 := IntWalk.i64_in _ (by decide)
 have ew : IntKind.i64.wrap 1 = 1 := IntWalk.i64_in _ (by decide)
 have ew3 : IntKind.i64.wrap 64 = 64 := IntWalk.i64_in _ (by decide)
 have hll := laneC_len (b + k + 2) 64 0 false
 have T := h.start
 clear h
 have hB := hM.blk
 go_enter Tryz.func42, Tryz.ntmps42
 go_wp2_with (first | ((with_reducible refine load_w ?_ 77 isAgg_asm _ rfl _ _ rfl _ _ (T.get hB hM.ne hM.nr) _ rfl ?_); (focus rfl)) | ((with_reducible refine load_w ?_ 3 isAgg_int _ rfl _ 1 rfl _ _ (T.get hB hM.ne hM.nr) _ rfl ?_); (focus rfl)) | (go_at_call 29; obtain ⟨R1, hA1, hC1, hF1⟩ := T.ex; have hM1 := hM.to hC1 hF1; refine Calls.mono (save_k A b k 3 _ R1 _ hA1 (by decide) (by omega) (by (try simp only [zP, zN, zM, zL, zH, regs_len]); omega)) ?_; clear T; rintro e u3 ⟨v, R3, rfl, hA3, hC3, hF3, hI⟩; have hM := hM1.to hC3 hF3; have hC := Chg.trans hC1 hC3 hF1; have hF := Frsh.trans hF1 hF3 hC1.size; clear hC1 hC3 hF1 hF3 hM1 hA1; have T := hA3.start; have hB := hM.blk; obtain ⟨g, c, rfl, h3⟩ := hI.three; clear hA3 hI))
 obtain ⟨hv0, hv1, hv2⟩ := h3.get T
 go_region
 clear hv0 hv1 hv2
 replace T := T.below (Below.refl _ _).drew
 try rw [em]
 generalize u3.drew = w5 at *
 simp only [Exit.then]
 go_at_K
 go_wp2_with fail
 obtain ⟨hv0, hv1, hv2⟩ := h3.get T
 have hB4 := T.get hB hM.ne hM.nr
 refine region_sp1 (LS _ #[.int .i64 ((b + k : Nat) : Int)] 3 1) 10 9 [0, 1, 2, 3, 4, 5, 6, 7, 8] rfl (by kernel_rfl) rfl rfl LS.start ?_
 simp only [opsAt, List.getElem?_cons_zero, List.getElem?_cons_succ, List.drop_succ_cons, List.drop_zero]
 repeat (first | (refine wpDA_here rfl (fun D w hS => run_ldq _ isAgg_asm _ rfl M 0 rfl (.pointer (some ⟨A, 0, none⟩)) (by rw [cell_of_row w M 0 _ _ _ (hS.get hB4)]; rfl)) ?_; simp only [Act.put, z5, z6, z7]) | (refine wpDA_here rfl (fun D w hS => run_ldq _ isAgg_int _ rfl g 0 rfl (.int .i64 ((b + k : Nat) : Int)) (cell_keep hv0 hS.bel)) ?_; simp only [Act.put, z5, z6, z7]) | (refine wpDA_pure (v := ?_) rfl (fun u => ?_) ?_; rotate_left; (focus (go_simp; (try with_reducible rfl); done)); simp only [Act.put, z5, z6, z7]))
 refine wpDA_nil ⟨fun w hS => ⟨_, _, hS.mk1, run_bi1_op _ _ rfl rfl⟩, fun s w1 hS => ?_⟩
 obtain ⟨x, rfl, hx1, hx2⟩ := hS.new s rfl
 have hb1 := hS.bel
 clear hS hv0 hv1 hv2 hB4
 go_wp2_with (first | (go_at_call 38; refine Calls.mono (TR.stepB T hb1 fun R2 h => get_k A b _ _ _ [b + k] R2 _ (h.below hb1) (IL.far h x hx1 _ _ hx2 _ _ _ rfl (vals1 (b + k))) (by (try simp only [zP, zN, zM, zL, zH, regs_len]); omega)) ?_; clear hb1; rintro e u2 ⟨rfl, T⟩) | ((with_reducible refine load_w ?_ 77 isAgg_asm _ rfl _ _ rfl _ _ (T.get hB hM.ne hM.nr) _ rfl ?_); (focus rfl)) | ((with_reducible refine load_w ?_ 3 isAgg_int _ rfl _ 1 rfl _ _ (T.get hB hM.ne hM.nr) _ rfl ?_); (focus rfl)) | (go_at_call 80; refine Calls.mono (T.step fun R2 h => lane_k A b _ 64 0 (b + k + 2) false _ R2 _ h (by decide) (by omega) (by (try simp only [zP, zN, zM, zL, zH, regs_len]); omega)) ?_; rintro e u4 ⟨rfl, T⟩) | (go_at_call 82; refine Calls.mono (stop_8 _) ?_; rintro e u2 ⟨rfl, rfl⟩) | (go_at_call 39; refine Calls.mono (TR.stepM T hM fun R2 h m => mat_k M A 8 off b _ 55 0 _ R2 _ h m (by (try simp only [zP, zN, zM, zL, zH, regs_len]); omega) (by omega)) ?_; rintro e u2 ⟨rfl, T⟩))
 first | go_end0 | ((try simp only [Exit.inBlock, Exit.then]); refine bodyPost_ret (results_none rfl _ _ _) rfl ?_)
 have := TR.trans hC hF T
 have hp : (regs (b + k) 3).reverse = [b + k + 2, b + k + 1, b + k] := by simp [regs]
 rw [hp] at this
 exact ⟨rfl, by simpa [List.append_assoc] using this⟩
end Go.Proofs.YtmfmokblmipagaaGreat
