/-
  The walk of plaitlaw06.CompareMasks.
-/
import Derived.Test.YtifafdfjmhadaaaCmpL
import Derived.Test.YtifafdfjmhadaaaCmpM
namespace Go.Proofs.Ytifafdfjmhadaaa
open Go.RowKit Pl
set_option linter.unusedSimpArgs false
set_option linter.unusedVariables false

theorem lcmp_any (op : Int) (a b : Vec) (w : World) (ho : -9223372036854775808 ≤ op ∧ op ≤ 9223372036854775807) :
    Calls Try.prog 18 #[.int .i64 op, .agg (cells a), .agg (cells b)] w fun e w' => e = .returned (.agg (cells (cmpV op a b).1)) ∧ Below w.heap.size w w' := by
  have H := Lib.hid ho
  clear ho
  go_enter Try.func18, Try.ntmps18
  go_wp2_with (first | (with_reducible refine load_vec rfl _ rfl _ rfl _ (heap_alloc3_0 _ _ _ _) ?_) | (with_reducible refine load_vec rfl _ rfl _ rfl _ (heap_alloc3_1 _ _ _ _) ?_))
  refine (cmp_any op a b _ H.out).mono ?_
  rintro e u1 ⟨rfl, hb⟩
  have hX := blk_keep (heap_z3 w _ _ _) hb
  have hZ := (below_alloc3 w (.cells (cells a) 23) (.cells (cells b) 23) _).trans (hb.mono (by simp; omega))
  go_wp2_with (first | (with_reducible refine store_vec rfl _ _ rfl _ _ rfl rfl 0 (heap_new_zero _) ?_; intro wA hA; have hR2 := blk_sets (blk_alloc hX _) hA (Nat.ne_of_lt (block_lt hX)); have hZ2 := below_store hZ (Nat.le_refl _) hA) | (with_reducible refine load_vec rfl _ rfl _ rfl _ hA.this ?_) | (with_reducible refine store_vec rfl _ _ rfl (w.heap.size + 2) _ rfl rfl _ hR2 ?_; intro wq hq))
  exact bodyPost_ret (results_cell_row rfl _ _ (w.heap.size + 2) _ _ _ _ rfl hq.this vunder rfl (vsize _)) rfl ⟨rfl, hZ2.trans (hq.below.mono (by omega))⟩
/-- The world within the walk: v, a zero vector and the two lists of opcodes. -/
structure MK (w : World) (v : Vec) (Z LT EQ : Nat) (u : World) : Prop where
  hl : HL w [(Z, 0), (w.heap.size, v)] u
  lt : u.heap[LT]? = some (.cells #[.int .i64 64805, .int .i64 64815, .int .i64 64825, .int .i64 64984] 42 (0, 0))
  eq : u.heap[EQ]? = some (.cells #[.int .i64 64803, .int .i64 64813, .int .i64 64823, .int .i64 64982] 42 (0, 0))
theorem MK.below {w u u1 : World} {v : Vec} {Z LT EQ : Nat} (h : MK w v Z LT EQ u) (hb : Below u.heap.size u u1) : MK w v Z LT EQ u1 := ⟨h.hl.below hb, blk_keep h.lt hb, blk_keep h.eq hb⟩
theorem MK.drew {w u : World} {v : Vec} {Z LT EQ : Nat} (h : MK w v Z LT EQ u) : MK w v Z LT EQ u.drew := ⟨h.hl.drew, h.lt, h.eq⟩
theorem do_loadI {ops : Array Oper} {S : World → Prop} {L : Act → Prop} {o : Oper} {rest : List Oper} {a : Act} (hg : o.guard = none) (x : Operand) (ho : o.op = .load 3 x) (g j : Nat)
    (hx : a.eval x = .pointer (some ⟨g, j, none⟩)) (z : Value) (h : ∀ w, S w → w.cell? ⟨g, j, none⟩ = some z)
    (hr : wpD Try.prog ops S L rest (a.put o.dst z)) : wpD Try.prog ops S L (o :: rest) a :=
  wpD_here hg (fun w hS => by
    have ha : (isAgg 3).run Try.prog w = .ok false w := by kernel_rfl
    unfold execOp
    simp only [ho, hx, Instr.loadAt, Instr.sureAddr, Sem.run_bind, Sem.run_pure, Result.andThen_ok]
    simp [loadVar, Sem.run_bind, ha, h w hS, go_sem]) hr
theorem t_all8 (v : Vec) (W : World) : Calls Try.prog 13 #[.int .i64 64867, .agg (cells v)] W fun e w' => e = .returned (.tuple #[.int .u32 ((allR 8 v 16 : Nat) : Int), .int .i64 0]) ∧ Below W.heap.size W w' :=
  test_any 64867 v W ⟨by decide, by decide⟩
theorem t_msk8 (v : Vec) (W : World) : Calls Try.prog 13 #[.int .i64 64868, .agg (cells v)] W fun e w' => e = .returned (.tuple #[.int .u32 ((mskR 8 v 16 : Nat) : Int), .int .i64 0]) ∧ Below W.heap.size W w' :=
  test_any 64868 v W ⟨by decide, by decide⟩
theorem c_lt8 (v : Vec) (W : World) : Calls Try.prog 18 #[.int .i64 64805, .agg (cells v), .agg (cells 0)] W fun e w' => e = .returned (.agg (cells (buildOn 0 8 (mskN 8 2 v 0) 16))) ∧ Below W.heap.size W w' :=
  lcmp_any 64805 v 0 W ⟨by decide, by decide⟩
theorem c_eq8 (v : Vec) (W : World) : Calls Try.prog 18 #[.int .i64 64803, .agg (cells v), .agg (cells 0)] W fun e w' => e = .returned (.agg (cells (buildOn 0 8 (mskN 8 0 v 0) 16))) ∧ Below W.heap.size W w' :=
  lcmp_any 64803 v 0 W ⟨by decide, by decide⟩
theorem bit_test8 (v : Vec) (i : Nat) (hi : i < 16) : ((((mskR 8 v 16 : Nat) : Int) / 2 ^ i).tmod 2 == 1) = decide (sgn 8 (getN v 8 i) < 0) := by
  rw [← mskR_bit 8 v 16 i hi, Nat.testBit_eq_decide_div_mod_eq]
  generalize mskR 8 v 16 = m
  have e0 : (m : Int) / 2 ^ i = ((m / 2 ^ i : Nat) : Int) := by simp
  have e : ((m : Int) / 2 ^ i).tmod 2 = ((m / 2 ^ i % 2 : Nat) : Int) := by rw [e0, Int.tmod_eq_emod_of_nonneg (Int.natCast_nonneg _)]; simp
  rw [e, Bool.eq_iff_iff]
  simp
  omega
theorem t_all16 (v : Vec) (W : World) : Calls Try.prog 13 #[.int .i64 64899, .agg (cells v)] W fun e w' => e = .returned (.tuple #[.int .u32 ((allR 16 v 8 : Nat) : Int), .int .i64 0]) ∧ Below W.heap.size W w' :=
  test_any 64899 v W ⟨by decide, by decide⟩
theorem t_msk16 (v : Vec) (W : World) : Calls Try.prog 13 #[.int .i64 64900, .agg (cells v)] W fun e w' => e = .returned (.tuple #[.int .u32 ((mskR 16 v 8 : Nat) : Int), .int .i64 0]) ∧ Below W.heap.size W w' :=
  test_any 64900 v W ⟨by decide, by decide⟩
theorem c_lt16 (v : Vec) (W : World) : Calls Try.prog 18 #[.int .i64 64815, .agg (cells v), .agg (cells 0)] W fun e w' => e = .returned (.agg (cells (buildOn 0 16 (mskN 16 2 v 0) 8))) ∧ Below W.heap.size W w' :=
  lcmp_any 64815 v 0 W ⟨by decide, by decide⟩
theorem c_eq16 (v : Vec) (W : World) : Calls Try.prog 18 #[.int .i64 64813, .agg (cells v), .agg (cells 0)] W fun e w' => e = .returned (.agg (cells (buildOn 0 16 (mskN 16 0 v 0) 8))) ∧ Below W.heap.size W w' :=
  lcmp_any 64813 v 0 W ⟨by decide, by decide⟩
theorem bit_test16 (v : Vec) (i : Nat) (hi : i < 8) : ((((mskR 16 v 8 : Nat) : Int) / 2 ^ i).tmod 2 == 1) = decide (sgn 16 (getN v 16 i) < 0) := by
  rw [← mskR_bit 16 v 8 i hi, Nat.testBit_eq_decide_div_mod_eq]
  generalize mskR 16 v 8 = m
  have e0 : (m : Int) / 2 ^ i = ((m / 2 ^ i : Nat) : Int) := by simp
  have e : ((m : Int) / 2 ^ i).tmod 2 = ((m / 2 ^ i % 2 : Nat) : Int) := by rw [e0, Int.tmod_eq_emod_of_nonneg (Int.natCast_nonneg _)]; simp
  rw [e, Bool.eq_iff_iff]
  simp
  omega
theorem t_all32 (v : Vec) (W : World) : Calls Try.prog 13 #[.int .i64 64931, .agg (cells v)] W fun e w' => e = .returned (.tuple #[.int .u32 ((allR 32 v 4 : Nat) : Int), .int .i64 0]) ∧ Below W.heap.size W w' :=
  test_any 64931 v W ⟨by decide, by decide⟩
theorem t_msk32 (v : Vec) (W : World) : Calls Try.prog 13 #[.int .i64 64932, .agg (cells v)] W fun e w' => e = .returned (.tuple #[.int .u32 ((mskR 32 v 4 : Nat) : Int), .int .i64 0]) ∧ Below W.heap.size W w' :=
  test_any 64932 v W ⟨by decide, by decide⟩
theorem c_lt32 (v : Vec) (W : World) : Calls Try.prog 18 #[.int .i64 64825, .agg (cells v), .agg (cells 0)] W fun e w' => e = .returned (.agg (cells (buildOn 0 32 (mskN 32 2 v 0) 4))) ∧ Below W.heap.size W w' :=
  lcmp_any 64825 v 0 W ⟨by decide, by decide⟩
theorem c_eq32 (v : Vec) (W : World) : Calls Try.prog 18 #[.int .i64 64823, .agg (cells v), .agg (cells 0)] W fun e w' => e = .returned (.agg (cells (buildOn 0 32 (mskN 32 0 v 0) 4))) ∧ Below W.heap.size W w' :=
  lcmp_any 64823 v 0 W ⟨by decide, by decide⟩
theorem bit_test32 (v : Vec) (i : Nat) (hi : i < 4) : ((((mskR 32 v 4 : Nat) : Int) / 2 ^ i).tmod 2 == 1) = decide (sgn 32 (getN v 32 i) < 0) := by
  rw [← mskR_bit 32 v 4 i hi, Nat.testBit_eq_decide_div_mod_eq]
  generalize mskR 32 v 4 = m
  have e0 : (m : Int) / 2 ^ i = ((m / 2 ^ i : Nat) : Int) := by simp
  have e : ((m : Int) / 2 ^ i).tmod 2 = ((m / 2 ^ i % 2 : Nat) : Int) := by rw [e0, Int.tmod_eq_emod_of_nonneg (Int.natCast_nonneg _)]; simp
  rw [e, Bool.eq_iff_iff]
  simp
  omega
theorem t_all64 (v : Vec) (W : World) : Calls Try.prog 13 #[.int .i64 64963, .agg (cells v)] W fun e w' => e = .returned (.tuple #[.int .u32 ((allR 64 v 2 : Nat) : Int), .int .i64 0]) ∧ Below W.heap.size W w' :=
  test_any 64963 v W ⟨by decide, by decide⟩
theorem t_msk64 (v : Vec) (W : World) : Calls Try.prog 13 #[.int .i64 64964, .agg (cells v)] W fun e w' => e = .returned (.tuple #[.int .u32 ((mskR 64 v 2 : Nat) : Int), .int .i64 0]) ∧ Below W.heap.size W w' :=
  test_any 64964 v W ⟨by decide, by decide⟩
theorem c_lt64 (v : Vec) (W : World) : Calls Try.prog 18 #[.int .i64 64984, .agg (cells v), .agg (cells 0)] W fun e w' => e = .returned (.agg (cells (buildOn 0 64 (mskN 64 2 v 0) 2))) ∧ Below W.heap.size W w' :=
  lcmp_any 64984 v 0 W ⟨by decide, by decide⟩
theorem c_eq64 (v : Vec) (W : World) : Calls Try.prog 18 #[.int .i64 64982, .agg (cells v), .agg (cells 0)] W fun e w' => e = .returned (.agg (cells (buildOn 0 64 (mskN 64 0 v 0) 2))) ∧ Below W.heap.size W w' :=
  lcmp_any 64982 v 0 W ⟨by decide, by decide⟩
theorem bit_test64 (v : Vec) (i : Nat) (hi : i < 2) : ((((mskR 64 v 2 : Nat) : Int) / 2 ^ i).tmod 2 == 1) = decide (sgn 64 (getN v 64 i) < 0) := by
  rw [← mskR_bit 64 v 2 i hi, Nat.testBit_eq_decide_div_mod_eq]
  generalize mskR 64 v 2 = m
  have e0 : (m : Int) / 2 ^ i = ((m / 2 ^ i : Nat) : Int) := by simp
  have e : ((m : Int) / 2 ^ i).tmod 2 = ((m / 2 ^ i % 2 : Nat) : Int) := by rw [e0, Int.tmod_eq_emod_of_nonneg (Int.natCast_nonneg _)]; simp
  rw [e, Bool.eq_iff_iff]
  simp
  omega
set_option maxRecDepth 100000 in
set_option maxHeartbeats 4000000 in
theorem masks_walk (v : Vec) (w : World) :
    Calls Try.prog 7 #[.agg (cells v)] w fun e w' => e = .returned (.bool true) ∧ Below w.heap.size w w' := by
  have hs : HL w [(w.heap.size, v)] (w.alloc (.cells (cells v) 23)) := N1.start 0 ((Below.refl _ _).alloc (Nat.le_refl _) _) (by
    simp only [List.mem_cons, List.not_mem_nil, or_false, forall_eq]
    exact heap_alloc_new _ _)
  go_enter Try.func7, Try.ntmps7
  go_wp2_with (first | (go_at_call 10; (with_reducible refine (awake_any _).mono ?_); rintro e u ⟨rfl, hb⟩; replace hs := hs.below hb; clear hb) | (with_reducible refine load_vec rfl _ rfl _ rfl v (blk_alloc (hs.hold (_, v) (by simp)) _) ?_))
  rw [← cells_zero]
  replace hs := HL.pushz hs
  obtain ⟨W, hW⟩ : ∃ W, W = u.alloc (.cells (cells 0) 23) := ⟨_, rfl⟩
  obtain ⟨Z, hZ⟩ : ∃ Z, Z = u.heap.size := ⟨_, rfl⟩
  rw [← hW] at hs ⊢
  rw [← hZ] at hs ⊢
  clear hW hZ u
  obtain ⟨B, hB⟩ : ∃ B : Bool, B = !decide (v = 0) := ⟨_, rfl⟩
  obtain ⟨A, hA⟩ : ∃ A : Int, A = (if v = 0 then 0 else 1) := ⟨_, rfl⟩
  have T1 := test_any1 v W
  rw [← hA] at T1
  have e1 : (A == 1) = B := by
    rw [hA, hB]
    by_cases h : v = 0
    · rw [if_pos h, decide_eq_true h]; rfl
    · rw [if_neg h, decide_eq_false h]; rfl
  have e2 : A ≤ 1 := by rw [hA]; split <;> decide
  have e3 : 0 ≤ A := by rw [hA]; split <;> decide
  have hE := equal_vec v 0#128
  rw [show decide (v = 0#128) = !B by rw [hB, Bool.not_not]; rfl] at hE
  have hG := @guard_vec
  clear hA hB
  refine T1.mono ?_
  rintro e u ⟨rfl, hb⟩
  replace hs := hs.below hb
  clear hb T1
  go_wp2_with (first | (with_reducible refine load_vec rfl _ rfl _ rfl v (hs.hold (_, v) (List.mem_cons_of_mem _ List.mem_cons_self)) ?_) | (with_reducible refine load_vec rfl _ rfl _ rfl 0#128 (hs.hold (_, 0#128) List.mem_cons_self) ?_) | ((with_reducible refine load_vec_g ?_ _ rfl _ rfl v (hs.hold (_, v) (List.mem_cons_of_mem _ List.mem_cons_self)) ?_); (focus rfl)) | ((with_reducible refine load_vec_g ?_ _ rfl _ rfl 0#128 (hs.hold (_, 0#128) List.mem_cons_self) ?_); (focus rfl)))
  obtain ⟨LT, hLT⟩ : ∃ L, L = u.heap.size := ⟨_, rfl⟩
  have hm : MK w v Z LT (LT + 1) ((u.alloc (.cells #[.int .i64 64805, .int .i64 64815, .int .i64 64825, .int .i64 64984] 42)).alloc (.cells #[.int .i64 64803, .int .i64 64813, .int .i64 64823, .int .i64 64982] 42)) := by
    subst hLT
    exact ⟨HL.alloc (HL.alloc hs _) _, heap_alloc2_old _ _ _, heap_alloc2_new _ _ _⟩
  rw [← hLT]
  generalize (u.alloc (.cells #[.int .i64 64805, .int .i64 64815, .int .i64 64825, .int .i64 64984] 42)).alloc (.cells #[.int .i64 64803, .int .i64 64813, .int .i64 64823, .int .i64 64982] 42) = W2 at hm ⊢
  clear hLT hs e1 e2 e3 hE hG
  go_loopw [8] (fun ov wr => ∃ k : Int, (k = 0 ∨ k = 1 ∨ k = 2 ∨ k = 3 ∨ k = 4) ∧ ov = .int .i64 k ∧ MK w v Z LT (LT + 1) wr) (fun ov _ => (4 - intOf ov).toNat)
  case atStart => exact ⟨0, .inl rfl, rfl, hm⟩
  case round =>
    clear hm
    obtain ⟨k, hk, rfl, hs⟩ := hrel
    rcases hk with rfl | rfl | rfl | rfl | rfl

    · as_aux_lemma =>
      obtain ⟨M, hM⟩ : ∃ M, M = mskR 8 v 16 := ⟨_, rfl⟩
      obtain ⟨AL, hAL⟩ : ∃ a, a = allR 8 v 16 := ⟨_, rfl⟩
      obtain ⟨NN, hNN⟩ : ∃ a, a = mskR 8 (buildOn 0 8 (mskN 8 0 v 0) 16) 16 := ⟨_, rfl⟩
      have ml : M < 65536 := hM ▸ mskR_lt 8 v 16
      have al : AL ≤ 1 := hAL ▸ allR_le 8 v 16
      have nl : NN < 65536 := hNN ▸ mskR_lt 8 _ 16
      have hbm : mskR 8 (buildOn 0 8 (mskN 8 2 v 0) 16) 16 = M := hM ▸ below_msk 8 (by decide) v
      have hnm : NN = 0 ↔ AL = 1 := by rw [hNN, hAL]; exact none_msk 8 (by decide) v
      obtain ⟨C, hC⟩ : ∃ C : Bool, C = ((AL : Int) == 1) := ⟨_, rfl⟩
      have eN : ((NN : Int) == 0) = C := by rw [hC, Bool.eq_iff_iff]; simp; omega
      have eA : ((AL : Int) == 1) = C := hC.symm
      have sM : (M : Int) / 65536 = 0 := by omega
      have TA := fun W => t_all8 v W
      have TM := fun W => t_msk8 v W
      have TB := fun W => t_msk8 (buildOn 0 8 (mskN 8 2 v 0) 16) W
      have TN := fun W => t_msk8 (buildOn 0 8 (mskN 8 0 v 0) 16) W
      rw [← hAL] at TA
      rw [← hM] at TM
      rw [hbm] at TB
      rw [← hNN] at TN
      have bt : ∀ i, i < 16 → (((M : Int) / 2 ^ i).tmod 2 == 1) = decide (sgn 8 (getN v 8 i) < 0) := fun i hi => hM ▸ bit_test8 v i hi
      have BT := Lib.hid bt
      have HTA := Lib.hid TA
      have HTM := Lib.hid TM
      have HTB := Lib.hid TB
      have HTN := Lib.hid TN
      clear bt TA TM TB TN hbm hnm hM hAL hNN hC
      go_wp2_with (first | (with_reducible refine load_vec rfl _ rfl _ rfl v (hs.hl.hold (_, v) (List.mem_cons_of_mem _ List.mem_cons_self)) ?_) | (go_at_call 13; refine (HTA.out _).mono ?_; rintro e u ⟨rfl, hb⟩; replace hs := hs.below hb; clear hb HTA) | (go_at_call 13; refine (HTM.out _).mono ?_; rintro e u ⟨rfl, hb⟩; replace hs := hs.below hb; clear hb))
      refine region_do (MK w v Z LT (LT + 1)) 14 (by kernel_rfl) (by kernel_rfl) hs.drew ?_
      simp only [List.take_succ_cons, List.take_zero, List.drop_succ_cons, List.drop_zero]
      repeat (first | (refine do_loadI rfl _ rfl _ _ rfl (.int .i64 64805) (fun u hS => by rw [cell_of_row u _ _ _ _ _ hS.lt]; rfl) ?_; simp only [Act.put, List.setIfInBounds_toArray, List.set_cons_zero, List.set_cons_succ]) | (refine do_load rfl _ rfl _ rfl v (fun u hS => hS.hl.hold (_, v) (List.mem_cons_of_mem _ List.mem_cons_self)) ?_; simp only [Act.put, List.setIfInBounds_toArray, List.set_cons_zero, List.set_cons_succ]) | (refine do_load rfl _ rfl _ rfl 0 (fun u hS => hS.hl.hold (_, 0) List.mem_cons_self) ?_; simp only [Act.put, List.setIfInBounds_toArray, List.set_cons_zero, List.set_cons_succ]) | (refine wpD_pure (v := ?_) rfl (fun u => ?_) ?_; rotate_left; (focus (go_simp; (try with_reducible rfl); done)); simp only [Act.put, List.setIfInBounds_toArray, List.set_cons_zero, List.set_cons_succ]))
      (refine wpD_call (v := .agg (cells (buildOn 0 8 (mskN 8 2 v 0) 16))) rfl 18 ?_ (fun u => ?_) (fun u hS => ?_) ?_; rotate_left 1; (focus (go_simp; (try with_reducible rfl); done)); (focus (refine (c_lt8 v _).mono ?_; rintro e u2 ⟨rfl, hb⟩; exact ⟨rfl, hS.below hb⟩)); simp only [Act.put, List.setIfInBounds_toArray, List.set_cons_zero, List.set_cons_succ])
      repeat (first | (refine do_loadI rfl _ rfl _ _ rfl (.int .i64 64805) (fun u hS => by rw [cell_of_row u _ _ _ _ _ hS.lt]; rfl) ?_; simp only [Act.put, List.setIfInBounds_toArray, List.set_cons_zero, List.set_cons_succ]) | (refine do_load rfl _ rfl _ rfl v (fun u hS => hS.hl.hold (_, v) (List.mem_cons_of_mem _ List.mem_cons_self)) ?_; simp only [Act.put, List.setIfInBounds_toArray, List.set_cons_zero, List.set_cons_succ]) | (refine do_load rfl _ rfl _ rfl 0 (fun u hS => hS.hl.hold (_, 0) List.mem_cons_self) ?_; simp only [Act.put, List.setIfInBounds_toArray, List.set_cons_zero, List.set_cons_succ]) | (refine wpD_pure (v := ?_) rfl (fun u => ?_) ?_; rotate_left; (focus (go_simp; (try with_reducible rfl); done)); simp only [Act.put, List.setIfInBounds_toArray, List.set_cons_zero, List.set_cons_succ]))
      (refine wpD_call (v := .tuple #[.int .u32 (M : Int), .int .i64 0]) rfl 13 ?_ (fun u => ?_) (fun u hS => ?_) ?_; rotate_left 1; (focus (go_simp; (try with_reducible rfl); done)); (focus (refine (HTB.out _).mono ?_; rintro e u2 ⟨rfl, hb⟩; exact ⟨rfl, hS.below hb⟩)); simp only [Act.put, List.setIfInBounds_toArray, List.set_cons_zero, List.set_cons_succ])
      repeat (first | (refine do_loadI rfl _ rfl _ _ rfl (.int .i64 64805) (fun u hS => by rw [cell_of_row u _ _ _ _ _ hS.lt]; rfl) ?_; simp only [Act.put, List.setIfInBounds_toArray, List.set_cons_zero, List.set_cons_succ]) | (refine do_load rfl _ rfl _ rfl v (fun u hS => hS.hl.hold (_, v) (List.mem_cons_of_mem _ List.mem_cons_self)) ?_; simp only [Act.put, List.setIfInBounds_toArray, List.set_cons_zero, List.set_cons_succ]) | (refine do_load rfl _ rfl _ rfl 0 (fun u hS => hS.hl.hold (_, 0) List.mem_cons_self) ?_; simp only [Act.put, List.setIfInBounds_toArray, List.set_cons_zero, List.set_cons_succ]) | (refine wpD_pure (v := ?_) rfl (fun u => ?_) ?_; rotate_left; (focus (go_simp; (try with_reducible rfl); done)); simp only [Act.put, List.setIfInBounds_toArray, List.set_cons_zero, List.set_cons_succ]))
      refine wpD_nil (fun wr1 hr1 => ?_)
      replace hs := hr1
      clear hr1
      go_wp2_with fail
      refine region_do (MK w v Z LT (LT + 1)) 14 (by kernel_rfl) (by kernel_rfl) hs.drew ?_
      simp only [List.take_succ_cons, List.take_zero, List.drop_succ_cons, List.drop_zero]
      repeat (first | (refine do_loadI rfl _ rfl _ _ rfl (.int .i64 64803) (fun u hS => by rw [cell_of_row u _ _ _ _ _ hS.eq]; rfl) ?_; simp only [Act.put, List.setIfInBounds_toArray, List.set_cons_zero, List.set_cons_succ]) | (refine do_load rfl _ rfl _ rfl v (fun u hS => hS.hl.hold (_, v) (List.mem_cons_of_mem _ List.mem_cons_self)) ?_; simp only [Act.put, List.setIfInBounds_toArray, List.set_cons_zero, List.set_cons_succ]) | (refine do_load rfl _ rfl _ rfl 0 (fun u hS => hS.hl.hold (_, 0) List.mem_cons_self) ?_; simp only [Act.put, List.setIfInBounds_toArray, List.set_cons_zero, List.set_cons_succ]) | (refine wpD_pure (v := ?_) rfl (fun u => ?_) ?_; rotate_left; (focus (go_simp; (try with_reducible rfl); done)); simp only [Act.put, List.setIfInBounds_toArray, List.set_cons_zero, List.set_cons_succ]))
      (refine wpD_call (v := .agg (cells (buildOn 0 8 (mskN 8 0 v 0) 16))) rfl 18 ?_ (fun u => ?_) (fun u hS => ?_) ?_; rotate_left 1; (focus (go_simp; (try with_reducible rfl); done)); (focus (refine (c_eq8 v _).mono ?_; rintro e u2 ⟨rfl, hb⟩; exact ⟨rfl, hS.below hb⟩)); simp only [Act.put, List.setIfInBounds_toArray, List.set_cons_zero, List.set_cons_succ])
      repeat (first | (refine do_loadI rfl _ rfl _ _ rfl (.int .i64 64803) (fun u hS => by rw [cell_of_row u _ _ _ _ _ hS.eq]; rfl) ?_; simp only [Act.put, List.setIfInBounds_toArray, List.set_cons_zero, List.set_cons_succ]) | (refine do_load rfl _ rfl _ rfl v (fun u hS => hS.hl.hold (_, v) (List.mem_cons_of_mem _ List.mem_cons_self)) ?_; simp only [Act.put, List.setIfInBounds_toArray, List.set_cons_zero, List.set_cons_succ]) | (refine do_load rfl _ rfl _ rfl 0 (fun u hS => hS.hl.hold (_, 0) List.mem_cons_self) ?_; simp only [Act.put, List.setIfInBounds_toArray, List.set_cons_zero, List.set_cons_succ]) | (refine wpD_pure (v := ?_) rfl (fun u => ?_) ?_; rotate_left; (focus (go_simp; (try with_reducible rfl); done)); simp only [Act.put, List.setIfInBounds_toArray, List.set_cons_zero, List.set_cons_succ]))
      (refine wpD_call (v := .tuple #[.int .u32 (NN : Int), .int .i64 0]) rfl 13 ?_ (fun u => ?_) (fun u hS => ?_) ?_; rotate_left 1; (focus (go_simp; (try with_reducible rfl); done)); (focus (refine (HTN.out _).mono ?_; rintro e u2 ⟨rfl, hb⟩; exact ⟨rfl, hS.below hb⟩)); simp only [Act.put, List.setIfInBounds_toArray, List.set_cons_zero, List.set_cons_succ])
      repeat (first | (refine do_loadI rfl _ rfl _ _ rfl (.int .i64 64803) (fun u hS => by rw [cell_of_row u _ _ _ _ _ hS.eq]; rfl) ?_; simp only [Act.put, List.setIfInBounds_toArray, List.set_cons_zero, List.set_cons_succ]) | (refine do_load rfl _ rfl _ rfl v (fun u hS => hS.hl.hold (_, v) (List.mem_cons_of_mem _ List.mem_cons_self)) ?_; simp only [Act.put, List.setIfInBounds_toArray, List.set_cons_zero, List.set_cons_succ]) | (refine do_load rfl _ rfl _ rfl 0 (fun u hS => hS.hl.hold (_, 0) List.mem_cons_self) ?_; simp only [Act.put, List.setIfInBounds_toArray, List.set_cons_zero, List.set_cons_succ]) | (refine wpD_pure (v := ?_) rfl (fun u => ?_) ?_; rotate_left; (focus (go_simp; (try with_reducible rfl); done)); simp only [Act.put, List.setIfInBounds_toArray, List.set_cons_zero, List.set_cons_succ]))
      refine wpD_nil (fun wr1 hr1 => ?_)
      replace hs := hr1
      clear hr1
      go_wp2_with fail
      clear HTB HTN eN eA sM al nl
      go_loopw [18] (fun iv wr => ∃ i : Nat, i ≤ 16 ∧ iv = .int .i64 i ∧ MK w v Z LT (LT + 1) wr) (fun iv _ => 16 - (intOf iv).toNat)
      case atStart => exact ⟨0, Nat.zero_le _, rfl, hs⟩
      case round =>
        clear hs
        obtain ⟨i, hi, rfl, hs⟩ := hrel
        by_cases hlt : i < 16
        · have bI := BT.out i hlt
          by_cases hn : sgn 8 (getN v 8 i) < 0
          · as_aux_lemma =>
            rw [decide_eq_true hn] at bI
            go_wp2_with (first | (with_reducible refine load_vec rfl _ rfl _ rfl v (hs.hl.hold (_, v) (List.mem_cons_of_mem _ List.mem_cons_self)) ?_) | (go_at_call 20; (with_reducible refine (signed8z v _ i _ rfl (by omega)).mono ?_); rintro e u ⟨rfl, hb⟩; replace hs := hs.below hb; clear hb))
            go_roundw
            case rel => first | exact ⟨i + 1, by omega, by go_num, hs⟩ | ((repeat apply Exists.intro); exact ⟨⟨i + 1, by omega, by go_num, hs⟩, rfl⟩)
            case measure => (simp [intOf] <;> omega)
          · as_aux_lemma =>
            rw [decide_eq_false hn] at bI
            go_wp2_with (first | (with_reducible refine load_vec rfl _ rfl _ rfl v (hs.hl.hold (_, v) (List.mem_cons_of_mem _ List.mem_cons_self)) ?_) | (go_at_call 20; (with_reducible refine (signed8z v _ i _ rfl (by omega)).mono ?_); rintro e u ⟨rfl, hb⟩; replace hs := hs.below hb; clear hb))
            go_roundw
            case rel => first | exact ⟨i + 1, by omega, by go_num, hs⟩ | ((repeat apply Exists.intro); exact ⟨⟨i + 1, by omega, by go_num, hs⟩, rfl⟩)
            case measure => (simp [intOf] <;> omega)
        · obtain rfl : i = 16 := by omega
          go_wp2_with fail
          go_roundw
          case rel => first | exact ⟨1, by decide, rfl, hs⟩ | ((repeat apply Exists.intro); exact ⟨⟨1, by decide, rfl, hs⟩, rfl⟩)
          case measure => (simp [intOf] <;> omega)
    · as_aux_lemma =>
      obtain ⟨M, hM⟩ : ∃ M, M = mskR 16 v 8 := ⟨_, rfl⟩
      obtain ⟨AL, hAL⟩ : ∃ a, a = allR 16 v 8 := ⟨_, rfl⟩
      obtain ⟨NN, hNN⟩ : ∃ a, a = mskR 16 (buildOn 0 16 (mskN 16 0 v 0) 8) 8 := ⟨_, rfl⟩
      have ml : M < 256 := hM ▸ mskR_lt 16 v 8
      have al : AL ≤ 1 := hAL ▸ allR_le 16 v 8
      have nl : NN < 256 := hNN ▸ mskR_lt 16 _ 8
      have hbm : mskR 16 (buildOn 0 16 (mskN 16 2 v 0) 8) 8 = M := hM ▸ below_msk 16 (by decide) v
      have hnm : NN = 0 ↔ AL = 1 := by rw [hNN, hAL]; exact none_msk 16 (by decide) v
      obtain ⟨C, hC⟩ : ∃ C : Bool, C = ((AL : Int) == 1) := ⟨_, rfl⟩
      have eN : ((NN : Int) == 0) = C := by rw [hC, Bool.eq_iff_iff]; simp; omega
      have eA : ((AL : Int) == 1) = C := hC.symm
      have sM : (M : Int) / 256 = 0 := by omega
      have TA := fun W => t_all16 v W
      have TM := fun W => t_msk16 v W
      have TB := fun W => t_msk16 (buildOn 0 16 (mskN 16 2 v 0) 8) W
      have TN := fun W => t_msk16 (buildOn 0 16 (mskN 16 0 v 0) 8) W
      rw [← hAL] at TA
      rw [← hM] at TM
      rw [hbm] at TB
      rw [← hNN] at TN
      have bt : ∀ i, i < 8 → (((M : Int) / 2 ^ i).tmod 2 == 1) = decide (sgn 16 (getN v 16 i) < 0) := fun i hi => hM ▸ bit_test16 v i hi
      have BT := Lib.hid bt
      have HTA := Lib.hid TA
      have HTM := Lib.hid TM
      have HTB := Lib.hid TB
      have HTN := Lib.hid TN
      clear bt TA TM TB TN hbm hnm hM hAL hNN hC
      go_wp2_with (first | (with_reducible refine load_vec rfl _ rfl _ rfl v (hs.hl.hold (_, v) (List.mem_cons_of_mem _ List.mem_cons_self)) ?_) | (go_at_call 13; refine (HTA.out _).mono ?_; rintro e u ⟨rfl, hb⟩; replace hs := hs.below hb; clear hb HTA) | (go_at_call 13; refine (HTM.out _).mono ?_; rintro e u ⟨rfl, hb⟩; replace hs := hs.below hb; clear hb))
      refine region_do (MK w v Z LT (LT + 1)) 14 (by kernel_rfl) (by kernel_rfl) hs.drew ?_
      simp only [List.take_succ_cons, List.take_zero, List.drop_succ_cons, List.drop_zero]
      repeat (first | (refine do_loadI rfl _ rfl _ _ rfl (.int .i64 64815) (fun u hS => by rw [cell_of_row u _ _ _ _ _ hS.lt]; rfl) ?_; simp only [Act.put, List.setIfInBounds_toArray, List.set_cons_zero, List.set_cons_succ]) | (refine do_load rfl _ rfl _ rfl v (fun u hS => hS.hl.hold (_, v) (List.mem_cons_of_mem _ List.mem_cons_self)) ?_; simp only [Act.put, List.setIfInBounds_toArray, List.set_cons_zero, List.set_cons_succ]) | (refine do_load rfl _ rfl _ rfl 0 (fun u hS => hS.hl.hold (_, 0) List.mem_cons_self) ?_; simp only [Act.put, List.setIfInBounds_toArray, List.set_cons_zero, List.set_cons_succ]) | (refine wpD_pure (v := ?_) rfl (fun u => ?_) ?_; rotate_left; (focus (go_simp; (try with_reducible rfl); done)); simp only [Act.put, List.setIfInBounds_toArray, List.set_cons_zero, List.set_cons_succ]))
      (refine wpD_call (v := .agg (cells (buildOn 0 16 (mskN 16 2 v 0) 8))) rfl 18 ?_ (fun u => ?_) (fun u hS => ?_) ?_; rotate_left 1; (focus (go_simp; (try with_reducible rfl); done)); (focus (refine (c_lt16 v _).mono ?_; rintro e u2 ⟨rfl, hb⟩; exact ⟨rfl, hS.below hb⟩)); simp only [Act.put, List.setIfInBounds_toArray, List.set_cons_zero, List.set_cons_succ])
      repeat (first | (refine do_loadI rfl _ rfl _ _ rfl (.int .i64 64815) (fun u hS => by rw [cell_of_row u _ _ _ _ _ hS.lt]; rfl) ?_; simp only [Act.put, List.setIfInBounds_toArray, List.set_cons_zero, List.set_cons_succ]) | (refine do_load rfl _ rfl _ rfl v (fun u hS => hS.hl.hold (_, v) (List.mem_cons_of_mem _ List.mem_cons_self)) ?_; simp only [Act.put, List.setIfInBounds_toArray, List.set_cons_zero, List.set_cons_succ]) | (refine do_load rfl _ rfl _ rfl 0 (fun u hS => hS.hl.hold (_, 0) List.mem_cons_self) ?_; simp only [Act.put, List.setIfInBounds_toArray, List.set_cons_zero, List.set_cons_succ]) | (refine wpD_pure (v := ?_) rfl (fun u => ?_) ?_; rotate_left; (focus (go_simp; (try with_reducible rfl); done)); simp only [Act.put, List.setIfInBounds_toArray, List.set_cons_zero, List.set_cons_succ]))
      (refine wpD_call (v := .tuple #[.int .u32 (M : Int), .int .i64 0]) rfl 13 ?_ (fun u => ?_) (fun u hS => ?_) ?_; rotate_left 1; (focus (go_simp; (try with_reducible rfl); done)); (focus (refine (HTB.out _).mono ?_; rintro e u2 ⟨rfl, hb⟩; exact ⟨rfl, hS.below hb⟩)); simp only [Act.put, List.setIfInBounds_toArray, List.set_cons_zero, List.set_cons_succ])
      repeat (first | (refine do_loadI rfl _ rfl _ _ rfl (.int .i64 64815) (fun u hS => by rw [cell_of_row u _ _ _ _ _ hS.lt]; rfl) ?_; simp only [Act.put, List.setIfInBounds_toArray, List.set_cons_zero, List.set_cons_succ]) | (refine do_load rfl _ rfl _ rfl v (fun u hS => hS.hl.hold (_, v) (List.mem_cons_of_mem _ List.mem_cons_self)) ?_; simp only [Act.put, List.setIfInBounds_toArray, List.set_cons_zero, List.set_cons_succ]) | (refine do_load rfl _ rfl _ rfl 0 (fun u hS => hS.hl.hold (_, 0) List.mem_cons_self) ?_; simp only [Act.put, List.setIfInBounds_toArray, List.set_cons_zero, List.set_cons_succ]) | (refine wpD_pure (v := ?_) rfl (fun u => ?_) ?_; rotate_left; (focus (go_simp; (try with_reducible rfl); done)); simp only [Act.put, List.setIfInBounds_toArray, List.set_cons_zero, List.set_cons_succ]))
      refine wpD_nil (fun wr1 hr1 => ?_)
      replace hs := hr1
      clear hr1
      go_wp2_with fail
      refine region_do (MK w v Z LT (LT + 1)) 14 (by kernel_rfl) (by kernel_rfl) hs.drew ?_
      simp only [List.take_succ_cons, List.take_zero, List.drop_succ_cons, List.drop_zero]
      repeat (first | (refine do_loadI rfl _ rfl _ _ rfl (.int .i64 64813) (fun u hS => by rw [cell_of_row u _ _ _ _ _ hS.eq]; rfl) ?_; simp only [Act.put, List.setIfInBounds_toArray, List.set_cons_zero, List.set_cons_succ]) | (refine do_load rfl _ rfl _ rfl v (fun u hS => hS.hl.hold (_, v) (List.mem_cons_of_mem _ List.mem_cons_self)) ?_; simp only [Act.put, List.setIfInBounds_toArray, List.set_cons_zero, List.set_cons_succ]) | (refine do_load rfl _ rfl _ rfl 0 (fun u hS => hS.hl.hold (_, 0) List.mem_cons_self) ?_; simp only [Act.put, List.setIfInBounds_toArray, List.set_cons_zero, List.set_cons_succ]) | (refine wpD_pure (v := ?_) rfl (fun u => ?_) ?_; rotate_left; (focus (go_simp; (try with_reducible rfl); done)); simp only [Act.put, List.setIfInBounds_toArray, List.set_cons_zero, List.set_cons_succ]))
      (refine wpD_call (v := .agg (cells (buildOn 0 16 (mskN 16 0 v 0) 8))) rfl 18 ?_ (fun u => ?_) (fun u hS => ?_) ?_; rotate_left 1; (focus (go_simp; (try with_reducible rfl); done)); (focus (refine (c_eq16 v _).mono ?_; rintro e u2 ⟨rfl, hb⟩; exact ⟨rfl, hS.below hb⟩)); simp only [Act.put, List.setIfInBounds_toArray, List.set_cons_zero, List.set_cons_succ])
      repeat (first | (refine do_loadI rfl _ rfl _ _ rfl (.int .i64 64813) (fun u hS => by rw [cell_of_row u _ _ _ _ _ hS.eq]; rfl) ?_; simp only [Act.put, List.setIfInBounds_toArray, List.set_cons_zero, List.set_cons_succ]) | (refine do_load rfl _ rfl _ rfl v (fun u hS => hS.hl.hold (_, v) (List.mem_cons_of_mem _ List.mem_cons_self)) ?_; simp only [Act.put, List.setIfInBounds_toArray, List.set_cons_zero, List.set_cons_succ]) | (refine do_load rfl _ rfl _ rfl 0 (fun u hS => hS.hl.hold (_, 0) List.mem_cons_self) ?_; simp only [Act.put, List.setIfInBounds_toArray, List.set_cons_zero, List.set_cons_succ]) | (refine wpD_pure (v := ?_) rfl (fun u => ?_) ?_; rotate_left; (focus (go_simp; (try with_reducible rfl); done)); simp only [Act.put, List.setIfInBounds_toArray, List.set_cons_zero, List.set_cons_succ]))
      (refine wpD_call (v := .tuple #[.int .u32 (NN : Int), .int .i64 0]) rfl 13 ?_ (fun u => ?_) (fun u hS => ?_) ?_; rotate_left 1; (focus (go_simp; (try with_reducible rfl); done)); (focus (refine (HTN.out _).mono ?_; rintro e u2 ⟨rfl, hb⟩; exact ⟨rfl, hS.below hb⟩)); simp only [Act.put, List.setIfInBounds_toArray, List.set_cons_zero, List.set_cons_succ])
      repeat (first | (refine do_loadI rfl _ rfl _ _ rfl (.int .i64 64813) (fun u hS => by rw [cell_of_row u _ _ _ _ _ hS.eq]; rfl) ?_; simp only [Act.put, List.setIfInBounds_toArray, List.set_cons_zero, List.set_cons_succ]) | (refine do_load rfl _ rfl _ rfl v (fun u hS => hS.hl.hold (_, v) (List.mem_cons_of_mem _ List.mem_cons_self)) ?_; simp only [Act.put, List.setIfInBounds_toArray, List.set_cons_zero, List.set_cons_succ]) | (refine do_load rfl _ rfl _ rfl 0 (fun u hS => hS.hl.hold (_, 0) List.mem_cons_self) ?_; simp only [Act.put, List.setIfInBounds_toArray, List.set_cons_zero, List.set_cons_succ]) | (refine wpD_pure (v := ?_) rfl (fun u => ?_) ?_; rotate_left; (focus (go_simp; (try with_reducible rfl); done)); simp only [Act.put, List.setIfInBounds_toArray, List.set_cons_zero, List.set_cons_succ]))
      refine wpD_nil (fun wr1 hr1 => ?_)
      replace hs := hr1
      clear hr1
      go_wp2_with fail
      clear HTB HTN eN eA sM al nl
      go_loopw [18] (fun iv wr => ∃ i : Nat, i ≤ 8 ∧ iv = .int .i64 i ∧ MK w v Z LT (LT + 1) wr) (fun iv _ => 8 - (intOf iv).toNat)
      case atStart => exact ⟨0, Nat.zero_le _, rfl, hs⟩
      case round =>
        clear hs
        obtain ⟨i, hi, rfl, hs⟩ := hrel
        by_cases hlt : i < 8
        · have bI := BT.out i hlt
          by_cases hn : sgn 16 (getN v 16 i) < 0
          · as_aux_lemma =>
            rw [decide_eq_true hn] at bI
            go_wp2_with (first | (with_reducible refine load_vec rfl _ rfl _ rfl v (hs.hl.hold (_, v) (List.mem_cons_of_mem _ List.mem_cons_self)) ?_) | (go_at_call 20; (with_reducible refine (signed16z v _ i _ rfl (by omega)).mono ?_); rintro e u ⟨rfl, hb⟩; replace hs := hs.below hb; clear hb))
            go_roundw
            case rel => first | exact ⟨i + 1, by omega, by go_num, hs⟩ | ((repeat apply Exists.intro); exact ⟨⟨i + 1, by omega, by go_num, hs⟩, rfl⟩)
            case measure => (simp [intOf] <;> omega)
          · as_aux_lemma =>
            rw [decide_eq_false hn] at bI
            go_wp2_with (first | (with_reducible refine load_vec rfl _ rfl _ rfl v (hs.hl.hold (_, v) (List.mem_cons_of_mem _ List.mem_cons_self)) ?_) | (go_at_call 20; (with_reducible refine (signed16z v _ i _ rfl (by omega)).mono ?_); rintro e u ⟨rfl, hb⟩; replace hs := hs.below hb; clear hb))
            go_roundw
            case rel => first | exact ⟨i + 1, by omega, by go_num, hs⟩ | ((repeat apply Exists.intro); exact ⟨⟨i + 1, by omega, by go_num, hs⟩, rfl⟩)
            case measure => (simp [intOf] <;> omega)
        · obtain rfl : i = 8 := by omega
          go_wp2_with fail
          go_roundw
          case rel => first | exact ⟨2, by decide, rfl, hs⟩ | ((repeat apply Exists.intro); exact ⟨⟨2, by decide, rfl, hs⟩, rfl⟩)
          case measure => (simp [intOf] <;> omega)
    · as_aux_lemma =>
      obtain ⟨M, hM⟩ : ∃ M, M = mskR 32 v 4 := ⟨_, rfl⟩
      obtain ⟨AL, hAL⟩ : ∃ a, a = allR 32 v 4 := ⟨_, rfl⟩
      obtain ⟨NN, hNN⟩ : ∃ a, a = mskR 32 (buildOn 0 32 (mskN 32 0 v 0) 4) 4 := ⟨_, rfl⟩
      have ml : M < 16 := hM ▸ mskR_lt 32 v 4
      have al : AL ≤ 1 := hAL ▸ allR_le 32 v 4
      have nl : NN < 16 := hNN ▸ mskR_lt 32 _ 4
      have hbm : mskR 32 (buildOn 0 32 (mskN 32 2 v 0) 4) 4 = M := hM ▸ below_msk 32 (by decide) v
      have hnm : NN = 0 ↔ AL = 1 := by rw [hNN, hAL]; exact none_msk 32 (by decide) v
      obtain ⟨C, hC⟩ : ∃ C : Bool, C = ((AL : Int) == 1) := ⟨_, rfl⟩
      have eN : ((NN : Int) == 0) = C := by rw [hC, Bool.eq_iff_iff]; simp; omega
      have eA : ((AL : Int) == 1) = C := hC.symm
      have sM : (M : Int) / 16 = 0 := by omega
      have TA := fun W => t_all32 v W
      have TM := fun W => t_msk32 v W
      have TB := fun W => t_msk32 (buildOn 0 32 (mskN 32 2 v 0) 4) W
      have TN := fun W => t_msk32 (buildOn 0 32 (mskN 32 0 v 0) 4) W
      rw [← hAL] at TA
      rw [← hM] at TM
      rw [hbm] at TB
      rw [← hNN] at TN
      have bt : ∀ i, i < 4 → (((M : Int) / 2 ^ i).tmod 2 == 1) = decide (sgn 32 (getN v 32 i) < 0) := fun i hi => hM ▸ bit_test32 v i hi
      have BT := Lib.hid bt
      have HTA := Lib.hid TA
      have HTM := Lib.hid TM
      have HTB := Lib.hid TB
      have HTN := Lib.hid TN
      clear bt TA TM TB TN hbm hnm hM hAL hNN hC
      go_wp2_with (first | (with_reducible refine load_vec rfl _ rfl _ rfl v (hs.hl.hold (_, v) (List.mem_cons_of_mem _ List.mem_cons_self)) ?_) | (go_at_call 13; refine (HTA.out _).mono ?_; rintro e u ⟨rfl, hb⟩; replace hs := hs.below hb; clear hb HTA) | (go_at_call 13; refine (HTM.out _).mono ?_; rintro e u ⟨rfl, hb⟩; replace hs := hs.below hb; clear hb))
      refine region_do (MK w v Z LT (LT + 1)) 14 (by kernel_rfl) (by kernel_rfl) hs.drew ?_
      simp only [List.take_succ_cons, List.take_zero, List.drop_succ_cons, List.drop_zero]
      repeat (first | (refine do_loadI rfl _ rfl _ _ rfl (.int .i64 64825) (fun u hS => by rw [cell_of_row u _ _ _ _ _ hS.lt]; rfl) ?_; simp only [Act.put, List.setIfInBounds_toArray, List.set_cons_zero, List.set_cons_succ]) | (refine do_load rfl _ rfl _ rfl v (fun u hS => hS.hl.hold (_, v) (List.mem_cons_of_mem _ List.mem_cons_self)) ?_; simp only [Act.put, List.setIfInBounds_toArray, List.set_cons_zero, List.set_cons_succ]) | (refine do_load rfl _ rfl _ rfl 0 (fun u hS => hS.hl.hold (_, 0) List.mem_cons_self) ?_; simp only [Act.put, List.setIfInBounds_toArray, List.set_cons_zero, List.set_cons_succ]) | (refine wpD_pure (v := ?_) rfl (fun u => ?_) ?_; rotate_left; (focus (go_simp; (try with_reducible rfl); done)); simp only [Act.put, List.setIfInBounds_toArray, List.set_cons_zero, List.set_cons_succ]))
      (refine wpD_call (v := .agg (cells (buildOn 0 32 (mskN 32 2 v 0) 4))) rfl 18 ?_ (fun u => ?_) (fun u hS => ?_) ?_; rotate_left 1; (focus (go_simp; (try with_reducible rfl); done)); (focus (refine (c_lt32 v _).mono ?_; rintro e u2 ⟨rfl, hb⟩; exact ⟨rfl, hS.below hb⟩)); simp only [Act.put, List.setIfInBounds_toArray, List.set_cons_zero, List.set_cons_succ])
      repeat (first | (refine do_loadI rfl _ rfl _ _ rfl (.int .i64 64825) (fun u hS => by rw [cell_of_row u _ _ _ _ _ hS.lt]; rfl) ?_; simp only [Act.put, List.setIfInBounds_toArray, List.set_cons_zero, List.set_cons_succ]) | (refine do_load rfl _ rfl _ rfl v (fun u hS => hS.hl.hold (_, v) (List.mem_cons_of_mem _ List.mem_cons_self)) ?_; simp only [Act.put, List.setIfInBounds_toArray, List.set_cons_zero, List.set_cons_succ]) | (refine do_load rfl _ rfl _ rfl 0 (fun u hS => hS.hl.hold (_, 0) List.mem_cons_self) ?_; simp only [Act.put, List.setIfInBounds_toArray, List.set_cons_zero, List.set_cons_succ]) | (refine wpD_pure (v := ?_) rfl (fun u => ?_) ?_; rotate_left; (focus (go_simp; (try with_reducible rfl); done)); simp only [Act.put, List.setIfInBounds_toArray, List.set_cons_zero, List.set_cons_succ]))
      (refine wpD_call (v := .tuple #[.int .u32 (M : Int), .int .i64 0]) rfl 13 ?_ (fun u => ?_) (fun u hS => ?_) ?_; rotate_left 1; (focus (go_simp; (try with_reducible rfl); done)); (focus (refine (HTB.out _).mono ?_; rintro e u2 ⟨rfl, hb⟩; exact ⟨rfl, hS.below hb⟩)); simp only [Act.put, List.setIfInBounds_toArray, List.set_cons_zero, List.set_cons_succ])
      repeat (first | (refine do_loadI rfl _ rfl _ _ rfl (.int .i64 64825) (fun u hS => by rw [cell_of_row u _ _ _ _ _ hS.lt]; rfl) ?_; simp only [Act.put, List.setIfInBounds_toArray, List.set_cons_zero, List.set_cons_succ]) | (refine do_load rfl _ rfl _ rfl v (fun u hS => hS.hl.hold (_, v) (List.mem_cons_of_mem _ List.mem_cons_self)) ?_; simp only [Act.put, List.setIfInBounds_toArray, List.set_cons_zero, List.set_cons_succ]) | (refine do_load rfl _ rfl _ rfl 0 (fun u hS => hS.hl.hold (_, 0) List.mem_cons_self) ?_; simp only [Act.put, List.setIfInBounds_toArray, List.set_cons_zero, List.set_cons_succ]) | (refine wpD_pure (v := ?_) rfl (fun u => ?_) ?_; rotate_left; (focus (go_simp; (try with_reducible rfl); done)); simp only [Act.put, List.setIfInBounds_toArray, List.set_cons_zero, List.set_cons_succ]))
      refine wpD_nil (fun wr1 hr1 => ?_)
      replace hs := hr1
      clear hr1
      go_wp2_with fail
      refine region_do (MK w v Z LT (LT + 1)) 14 (by kernel_rfl) (by kernel_rfl) hs.drew ?_
      simp only [List.take_succ_cons, List.take_zero, List.drop_succ_cons, List.drop_zero]
      repeat (first | (refine do_loadI rfl _ rfl _ _ rfl (.int .i64 64823) (fun u hS => by rw [cell_of_row u _ _ _ _ _ hS.eq]; rfl) ?_; simp only [Act.put, List.setIfInBounds_toArray, List.set_cons_zero, List.set_cons_succ]) | (refine do_load rfl _ rfl _ rfl v (fun u hS => hS.hl.hold (_, v) (List.mem_cons_of_mem _ List.mem_cons_self)) ?_; simp only [Act.put, List.setIfInBounds_toArray, List.set_cons_zero, List.set_cons_succ]) | (refine do_load rfl _ rfl _ rfl 0 (fun u hS => hS.hl.hold (_, 0) List.mem_cons_self) ?_; simp only [Act.put, List.setIfInBounds_toArray, List.set_cons_zero, List.set_cons_succ]) | (refine wpD_pure (v := ?_) rfl (fun u => ?_) ?_; rotate_left; (focus (go_simp; (try with_reducible rfl); done)); simp only [Act.put, List.setIfInBounds_toArray, List.set_cons_zero, List.set_cons_succ]))
      (refine wpD_call (v := .agg (cells (buildOn 0 32 (mskN 32 0 v 0) 4))) rfl 18 ?_ (fun u => ?_) (fun u hS => ?_) ?_; rotate_left 1; (focus (go_simp; (try with_reducible rfl); done)); (focus (refine (c_eq32 v _).mono ?_; rintro e u2 ⟨rfl, hb⟩; exact ⟨rfl, hS.below hb⟩)); simp only [Act.put, List.setIfInBounds_toArray, List.set_cons_zero, List.set_cons_succ])
      repeat (first | (refine do_loadI rfl _ rfl _ _ rfl (.int .i64 64823) (fun u hS => by rw [cell_of_row u _ _ _ _ _ hS.eq]; rfl) ?_; simp only [Act.put, List.setIfInBounds_toArray, List.set_cons_zero, List.set_cons_succ]) | (refine do_load rfl _ rfl _ rfl v (fun u hS => hS.hl.hold (_, v) (List.mem_cons_of_mem _ List.mem_cons_self)) ?_; simp only [Act.put, List.setIfInBounds_toArray, List.set_cons_zero, List.set_cons_succ]) | (refine do_load rfl _ rfl _ rfl 0 (fun u hS => hS.hl.hold (_, 0) List.mem_cons_self) ?_; simp only [Act.put, List.setIfInBounds_toArray, List.set_cons_zero, List.set_cons_succ]) | (refine wpD_pure (v := ?_) rfl (fun u => ?_) ?_; rotate_left; (focus (go_simp; (try with_reducible rfl); done)); simp only [Act.put, List.setIfInBounds_toArray, List.set_cons_zero, List.set_cons_succ]))
      (refine wpD_call (v := .tuple #[.int .u32 (NN : Int), .int .i64 0]) rfl 13 ?_ (fun u => ?_) (fun u hS => ?_) ?_; rotate_left 1; (focus (go_simp; (try with_reducible rfl); done)); (focus (refine (HTN.out _).mono ?_; rintro e u2 ⟨rfl, hb⟩; exact ⟨rfl, hS.below hb⟩)); simp only [Act.put, List.setIfInBounds_toArray, List.set_cons_zero, List.set_cons_succ])
      repeat (first | (refine do_loadI rfl _ rfl _ _ rfl (.int .i64 64823) (fun u hS => by rw [cell_of_row u _ _ _ _ _ hS.eq]; rfl) ?_; simp only [Act.put, List.setIfInBounds_toArray, List.set_cons_zero, List.set_cons_succ]) | (refine do_load rfl _ rfl _ rfl v (fun u hS => hS.hl.hold (_, v) (List.mem_cons_of_mem _ List.mem_cons_self)) ?_; simp only [Act.put, List.setIfInBounds_toArray, List.set_cons_zero, List.set_cons_succ]) | (refine do_load rfl _ rfl _ rfl 0 (fun u hS => hS.hl.hold (_, 0) List.mem_cons_self) ?_; simp only [Act.put, List.setIfInBounds_toArray, List.set_cons_zero, List.set_cons_succ]) | (refine wpD_pure (v := ?_) rfl (fun u => ?_) ?_; rotate_left; (focus (go_simp; (try with_reducible rfl); done)); simp only [Act.put, List.setIfInBounds_toArray, List.set_cons_zero, List.set_cons_succ]))
      refine wpD_nil (fun wr1 hr1 => ?_)
      replace hs := hr1
      clear hr1
      go_wp2_with fail
      clear HTB HTN eN eA sM al nl
      go_loopw [18] (fun iv wr => ∃ i : Nat, i ≤ 4 ∧ iv = .int .i64 i ∧ MK w v Z LT (LT + 1) wr) (fun iv _ => 4 - (intOf iv).toNat)
      case atStart => exact ⟨0, Nat.zero_le _, rfl, hs⟩
      case round =>
        clear hs
        obtain ⟨i, hi, rfl, hs⟩ := hrel
        by_cases hlt : i < 4
        · have bI := BT.out i hlt
          by_cases hn : sgn 32 (getN v 32 i) < 0
          · as_aux_lemma =>
            rw [decide_eq_true hn] at bI
            go_wp2_with (first | (with_reducible refine load_vec rfl _ rfl _ rfl v (hs.hl.hold (_, v) (List.mem_cons_of_mem _ List.mem_cons_self)) ?_) | (go_at_call 20; (with_reducible refine (signed32z v _ i _ rfl (by omega)).mono ?_); rintro e u ⟨rfl, hb⟩; replace hs := hs.below hb; clear hb))
            go_roundw
            case rel => first | exact ⟨i + 1, by omega, by go_num, hs⟩ | ((repeat apply Exists.intro); exact ⟨⟨i + 1, by omega, by go_num, hs⟩, rfl⟩)
            case measure => (simp [intOf] <;> omega)
          · as_aux_lemma =>
            rw [decide_eq_false hn] at bI
            go_wp2_with (first | (with_reducible refine load_vec rfl _ rfl _ rfl v (hs.hl.hold (_, v) (List.mem_cons_of_mem _ List.mem_cons_self)) ?_) | (go_at_call 20; (with_reducible refine (signed32z v _ i _ rfl (by omega)).mono ?_); rintro e u ⟨rfl, hb⟩; replace hs := hs.below hb; clear hb))
            go_roundw
            case rel => first | exact ⟨i + 1, by omega, by go_num, hs⟩ | ((repeat apply Exists.intro); exact ⟨⟨i + 1, by omega, by go_num, hs⟩, rfl⟩)
            case measure => (simp [intOf] <;> omega)
        · obtain rfl : i = 4 := by omega
          go_wp2_with fail
          go_roundw
          case rel => first | exact ⟨3, by decide, rfl, hs⟩ | ((repeat apply Exists.intro); exact ⟨⟨3, by decide, rfl, hs⟩, rfl⟩)
          case measure => (simp [intOf] <;> omega)
    · as_aux_lemma =>
      obtain ⟨M, hM⟩ : ∃ M, M = mskR 64 v 2 := ⟨_, rfl⟩
      obtain ⟨AL, hAL⟩ : ∃ a, a = allR 64 v 2 := ⟨_, rfl⟩
      obtain ⟨NN, hNN⟩ : ∃ a, a = mskR 64 (buildOn 0 64 (mskN 64 0 v 0) 2) 2 := ⟨_, rfl⟩
      have ml : M < 4 := hM ▸ mskR_lt 64 v 2
      have al : AL ≤ 1 := hAL ▸ allR_le 64 v 2
      have nl : NN < 4 := hNN ▸ mskR_lt 64 _ 2
      have hbm : mskR 64 (buildOn 0 64 (mskN 64 2 v 0) 2) 2 = M := hM ▸ below_msk 64 (by decide) v
      have hnm : NN = 0 ↔ AL = 1 := by rw [hNN, hAL]; exact none_msk 64 (by decide) v
      obtain ⟨C, hC⟩ : ∃ C : Bool, C = ((AL : Int) == 1) := ⟨_, rfl⟩
      have eN : ((NN : Int) == 0) = C := by rw [hC, Bool.eq_iff_iff]; simp; omega
      have eA : ((AL : Int) == 1) = C := hC.symm
      have sM : (M : Int) / 4 = 0 := by omega
      have TA := fun W => t_all64 v W
      have TM := fun W => t_msk64 v W
      have TB := fun W => t_msk64 (buildOn 0 64 (mskN 64 2 v 0) 2) W
      have TN := fun W => t_msk64 (buildOn 0 64 (mskN 64 0 v 0) 2) W
      rw [← hAL] at TA
      rw [← hM] at TM
      rw [hbm] at TB
      rw [← hNN] at TN
      have bt : ∀ i, i < 2 → (((M : Int) / 2 ^ i).tmod 2 == 1) = decide (sgn 64 (getN v 64 i) < 0) := fun i hi => hM ▸ bit_test64 v i hi
      have BT := Lib.hid bt
      have HTA := Lib.hid TA
      have HTM := Lib.hid TM
      have HTB := Lib.hid TB
      have HTN := Lib.hid TN
      clear bt TA TM TB TN hbm hnm hM hAL hNN hC
      go_wp2_with (first | (with_reducible refine load_vec rfl _ rfl _ rfl v (hs.hl.hold (_, v) (List.mem_cons_of_mem _ List.mem_cons_self)) ?_) | (go_at_call 13; refine (HTA.out _).mono ?_; rintro e u ⟨rfl, hb⟩; replace hs := hs.below hb; clear hb HTA) | (go_at_call 13; refine (HTM.out _).mono ?_; rintro e u ⟨rfl, hb⟩; replace hs := hs.below hb; clear hb))
      refine region_do (MK w v Z LT (LT + 1)) 14 (by kernel_rfl) (by kernel_rfl) hs.drew ?_
      simp only [List.take_succ_cons, List.take_zero, List.drop_succ_cons, List.drop_zero]
      repeat (first | (refine do_loadI rfl _ rfl _ _ rfl (.int .i64 64984) (fun u hS => by rw [cell_of_row u _ _ _ _ _ hS.lt]; rfl) ?_; simp only [Act.put, List.setIfInBounds_toArray, List.set_cons_zero, List.set_cons_succ]) | (refine do_load rfl _ rfl _ rfl v (fun u hS => hS.hl.hold (_, v) (List.mem_cons_of_mem _ List.mem_cons_self)) ?_; simp only [Act.put, List.setIfInBounds_toArray, List.set_cons_zero, List.set_cons_succ]) | (refine do_load rfl _ rfl _ rfl 0 (fun u hS => hS.hl.hold (_, 0) List.mem_cons_self) ?_; simp only [Act.put, List.setIfInBounds_toArray, List.set_cons_zero, List.set_cons_succ]) | (refine wpD_pure (v := ?_) rfl (fun u => ?_) ?_; rotate_left; (focus (go_simp; (try with_reducible rfl); done)); simp only [Act.put, List.setIfInBounds_toArray, List.set_cons_zero, List.set_cons_succ]))
      (refine wpD_call (v := .agg (cells (buildOn 0 64 (mskN 64 2 v 0) 2))) rfl 18 ?_ (fun u => ?_) (fun u hS => ?_) ?_; rotate_left 1; (focus (go_simp; (try with_reducible rfl); done)); (focus (refine (c_lt64 v _).mono ?_; rintro e u2 ⟨rfl, hb⟩; exact ⟨rfl, hS.below hb⟩)); simp only [Act.put, List.setIfInBounds_toArray, List.set_cons_zero, List.set_cons_succ])
      repeat (first | (refine do_loadI rfl _ rfl _ _ rfl (.int .i64 64984) (fun u hS => by rw [cell_of_row u _ _ _ _ _ hS.lt]; rfl) ?_; simp only [Act.put, List.setIfInBounds_toArray, List.set_cons_zero, List.set_cons_succ]) | (refine do_load rfl _ rfl _ rfl v (fun u hS => hS.hl.hold (_, v) (List.mem_cons_of_mem _ List.mem_cons_self)) ?_; simp only [Act.put, List.setIfInBounds_toArray, List.set_cons_zero, List.set_cons_succ]) | (refine do_load rfl _ rfl _ rfl 0 (fun u hS => hS.hl.hold (_, 0) List.mem_cons_self) ?_; simp only [Act.put, List.setIfInBounds_toArray, List.set_cons_zero, List.set_cons_succ]) | (refine wpD_pure (v := ?_) rfl (fun u => ?_) ?_; rotate_left; (focus (go_simp; (try with_reducible rfl); done)); simp only [Act.put, List.setIfInBounds_toArray, List.set_cons_zero, List.set_cons_succ]))
      (refine wpD_call (v := .tuple #[.int .u32 (M : Int), .int .i64 0]) rfl 13 ?_ (fun u => ?_) (fun u hS => ?_) ?_; rotate_left 1; (focus (go_simp; (try with_reducible rfl); done)); (focus (refine (HTB.out _).mono ?_; rintro e u2 ⟨rfl, hb⟩; exact ⟨rfl, hS.below hb⟩)); simp only [Act.put, List.setIfInBounds_toArray, List.set_cons_zero, List.set_cons_succ])
      repeat (first | (refine do_loadI rfl _ rfl _ _ rfl (.int .i64 64984) (fun u hS => by rw [cell_of_row u _ _ _ _ _ hS.lt]; rfl) ?_; simp only [Act.put, List.setIfInBounds_toArray, List.set_cons_zero, List.set_cons_succ]) | (refine do_load rfl _ rfl _ rfl v (fun u hS => hS.hl.hold (_, v) (List.mem_cons_of_mem _ List.mem_cons_self)) ?_; simp only [Act.put, List.setIfInBounds_toArray, List.set_cons_zero, List.set_cons_succ]) | (refine do_load rfl _ rfl _ rfl 0 (fun u hS => hS.hl.hold (_, 0) List.mem_cons_self) ?_; simp only [Act.put, List.setIfInBounds_toArray, List.set_cons_zero, List.set_cons_succ]) | (refine wpD_pure (v := ?_) rfl (fun u => ?_) ?_; rotate_left; (focus (go_simp; (try with_reducible rfl); done)); simp only [Act.put, List.setIfInBounds_toArray, List.set_cons_zero, List.set_cons_succ]))
      refine wpD_nil (fun wr1 hr1 => ?_)
      replace hs := hr1
      clear hr1
      go_wp2_with fail
      refine region_do (MK w v Z LT (LT + 1)) 14 (by kernel_rfl) (by kernel_rfl) hs.drew ?_
      simp only [List.take_succ_cons, List.take_zero, List.drop_succ_cons, List.drop_zero]
      repeat (first | (refine do_loadI rfl _ rfl _ _ rfl (.int .i64 64982) (fun u hS => by rw [cell_of_row u _ _ _ _ _ hS.eq]; rfl) ?_; simp only [Act.put, List.setIfInBounds_toArray, List.set_cons_zero, List.set_cons_succ]) | (refine do_load rfl _ rfl _ rfl v (fun u hS => hS.hl.hold (_, v) (List.mem_cons_of_mem _ List.mem_cons_self)) ?_; simp only [Act.put, List.setIfInBounds_toArray, List.set_cons_zero, List.set_cons_succ]) | (refine do_load rfl _ rfl _ rfl 0 (fun u hS => hS.hl.hold (_, 0) List.mem_cons_self) ?_; simp only [Act.put, List.setIfInBounds_toArray, List.set_cons_zero, List.set_cons_succ]) | (refine wpD_pure (v := ?_) rfl (fun u => ?_) ?_; rotate_left; (focus (go_simp; (try with_reducible rfl); done)); simp only [Act.put, List.setIfInBounds_toArray, List.set_cons_zero, List.set_cons_succ]))
      (refine wpD_call (v := .agg (cells (buildOn 0 64 (mskN 64 0 v 0) 2))) rfl 18 ?_ (fun u => ?_) (fun u hS => ?_) ?_; rotate_left 1; (focus (go_simp; (try with_reducible rfl); done)); (focus (refine (c_eq64 v _).mono ?_; rintro e u2 ⟨rfl, hb⟩; exact ⟨rfl, hS.below hb⟩)); simp only [Act.put, List.setIfInBounds_toArray, List.set_cons_zero, List.set_cons_succ])
      repeat (first | (refine do_loadI rfl _ rfl _ _ rfl (.int .i64 64982) (fun u hS => by rw [cell_of_row u _ _ _ _ _ hS.eq]; rfl) ?_; simp only [Act.put, List.setIfInBounds_toArray, List.set_cons_zero, List.set_cons_succ]) | (refine do_load rfl _ rfl _ rfl v (fun u hS => hS.hl.hold (_, v) (List.mem_cons_of_mem _ List.mem_cons_self)) ?_; simp only [Act.put, List.setIfInBounds_toArray, List.set_cons_zero, List.set_cons_succ]) | (refine do_load rfl _ rfl _ rfl 0 (fun u hS => hS.hl.hold (_, 0) List.mem_cons_self) ?_; simp only [Act.put, List.setIfInBounds_toArray, List.set_cons_zero, List.set_cons_succ]) | (refine wpD_pure (v := ?_) rfl (fun u => ?_) ?_; rotate_left; (focus (go_simp; (try with_reducible rfl); done)); simp only [Act.put, List.setIfInBounds_toArray, List.set_cons_zero, List.set_cons_succ]))
      (refine wpD_call (v := .tuple #[.int .u32 (NN : Int), .int .i64 0]) rfl 13 ?_ (fun u => ?_) (fun u hS => ?_) ?_; rotate_left 1; (focus (go_simp; (try with_reducible rfl); done)); (focus (refine (HTN.out _).mono ?_; rintro e u2 ⟨rfl, hb⟩; exact ⟨rfl, hS.below hb⟩)); simp only [Act.put, List.setIfInBounds_toArray, List.set_cons_zero, List.set_cons_succ])
      repeat (first | (refine do_loadI rfl _ rfl _ _ rfl (.int .i64 64982) (fun u hS => by rw [cell_of_row u _ _ _ _ _ hS.eq]; rfl) ?_; simp only [Act.put, List.setIfInBounds_toArray, List.set_cons_zero, List.set_cons_succ]) | (refine do_load rfl _ rfl _ rfl v (fun u hS => hS.hl.hold (_, v) (List.mem_cons_of_mem _ List.mem_cons_self)) ?_; simp only [Act.put, List.setIfInBounds_toArray, List.set_cons_zero, List.set_cons_succ]) | (refine do_load rfl _ rfl _ rfl 0 (fun u hS => hS.hl.hold (_, 0) List.mem_cons_self) ?_; simp only [Act.put, List.setIfInBounds_toArray, List.set_cons_zero, List.set_cons_succ]) | (refine wpD_pure (v := ?_) rfl (fun u => ?_) ?_; rotate_left; (focus (go_simp; (try with_reducible rfl); done)); simp only [Act.put, List.setIfInBounds_toArray, List.set_cons_zero, List.set_cons_succ]))
      refine wpD_nil (fun wr1 hr1 => ?_)
      replace hs := hr1
      clear hr1
      go_wp2_with fail
      clear HTB HTN eN eA sM al nl
      go_loopw [18] (fun iv wr => ∃ i : Nat, i ≤ 2 ∧ iv = .int .i64 i ∧ MK w v Z LT (LT + 1) wr) (fun iv _ => 2 - (intOf iv).toNat)
      case atStart => exact ⟨0, Nat.zero_le _, rfl, hs⟩
      case round =>
        clear hs
        obtain ⟨i, hi, rfl, hs⟩ := hrel
        by_cases hlt : i < 2
        · have bI := BT.out i hlt
          by_cases hn : sgn 64 (getN v 64 i) < 0
          · as_aux_lemma =>
            rw [decide_eq_true hn] at bI
            go_wp2_with (first | (with_reducible refine load_vec rfl _ rfl _ rfl v (hs.hl.hold (_, v) (List.mem_cons_of_mem _ List.mem_cons_self)) ?_) | (go_at_call 20; (with_reducible refine (signed64z v _ i _ rfl (by omega)).mono ?_); rintro e u ⟨rfl, hb⟩; replace hs := hs.below hb; clear hb))
            go_roundw
            case rel => first | exact ⟨i + 1, by omega, by go_num, hs⟩ | ((repeat apply Exists.intro); exact ⟨⟨i + 1, by omega, by go_num, hs⟩, rfl⟩)
            case measure => (simp [intOf] <;> omega)
          · as_aux_lemma =>
            rw [decide_eq_false hn] at bI
            go_wp2_with (first | (with_reducible refine load_vec rfl _ rfl _ rfl v (hs.hl.hold (_, v) (List.mem_cons_of_mem _ List.mem_cons_self)) ?_) | (go_at_call 20; (with_reducible refine (signed64z v _ i _ rfl (by omega)).mono ?_); rintro e u ⟨rfl, hb⟩; replace hs := hs.below hb; clear hb))
            go_roundw
            case rel => first | exact ⟨i + 1, by omega, by go_num, hs⟩ | ((repeat apply Exists.intro); exact ⟨⟨i + 1, by omega, by go_num, hs⟩, rfl⟩)
            case measure => (simp [intOf] <;> omega)
        · obtain rfl : i = 2 := by omega
          go_wp2_with fail
          go_roundw
          case rel => first | exact ⟨4, by decide, rfl, hs⟩ | ((repeat apply Exists.intro); exact ⟨⟨4, by decide, rfl, hs⟩, rfl⟩)
          case measure => (simp [intOf] <;> omega)

    · go_wp2_with fail
      go_ret
      exact ⟨rfl, hs.hl.bel⟩

end Go.Proofs.Ytifafdfjmhadaaa
