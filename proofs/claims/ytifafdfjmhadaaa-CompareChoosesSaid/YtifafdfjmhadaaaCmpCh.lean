/-
  The walk of plaitlaw06.CompareChooses.
-/
import Derived.Test.YtifafdfjmhadaaaCmpLc
import Derived.Test.YtifafdfjmhadaaaCmpRP
import Derived.Test.YtifafdfjmhadaaaAriB
set_option linter.unusedSimpArgs false
set_option linter.unusedVariables false
namespace Go.Proofs.Ytifafdfjmhadaaa
open Go.RowKit Pl

theorem choose_lane (w x y : Nat) (p : Bool) (hx : x < 2 ^ w) (hy : y < 2 ^ w) : (x &&& LM w p) ||| (y &&& LM w (!p)) = if p = true then x else y := by
  cases p
  · show (x &&& 0) ||| (y &&& (2 ^ w - 1)) = y
    rw [Nat.and_zero, Nat.zero_or, Nat.and_two_pow_sub_one_eq_mod, Nat.mod_eq_of_lt hy]
  · show (x &&& (2 ^ w - 1)) ||| (y &&& 0) = x
    rw [Nat.and_zero, Nat.or_zero, Nat.and_two_pow_sub_one_eq_mod, Nat.mod_eq_of_lt hx]
theorem sgn_inj (w : Nat) (hw : w = 8 ∨ w = 16 ∨ w = 32 ∨ w = 64) (x y : Nat) (hx : x < 2 ^ w) (hy : y < 2 ^ w) (h : sgn w x = sgn w y) : x = y := by
  unfold sgn at h
  rcases hw with rfl | rfl | rfl | rfl <;> simp at hx hy h <;> (split at h <;> split at h <;> omega)
theorem choose_min (w : Nat) (hw : w = 8 ∨ w = 16 ∨ w = 32 ∨ w = 64) (x y : Nat) (hx : x < 2 ^ w) (hy : y < 2 ^ w) :
    (if decide (sgn w x < sgn w y) = true then x else y) = if sgn w x ≤ sgn w y then x else y := by
  by_cases h : sgn w x < sgn w y
  · rw [if_pos (decide_eq_true h), if_pos (Int.le_of_lt h)]
  · rw [if_neg (by simpa using h)]
    by_cases h2 : sgn w x ≤ sgn w y
    · rw [if_pos h2]
      exact (sgn_inj w hw x y hx hy (Int.le_antisymm h2 (Int.not_lt.1 h))).symm
    · rw [if_neg h2]
structure Held (p : Prop) : Prop where
  out : p
theorem wpl_pureg {ops : Array Oper} {rest : List Oper} {o : Oper} {a : Act} {w : World} {Q : Exit → Act → World → Prop} {v : Value} (hw : Region.wanted o (yielded ops a.tmps) = true) (h : (execOp a.eval o).run Try.prog w = .ok (.value v) w)
    (hr : wpList Try.prog ops Q rest (a.put o.dst v) w) : wpList Try.prog ops Q (o :: rest) a w :=
  wpList_step fun K hK => by
    rw [if_pos hw]
    unfold Oper.wp
    rw [h]
    exact hK _ _ hr
theorem abin_8_0 (a b : Vec) (w : World) : Calls Try.prog 21 #[.int .i64 64886, .agg (cells a), .agg (cells b)] w fun e w' => e = .returned (.tuple #[.agg (cells (vb 8 22 a b)), .int .i64 0]) ∧ Below w.heap.size w w' :=
  bin_w8 64886 22 a b w (by decide) kind_64886 (fun x y s t w hx hy hs ht => lane_8_22 x y s t w hx hy hs ht)
theorem lcq_8_0 (a b : Vec) (w : World) : Calls Try.prog 18 #[.int .i64 64805, .agg (cells a), .agg (cells b)] w fun e w' => e = .returned (.agg (cells (CV 8 2 a b))) ∧ Below w.heap.size w w' := lcm_any 64805 a b w (by decide)
theorem chs_8_0 (a b : Vec) : bitV 82 a b (CV 8 2 a b) = vb 8 22 a b :=
  vec_lanes 8 (by decide) fun i hi => by
    have hx := getN_lt a 8 i
    have hy := getN_lt b 8 i
    show getN ((a &&& CV 8 2 a b) ||| (b &&& ~~~CV 8 2 a b)) 8 i = _
    rw [getN_or, getN_and, getN_and, getN_nots 8 (by decide) _ _ i hi (C_lane 8 (by decide) 2 a b i hi), C_lane 8 (by decide) 2 a b i hi, low0_8 a b i hi]
    rw [choose_lane 8 _ _ _ hx hy]
    exact choose_min 8 (by decide) _ _ hx hy
    
    
    
    
    
    
theorem abin_8_1 (a b : Vec) (w : World) : Calls Try.prog 21 #[.int .i64 64887, .agg (cells a), .agg (cells b)] w fun e w' => e = .returned (.tuple #[.agg (cells (vb 8 23 a b)), .int .i64 0]) ∧ Below w.heap.size w w' :=
  bin_w8 64887 23 a b w (by decide) kind_64887 (fun x y s t w hx hy hs ht => lane_8_23 x y s t w hx hy hs ht)
theorem lcq_8_1 (a b : Vec) (w : World) : Calls Try.prog 18 #[.int .i64 64806, .agg (cells a), .agg (cells b)] w fun e w' => e = .returned (.agg (cells (CV 8 3 a b))) ∧ Below w.heap.size w w' := lcm_any 64806 a b w (by decide)
theorem chs_8_1 (a b : Vec) : bitV 82 a b (CV 8 3 a b) = vb 8 23 a b :=
  vec_lanes 8 (by decide) fun i hi => by
    have hx := getN_lt a 8 i
    have hy := getN_lt b 8 i
    show getN ((a &&& CV 8 3 a b) ||| (b &&& ~~~CV 8 3 a b)) 8 i = _
    rw [getN_or, getN_and, getN_and, getN_nots 8 (by decide) _ _ i hi (C_lane 8 (by decide) 3 a b i hi), C_lane 8 (by decide) 3 a b i hi, low1_8 a b i hi]
    rw [choose_lane 8 _ _ _ hx hy]
    have hu := uns_lane 8 (by decide) a b i i
    show (if decide (uns (sgn 8 (getN a 8 i)) < uns (sgn 8 (getN b 8 i))) = true then _ else _) = _
    simp only [decide_eq_true_eq]
    simp only [hu]
    generalize getN a 8 i = x at *
    generalize getN b 8 i = y at *
    split <;> split <;> omega
theorem abin_16_0 (a b : Vec) (w : World) : Calls Try.prog 21 #[.int .i64 64918, .agg (cells a), .agg (cells b)] w fun e w' => e = .returned (.tuple #[.agg (cells (vb 16 22 a b)), .int .i64 0]) ∧ Below w.heap.size w w' :=
  bin_w16 64918 22 a b w (by decide) kind_64918 (fun x y s t w hx hy hs ht => lane_16_22 x y s t w hx hy hs ht)
theorem lcq_16_0 (a b : Vec) (w : World) : Calls Try.prog 18 #[.int .i64 64815, .agg (cells a), .agg (cells b)] w fun e w' => e = .returned (.agg (cells (CV 16 2 a b))) ∧ Below w.heap.size w w' := lcm_any 64815 a b w (by decide)
theorem chs_16_0 (a b : Vec) : bitV 82 a b (CV 16 2 a b) = vb 16 22 a b :=
  vec_lanes 16 (by decide) fun i hi => by
    have hx := getN_lt a 16 i
    have hy := getN_lt b 16 i
    show getN ((a &&& CV 16 2 a b) ||| (b &&& ~~~CV 16 2 a b)) 16 i = _
    rw [getN_or, getN_and, getN_and, getN_nots 16 (by decide) _ _ i hi (C_lane 16 (by decide) 2 a b i hi), C_lane 16 (by decide) 2 a b i hi, low0_16 a b i hi]
    rw [choose_lane 16 _ _ _ hx hy]
    exact choose_min 16 (by decide) _ _ hx hy
    
    
    
    
    
    
theorem abin_16_1 (a b : Vec) (w : World) : Calls Try.prog 21 #[.int .i64 64919, .agg (cells a), .agg (cells b)] w fun e w' => e = .returned (.tuple #[.agg (cells (vb 16 23 a b)), .int .i64 0]) ∧ Below w.heap.size w w' :=
  bin_w16 64919 23 a b w (by decide) kind_64919 (fun x y s t w hx hy hs ht => lane_16_23 x y s t w hx hy hs ht)
theorem lcq_16_1 (a b : Vec) (w : World) : Calls Try.prog 18 #[.int .i64 64816, .agg (cells a), .agg (cells b)] w fun e w' => e = .returned (.agg (cells (CV 16 3 a b))) ∧ Below w.heap.size w w' := lcm_any 64816 a b w (by decide)
theorem chs_16_1 (a b : Vec) : bitV 82 a b (CV 16 3 a b) = vb 16 23 a b :=
  vec_lanes 16 (by decide) fun i hi => by
    have hx := getN_lt a 16 i
    have hy := getN_lt b 16 i
    show getN ((a &&& CV 16 3 a b) ||| (b &&& ~~~CV 16 3 a b)) 16 i = _
    rw [getN_or, getN_and, getN_and, getN_nots 16 (by decide) _ _ i hi (C_lane 16 (by decide) 3 a b i hi), C_lane 16 (by decide) 3 a b i hi, low1_16 a b i hi]
    rw [choose_lane 16 _ _ _ hx hy]
    have hu := uns_lane 16 (by decide) a b i i
    show (if decide (uns (sgn 16 (getN a 16 i)) < uns (sgn 16 (getN b 16 i))) = true then _ else _) = _
    simp only [decide_eq_true_eq]
    simp only [hu]
    generalize getN a 16 i = x at *
    generalize getN b 16 i = y at *
    split <;> split <;> omega
theorem abin_32_0 (a b : Vec) (w : World) : Calls Try.prog 21 #[.int .i64 64950, .agg (cells a), .agg (cells b)] w fun e w' => e = .returned (.tuple #[.agg (cells (vb 32 22 a b)), .int .i64 0]) ∧ Below w.heap.size w w' :=
  bin_w32 64950 22 a b w (by decide) kind_64950 (fun x y s t w hx hy hs ht => lane_32_22 x y s t w hx hy hs ht)
theorem lcq_32_0 (a b : Vec) (w : World) : Calls Try.prog 18 #[.int .i64 64825, .agg (cells a), .agg (cells b)] w fun e w' => e = .returned (.agg (cells (CV 32 2 a b))) ∧ Below w.heap.size w w' := lcm_any 64825 a b w (by decide)
theorem chs_32_0 (a b : Vec) : bitV 82 a b (CV 32 2 a b) = vb 32 22 a b :=
  vec_lanes 32 (by decide) fun i hi => by
    have hx := getN_lt a 32 i
    have hy := getN_lt b 32 i
    show getN ((a &&& CV 32 2 a b) ||| (b &&& ~~~CV 32 2 a b)) 32 i = _
    rw [getN_or, getN_and, getN_and, getN_nots 32 (by decide) _ _ i hi (C_lane 32 (by decide) 2 a b i hi), C_lane 32 (by decide) 2 a b i hi, low0_32 a b i hi]
    rw [choose_lane 32 _ _ _ hx hy]
    exact choose_min 32 (by decide) _ _ hx hy
    
    
    
    
    
    
theorem abin_32_1 (a b : Vec) (w : World) : Calls Try.prog 21 #[.int .i64 64951, .agg (cells a), .agg (cells b)] w fun e w' => e = .returned (.tuple #[.agg (cells (vb 32 23 a b)), .int .i64 0]) ∧ Below w.heap.size w w' :=
  bin_w32 64951 23 a b w (by decide) kind_64951 (fun x y s t w hx hy hs ht => lane_32_23 x y s t w hx hy hs ht)
theorem lcq_32_1 (a b : Vec) (w : World) : Calls Try.prog 18 #[.int .i64 64826, .agg (cells a), .agg (cells b)] w fun e w' => e = .returned (.agg (cells (CV 32 3 a b))) ∧ Below w.heap.size w w' := lcm_any 64826 a b w (by decide)
theorem chs_32_1 (a b : Vec) : bitV 82 a b (CV 32 3 a b) = vb 32 23 a b :=
  vec_lanes 32 (by decide) fun i hi => by
    have hx := getN_lt a 32 i
    have hy := getN_lt b 32 i
    show getN ((a &&& CV 32 3 a b) ||| (b &&& ~~~CV 32 3 a b)) 32 i = _
    rw [getN_or, getN_and, getN_and, getN_nots 32 (by decide) _ _ i hi (C_lane 32 (by decide) 3 a b i hi), C_lane 32 (by decide) 3 a b i hi, low1_32 a b i hi]
    rw [choose_lane 32 _ _ _ hx hy]
    have hu := uns_lane 32 (by decide) a b i i
    show (if decide (uns (sgn 32 (getN a 32 i)) < uns (sgn 32 (getN b 32 i))) = true then _ else _) = _
    simp only [decide_eq_true_eq]
    simp only [hu]
    generalize getN a 32 i = x at *
    generalize getN b 32 i = y at *
    split <;> split <;> omega
theorem cz1 (a b c : Vec) : bitV 82 a b c ^^^ bitV 82 b a c = a ^^^ b := by
  show ((a &&& c) ||| (b &&& ~~~c)) ^^^ ((b &&& c) ||| (a &&& ~~~c)) = _
  apply BitVec.eq_of_getLsbD_eq; intro i hi
  simp only [BitVec.getLsbD_xor, BitVec.getLsbD_or, BitVec.getLsbD_and, BitVec.getLsbD_not, hi, decide_true, Bool.true_and]
  cases a.getLsbD i <;> cases b.getLsbD i <;> cases c.getLsbD i <;> rfl
theorem cz2 (a b c : Vec) : bitV 82 a b c &&& c = a &&& c := by
  show ((a &&& c) ||| (b &&& ~~~c)) &&& c = _
  apply BitVec.eq_of_getLsbD_eq; intro i hi
  simp only [BitVec.getLsbD_xor, BitVec.getLsbD_or, BitVec.getLsbD_and, BitVec.getLsbD_not, hi, decide_true, Bool.true_and]
  cases a.getLsbD i <;> cases b.getLsbD i <;> cases c.getLsbD i <;> rfl
theorem cz3 (a b c : Vec) : bitV 82 a b c &&& ~~~c = b &&& ~~~c := by
  show ((a &&& c) ||| (b &&& ~~~c)) &&& ~~~c = _
  apply BitVec.eq_of_getLsbD_eq; intro i hi
  simp only [BitVec.getLsbD_xor, BitVec.getLsbD_or, BitVec.getLsbD_and, BitVec.getLsbD_not, hi, decide_true, Bool.true_and]
  cases a.getLsbD i <;> cases b.getLsbD i <;> cases c.getLsbD i <;> rfl
theorem cz4 (a b : Vec) : (a ^^^ b) ^^^ b = a := by
  apply BitVec.eq_of_getLsbD_eq; intro i hi
  simp only [BitVec.getLsbD_xor]
  cases a.getLsbD i <;> cases b.getLsbD i <;> rfl
theorem cz5 (a b : Vec) : (a &&& b) ||| (a &&& ~~~b) = a := by
  apply BitVec.eq_of_getLsbD_eq; intro i hi
  simp only [BitVec.getLsbD_xor, BitVec.getLsbD_or, BitVec.getLsbD_and, BitVec.getLsbD_not, hi, decide_true, Bool.true_and]
  cases a.getLsbD i <;> cases b.getLsbD i <;> rfl
theorem ch_round (a b : Vec) (z s : Int) (hz : 0 ≤ z ∧ z < 3) (hs : 0 ≤ s ∧ s < 2) : ∃ M LE : Vec, bitV 82 a b M = LE ∧
    (∀ W O, O = 64805 + 10 * z + s → Calls Try.prog 18 #[.int .i64 O, .agg (cells a), .agg (cells b)] W fun e w' => e = .returned (.agg (cells M)) ∧ Below W.heap.size W w') ∧
    (∀ W O, O = 64886 + 32 * z + s → Calls Try.prog 21 #[.int .i64 O, .agg (cells a), .agg (cells b)] W fun e w' => e = .returned (.tuple #[.agg (cells LE), .int .i64 0]) ∧ Below W.heap.size W w') := by
  rcases (show z = 0 ∨ z = 1 ∨ z = 2 by omega) with rfl | rfl | rfl <;> rcases (show s = 0 ∨ s = 1 by omega) with rfl | rfl
  · exact ⟨_, _, chs_8_0 a b, fun W O e => by subst e; exact lcq_8_0 a b W, fun W O e => by subst e; exact abin_8_0 a b W⟩
  · exact ⟨_, _, chs_8_1 a b, fun W O e => by subst e; exact lcq_8_1 a b W, fun W O e => by subst e; exact abin_8_1 a b W⟩
  · exact ⟨_, _, chs_16_0 a b, fun W O e => by subst e; exact lcq_16_0 a b W, fun W O e => by subst e; exact abin_16_0 a b W⟩
  · exact ⟨_, _, chs_16_1 a b, fun W O e => by subst e; exact lcq_16_1 a b W, fun W O e => by subst e; exact abin_16_1 a b W⟩
  · exact ⟨_, _, chs_32_0 a b, fun W O e => by subst e; exact lcq_32_0 a b W, fun W O e => by subst e; exact abin_32_0 a b W⟩
  · exact ⟨_, _, chs_32_1 a b, fun W O e => by subst e; exact lcq_32_1 a b W, fun W O e => by subst e; exact abin_32_1 a b W⟩
set_option maxRecDepth 100000 in
set_option maxHeartbeats 8000000 in
theorem chooses_walk (a b c : Vec) (w : World) :
    Calls Try.prog 8 #[.agg (cells a), .agg (cells b), .agg (cells c)] w fun e w' => e = .returned (.bool true) ∧ Below w.heap.size w w' := by
  have hs := HL.three w a b c
  obtain ⟨X, hX⟩ : ∃ v, v = bitV 82 a b c := ⟨_, rfl⟩
  obtain ⟨Y, hY⟩ : ∃ v, v = bitV 82 b a c := ⟨_, rfl⟩
  have T1 := Lib.hid (fun W => ltwo_81 X Y W)
  rw [show X ^^^ Y = a ^^^ b by rw [hX, hY]; exact cz1 a b c] at T1
  have T2 := Lib.hid (fun W => ltwo_78 X c W)
  rw [show X &&& c = a &&& c by rw [hX]; exact cz2 a b c] at T2
  have T3 := Lib.hid (fun W => ltwo_79 X c W)
  rw [show X &&& ~~~c = b &&& ~~~c by rw [hX]; exact cz3 a b c] at T3
  have T4 := Lib.hid (fun W => ltwo_81 (a ^^^ b) b W)
  rw [cz4] at T4
  have T5 := Lib.hid (fun W => ltwo_80 (a &&& b) (a &&& ~~~b) W)
  rw [cz5] at T5
  have HX := Lib.hid hX.symm
  have HY := Lib.hid hY.symm
  clear hX hY
  go_enter Try.func8, Try.ntmps8
  go_wp2_with (first | (go_at_call 10; (with_reducible refine (awake_any _).mono ?_); rintro e u ⟨rfl, hb⟩; replace hs := hs.below hb; clear hb) | (with_reducible refine load_vec rfl _ rfl _ rfl _ (hs.hold (_, _) (by first | exact List.mem_cons_self | exact List.mem_cons_of_mem _ (List.mem_cons_self) | exact List.mem_cons_of_mem _ (List.mem_cons_of_mem _ (List.mem_cons_self)) | exact List.mem_cons_of_mem _ (List.mem_cons_of_mem _ (List.mem_cons_of_mem _ (List.mem_cons_self))) | exact List.mem_cons_of_mem _ (List.mem_cons_of_mem _ (List.mem_cons_of_mem _ (List.mem_cons_of_mem _ (List.mem_cons_self)))) | exact List.mem_cons_of_mem _ (List.mem_cons_of_mem _ (List.mem_cons_of_mem _ (List.mem_cons_of_mem _ (List.mem_cons_of_mem _ (List.mem_cons_self))))) | exact List.mem_cons_of_mem _ (List.mem_cons_of_mem _ (List.mem_cons_of_mem _ (List.mem_cons_of_mem _ (List.mem_cons_of_mem _ (List.mem_cons_of_mem _ (List.mem_cons_self)))))))) ?_) | (with_reducible refine build3 rfl _ _ _ rfl a b c rfl rfl rfl ?_; intro wB hB; replace hs := hs.below hB.bel) | (go_at_call 15; (with_reducible refine (bits_82 a b c _ _ _ hB.lt hB.r0 hB.r1 hB.r2).mono ?_); rintro e uX ⟨rfl, hb⟩; replace hs := hs.below hb; clear hb hB) | (with_reducible refine build3 rfl _ _ _ rfl b a c rfl rfl rfl ?_; intro wB hB; replace hs := hs.below hB.bel) | (go_at_call 15; (with_reducible refine (bits_82 b a c _ _ _ hB.lt hB.r0 hB.r1 hB.r2).mono ?_); rintro e uY ⟨rfl, hb⟩; replace hs := hs.below hb; clear hb hB) | (with_reducible refine store_vec rfl _ _ rfl _ _ rfl rfl 0 (heap_new_zero _) ?_; intro wA hA; replace hs := HL.push hs hA; clear hA))
  rw [HX.out, HY.out] at hs
  rw [HX.out, HY.out]
  obtain ⟨B1, hB1⟩ : ∃ B, B = uX.heap.size := ⟨_, rfl⟩
  rw [← hB1] at hs ⊢
  clear hB1
  obtain ⟨B2, hB2⟩ : ∃ B, B = uY.heap.size := ⟨_, rfl⟩
  rw [← hB2] at hs ⊢
  clear hB2
  have hG := @guard_vec
  have hE := fun v : Vec => eqv (rfl : v = v)
  refine region_do (HL w _) 52 (by kernel_rfl) (by kernel_rfl) hs.drew ?_
  simp only [List.take_succ_cons, List.take_zero, List.drop_succ_cons, List.drop_zero]
  repeat (first | (refine do_loadg rfl _ rfl _ rfl _ (fun u hS => hS.hold (_, _) (by first | exact List.mem_cons_self | exact List.mem_cons_of_mem _ (List.mem_cons_self) | exact List.mem_cons_of_mem _ (List.mem_cons_of_mem _ (List.mem_cons_self)) | exact List.mem_cons_of_mem _ (List.mem_cons_of_mem _ (List.mem_cons_of_mem _ (List.mem_cons_self))) | exact List.mem_cons_of_mem _ (List.mem_cons_of_mem _ (List.mem_cons_of_mem _ (List.mem_cons_of_mem _ (List.mem_cons_self)))) | exact List.mem_cons_of_mem _ (List.mem_cons_of_mem _ (List.mem_cons_of_mem _ (List.mem_cons_of_mem _ (List.mem_cons_of_mem _ (List.mem_cons_self))))) | exact List.mem_cons_of_mem _ (List.mem_cons_of_mem _ (List.mem_cons_of_mem _ (List.mem_cons_of_mem _ (List.mem_cons_of_mem _ (List.mem_cons_of_mem _ (List.mem_cons_self)))))))) ?_; simp only [Act.put, List.setIfInBounds_toArray, List.set_cons_zero, List.set_cons_succ]) | (refine wpD_skip rfl ?_; simp only [Act.put, List.setIfInBounds_toArray, List.set_cons_zero, List.set_cons_succ]) | (refine wpD_pure (v := ?_) rfl (fun u => ?_) ?_; rotate_left; (focus (go_simp; (try with_reducible rfl); done)); simp only [Act.put, List.setIfInBounds_toArray, List.set_cons_zero, List.set_cons_succ]) | (refine wpD_pureg (v := ?_) rfl (fun u => ?_) ?_; rotate_left; (focus (go_simp; (try with_reducible rfl); done)); simp only [Act.put, List.setIfInBounds_toArray, List.set_cons_zero, List.set_cons_succ]))
  (refine wpD_callg (v := .agg (cells (a ^^^ b))) rfl 19 ?_ (fun u => ?_) (fun u hS => ?_) ?_; rotate_left 1; (focus (go_simp; (try with_reducible rfl); done)); (focus (refine (T1.out _).mono ?_; rintro e u2 ⟨rfl, hb⟩; exact ⟨rfl, hS.below hb⟩)); simp only [Act.put, List.setIfInBounds_toArray, List.set_cons_zero, List.set_cons_succ])
  repeat (first | (refine do_loadg rfl _ rfl _ rfl _ (fun u hS => hS.hold (_, _) (by first | exact List.mem_cons_self | exact List.mem_cons_of_mem _ (List.mem_cons_self) | exact List.mem_cons_of_mem _ (List.mem_cons_of_mem _ (List.mem_cons_self)) | exact List.mem_cons_of_mem _ (List.mem_cons_of_mem _ (List.mem_cons_of_mem _ (List.mem_cons_self))) | exact List.mem_cons_of_mem _ (List.mem_cons_of_mem _ (List.mem_cons_of_mem _ (List.mem_cons_of_mem _ (List.mem_cons_self)))) | exact List.mem_cons_of_mem _ (List.mem_cons_of_mem _ (List.mem_cons_of_mem _ (List.mem_cons_of_mem _ (List.mem_cons_of_mem _ (List.mem_cons_self))))) | exact List.mem_cons_of_mem _ (List.mem_cons_of_mem _ (List.mem_cons_of_mem _ (List.mem_cons_of_mem _ (List.mem_cons_of_mem _ (List.mem_cons_of_mem _ (List.mem_cons_self)))))))) ?_; simp only [Act.put, List.setIfInBounds_toArray, List.set_cons_zero, List.set_cons_succ]) | (refine wpD_skip rfl ?_; simp only [Act.put, List.setIfInBounds_toArray, List.set_cons_zero, List.set_cons_succ]) | (refine wpD_pure (v := ?_) rfl (fun u => ?_) ?_; rotate_left; (focus (go_simp; (try with_reducible rfl); done)); simp only [Act.put, List.setIfInBounds_toArray, List.set_cons_zero, List.set_cons_succ]) | (refine wpD_pureg (v := ?_) rfl (fun u => ?_) ?_; rotate_left; (focus (go_simp; (try with_reducible rfl); done)); simp only [Act.put, List.setIfInBounds_toArray, List.set_cons_zero, List.set_cons_succ]))
  (refine wpD_callg (v := .agg (cells (a ^^^ b))) rfl 19 ?_ (fun u => ?_) (fun u hS => ?_) ?_; rotate_left 1; (focus (go_simp; (try with_reducible rfl); done)); (focus (refine (ltwo_81 a b _).mono ?_; rintro e u2 ⟨rfl, hb⟩; exact ⟨rfl, hS.below hb⟩)); simp only [Act.put, List.setIfInBounds_toArray, List.set_cons_zero, List.set_cons_succ])
  repeat (first | (refine do_loadg rfl _ rfl _ rfl _ (fun u hS => hS.hold (_, _) (by first | exact List.mem_cons_self | exact List.mem_cons_of_mem _ (List.mem_cons_self) | exact List.mem_cons_of_mem _ (List.mem_cons_of_mem _ (List.mem_cons_self)) | exact List.mem_cons_of_mem _ (List.mem_cons_of_mem _ (List.mem_cons_of_mem _ (List.mem_cons_self))) | exact List.mem_cons_of_mem _ (List.mem_cons_of_mem _ (List.mem_cons_of_mem _ (List.mem_cons_of_mem _ (List.mem_cons_self)))) | exact List.mem_cons_of_mem _ (List.mem_cons_of_mem _ (List.mem_cons_of_mem _ (List.mem_cons_of_mem _ (List.mem_cons_of_mem _ (List.mem_cons_self))))) | exact List.mem_cons_of_mem _ (List.mem_cons_of_mem _ (List.mem_cons_of_mem _ (List.mem_cons_of_mem _ (List.mem_cons_of_mem _ (List.mem_cons_of_mem _ (List.mem_cons_self)))))))) ?_; simp only [Act.put, List.setIfInBounds_toArray, List.set_cons_zero, List.set_cons_succ]) | (refine wpD_skip rfl ?_; simp only [Act.put, List.setIfInBounds_toArray, List.set_cons_zero, List.set_cons_succ]) | (refine wpD_pure (v := ?_) rfl (fun u => ?_) ?_; rotate_left; (focus (go_simp; (try with_reducible rfl); done)); simp only [Act.put, List.setIfInBounds_toArray, List.set_cons_zero, List.set_cons_succ]) | (refine wpD_pureg (v := ?_) rfl (fun u => ?_) ?_; rotate_left; (focus (go_simp; (try with_reducible rfl); done)); simp only [Act.put, List.setIfInBounds_toArray, List.set_cons_zero, List.set_cons_succ]))
  (refine wpD_callg (v := .agg (cells (a &&& c))) rfl 19 ?_ (fun u => ?_) (fun u hS => ?_) ?_; rotate_left 1; (focus (go_simp; (try with_reducible rfl); done)); (focus (refine (T2.out _).mono ?_; rintro e u2 ⟨rfl, hb⟩; exact ⟨rfl, hS.below hb⟩)); simp only [Act.put, List.setIfInBounds_toArray, List.set_cons_zero, List.set_cons_succ])
  repeat (first | (refine do_loadg rfl _ rfl _ rfl _ (fun u hS => hS.hold (_, _) (by first | exact List.mem_cons_self | exact List.mem_cons_of_mem _ (List.mem_cons_self) | exact List.mem_cons_of_mem _ (List.mem_cons_of_mem _ (List.mem_cons_self)) | exact List.mem_cons_of_mem _ (List.mem_cons_of_mem _ (List.mem_cons_of_mem _ (List.mem_cons_self))) | exact List.mem_cons_of_mem _ (List.mem_cons_of_mem _ (List.mem_cons_of_mem _ (List.mem_cons_of_mem _ (List.mem_cons_self)))) | exact List.mem_cons_of_mem _ (List.mem_cons_of_mem _ (List.mem_cons_of_mem _ (List.mem_cons_of_mem _ (List.mem_cons_of_mem _ (List.mem_cons_self))))) | exact List.mem_cons_of_mem _ (List.mem_cons_of_mem _ (List.mem_cons_of_mem _ (List.mem_cons_of_mem _ (List.mem_cons_of_mem _ (List.mem_cons_of_mem _ (List.mem_cons_self)))))))) ?_; simp only [Act.put, List.setIfInBounds_toArray, List.set_cons_zero, List.set_cons_succ]) | (refine wpD_skip rfl ?_; simp only [Act.put, List.setIfInBounds_toArray, List.set_cons_zero, List.set_cons_succ]) | (refine wpD_pure (v := ?_) rfl (fun u => ?_) ?_; rotate_left; (focus (go_simp; (try with_reducible rfl); done)); simp only [Act.put, List.setIfInBounds_toArray, List.set_cons_zero, List.set_cons_succ]) | (refine wpD_pureg (v := ?_) rfl (fun u => ?_) ?_; rotate_left; (focus (go_simp; (try with_reducible rfl); done)); simp only [Act.put, List.setIfInBounds_toArray, List.set_cons_zero, List.set_cons_succ]))
  (refine wpD_callg (v := .agg (cells (a &&& c))) rfl 19 ?_ (fun u => ?_) (fun u hS => ?_) ?_; rotate_left 1; (focus (go_simp; (try with_reducible rfl); done)); (focus (refine (ltwo_78 a c _).mono ?_; rintro e u2 ⟨rfl, hb⟩; exact ⟨rfl, hS.below hb⟩)); simp only [Act.put, List.setIfInBounds_toArray, List.set_cons_zero, List.set_cons_succ])
  repeat (first | (refine do_loadg rfl _ rfl _ rfl _ (fun u hS => hS.hold (_, _) (by first | exact List.mem_cons_self | exact List.mem_cons_of_mem _ (List.mem_cons_self) | exact List.mem_cons_of_mem _ (List.mem_cons_of_mem _ (List.mem_cons_self)) | exact List.mem_cons_of_mem _ (List.mem_cons_of_mem _ (List.mem_cons_of_mem _ (List.mem_cons_self))) | exact List.mem_cons_of_mem _ (List.mem_cons_of_mem _ (List.mem_cons_of_mem _ (List.mem_cons_of_mem _ (List.mem_cons_self)))) | exact List.mem_cons_of_mem _ (List.mem_cons_of_mem _ (List.mem_cons_of_mem _ (List.mem_cons_of_mem _ (List.mem_cons_of_mem _ (List.mem_cons_self))))) | exact List.mem_cons_of_mem _ (List.mem_cons_of_mem _ (List.mem_cons_of_mem _ (List.mem_cons_of_mem _ (List.mem_cons_of_mem _ (List.mem_cons_of_mem _ (List.mem_cons_self)))))))) ?_; simp only [Act.put, List.setIfInBounds_toArray, List.set_cons_zero, List.set_cons_succ]) | (refine wpD_skip rfl ?_; simp only [Act.put, List.setIfInBounds_toArray, List.set_cons_zero, List.set_cons_succ]) | (refine wpD_pure (v := ?_) rfl (fun u => ?_) ?_; rotate_left; (focus (go_simp; (try with_reducible rfl); done)); simp only [Act.put, List.setIfInBounds_toArray, List.set_cons_zero, List.set_cons_succ]) | (refine wpD_pureg (v := ?_) rfl (fun u => ?_) ?_; rotate_left; (focus (go_simp; (try with_reducible rfl); done)); simp only [Act.put, List.setIfInBounds_toArray, List.set_cons_zero, List.set_cons_succ]))
  (refine wpD_callg (v := .agg (cells (b &&& ~~~c))) rfl 19 ?_ (fun u => ?_) (fun u hS => ?_) ?_; rotate_left 1; (focus (go_simp; (try with_reducible rfl); done)); (focus (refine (T3.out _).mono ?_; rintro e u2 ⟨rfl, hb⟩; exact ⟨rfl, hS.below hb⟩)); simp only [Act.put, List.setIfInBounds_toArray, List.set_cons_zero, List.set_cons_succ])
  repeat (first | (refine do_loadg rfl _ rfl _ rfl _ (fun u hS => hS.hold (_, _) (by first | exact List.mem_cons_self | exact List.mem_cons_of_mem _ (List.mem_cons_self) | exact List.mem_cons_of_mem _ (List.mem_cons_of_mem _ (List.mem_cons_self)) | exact List.mem_cons_of_mem _ (List.mem_cons_of_mem _ (List.mem_cons_of_mem _ (List.mem_cons_self))) | exact List.mem_cons_of_mem _ (List.mem_cons_of_mem _ (List.mem_cons_of_mem _ (List.mem_cons_of_mem _ (List.mem_cons_self)))) | exact List.mem_cons_of_mem _ (List.mem_cons_of_mem _ (List.mem_cons_of_mem _ (List.mem_cons_of_mem _ (List.mem_cons_of_mem _ (List.mem_cons_self))))) | exact List.mem_cons_of_mem _ (List.mem_cons_of_mem _ (List.mem_cons_of_mem _ (List.mem_cons_of_mem _ (List.mem_cons_of_mem _ (List.mem_cons_of_mem _ (List.mem_cons_self)))))))) ?_; simp only [Act.put, List.setIfInBounds_toArray, List.set_cons_zero, List.set_cons_succ]) | (refine wpD_skip rfl ?_; simp only [Act.put, List.setIfInBounds_toArray, List.set_cons_zero, List.set_cons_succ]) | (refine wpD_pure (v := ?_) rfl (fun u => ?_) ?_; rotate_left; (focus (go_simp; (try with_reducible rfl); done)); simp only [Act.put, List.setIfInBounds_toArray, List.set_cons_zero, List.set_cons_succ]) | (refine wpD_pureg (v := ?_) rfl (fun u => ?_) ?_; rotate_left; (focus (go_simp; (try with_reducible rfl); done)); simp only [Act.put, List.setIfInBounds_toArray, List.set_cons_zero, List.set_cons_succ]))
  (refine wpD_callg (v := .agg (cells (b &&& ~~~c))) rfl 19 ?_ (fun u => ?_) (fun u hS => ?_) ?_; rotate_left 1; (focus (go_simp; (try with_reducible rfl); done)); (focus (refine (ltwo_79 b c _).mono ?_; rintro e u2 ⟨rfl, hb⟩; exact ⟨rfl, hS.below hb⟩)); simp only [Act.put, List.setIfInBounds_toArray, List.set_cons_zero, List.set_cons_succ])
  repeat (first | (refine do_loadg rfl _ rfl _ rfl _ (fun u hS => hS.hold (_, _) (by first | exact List.mem_cons_self | exact List.mem_cons_of_mem _ (List.mem_cons_self) | exact List.mem_cons_of_mem _ (List.mem_cons_of_mem _ (List.mem_cons_self)) | exact List.mem_cons_of_mem _ (List.mem_cons_of_mem _ (List.mem_cons_of_mem _ (List.mem_cons_self))) | exact List.mem_cons_of_mem _ (List.mem_cons_of_mem _ (List.mem_cons_of_mem _ (List.mem_cons_of_mem _ (List.mem_cons_self)))) | exact List.mem_cons_of_mem _ (List.mem_cons_of_mem _ (List.mem_cons_of_mem _ (List.mem_cons_of_mem _ (List.mem_cons_of_mem _ (List.mem_cons_self))))) | exact List.mem_cons_of_mem _ (List.mem_cons_of_mem _ (List.mem_cons_of_mem _ (List.mem_cons_of_mem _ (List.mem_cons_of_mem _ (List.mem_cons_of_mem _ (List.mem_cons_self)))))))) ?_; simp only [Act.put, List.setIfInBounds_toArray, List.set_cons_zero, List.set_cons_succ]) | (refine wpD_skip rfl ?_; simp only [Act.put, List.setIfInBounds_toArray, List.set_cons_zero, List.set_cons_succ]) | (refine wpD_pure (v := ?_) rfl (fun u => ?_) ?_; rotate_left; (focus (go_simp; (try with_reducible rfl); done)); simp only [Act.put, List.setIfInBounds_toArray, List.set_cons_zero, List.set_cons_succ]) | (refine wpD_pureg (v := ?_) rfl (fun u => ?_) ?_; rotate_left; (focus (go_simp; (try with_reducible rfl); done)); simp only [Act.put, List.setIfInBounds_toArray, List.set_cons_zero, List.set_cons_succ]))
  (refine wpD_callg (v := .agg (cells (a ^^^ b))) rfl 19 ?_ (fun u => ?_) (fun u hS => ?_) ?_; rotate_left 1; (focus (go_simp; (try with_reducible rfl); done)); (focus (refine (ltwo_81 a b _).mono ?_; rintro e u2 ⟨rfl, hb⟩; exact ⟨rfl, hS.below hb⟩)); simp only [Act.put, List.setIfInBounds_toArray, List.set_cons_zero, List.set_cons_succ])
  repeat (first | (refine do_loadg rfl _ rfl _ rfl _ (fun u hS => hS.hold (_, _) (by first | exact List.mem_cons_self | exact List.mem_cons_of_mem _ (List.mem_cons_self) | exact List.mem_cons_of_mem _ (List.mem_cons_of_mem _ (List.mem_cons_self)) | exact List.mem_cons_of_mem _ (List.mem_cons_of_mem _ (List.mem_cons_of_mem _ (List.mem_cons_self))) | exact List.mem_cons_of_mem _ (List.mem_cons_of_mem _ (List.mem_cons_of_mem _ (List.mem_cons_of_mem _ (List.mem_cons_self)))) | exact List.mem_cons_of_mem _ (List.mem_cons_of_mem _ (List.mem_cons_of_mem _ (List.mem_cons_of_mem _ (List.mem_cons_of_mem _ (List.mem_cons_self))))) | exact List.mem_cons_of_mem _ (List.mem_cons_of_mem _ (List.mem_cons_of_mem _ (List.mem_cons_of_mem _ (List.mem_cons_of_mem _ (List.mem_cons_of_mem _ (List.mem_cons_self)))))))) ?_; simp only [Act.put, List.setIfInBounds_toArray, List.set_cons_zero, List.set_cons_succ]) | (refine wpD_skip rfl ?_; simp only [Act.put, List.setIfInBounds_toArray, List.set_cons_zero, List.set_cons_succ]) | (refine wpD_pure (v := ?_) rfl (fun u => ?_) ?_; rotate_left; (focus (go_simp; (try with_reducible rfl); done)); simp only [Act.put, List.setIfInBounds_toArray, List.set_cons_zero, List.set_cons_succ]) | (refine wpD_pureg (v := ?_) rfl (fun u => ?_) ?_; rotate_left; (focus (go_simp; (try with_reducible rfl); done)); simp only [Act.put, List.setIfInBounds_toArray, List.set_cons_zero, List.set_cons_succ]))
  (refine wpD_callg (v := .agg (cells a)) rfl 19 ?_ (fun u => ?_) (fun u hS => ?_) ?_; rotate_left 1; (focus (go_simp; (try with_reducible rfl); done)); (focus (refine (T4.out _).mono ?_; rintro e u2 ⟨rfl, hb⟩; exact ⟨rfl, hS.below hb⟩)); simp only [Act.put, List.setIfInBounds_toArray, List.set_cons_zero, List.set_cons_succ])
  repeat (first | (refine do_loadg rfl _ rfl _ rfl _ (fun u hS => hS.hold (_, _) (by first | exact List.mem_cons_self | exact List.mem_cons_of_mem _ (List.mem_cons_self) | exact List.mem_cons_of_mem _ (List.mem_cons_of_mem _ (List.mem_cons_self)) | exact List.mem_cons_of_mem _ (List.mem_cons_of_mem _ (List.mem_cons_of_mem _ (List.mem_cons_self))) | exact List.mem_cons_of_mem _ (List.mem_cons_of_mem _ (List.mem_cons_of_mem _ (List.mem_cons_of_mem _ (List.mem_cons_self)))) | exact List.mem_cons_of_mem _ (List.mem_cons_of_mem _ (List.mem_cons_of_mem _ (List.mem_cons_of_mem _ (List.mem_cons_of_mem _ (List.mem_cons_self))))) | exact List.mem_cons_of_mem _ (List.mem_cons_of_mem _ (List.mem_cons_of_mem _ (List.mem_cons_of_mem _ (List.mem_cons_of_mem _ (List.mem_cons_of_mem _ (List.mem_cons_self)))))))) ?_; simp only [Act.put, List.setIfInBounds_toArray, List.set_cons_zero, List.set_cons_succ]) | (refine wpD_skip rfl ?_; simp only [Act.put, List.setIfInBounds_toArray, List.set_cons_zero, List.set_cons_succ]) | (refine wpD_pure (v := ?_) rfl (fun u => ?_) ?_; rotate_left; (focus (go_simp; (try with_reducible rfl); done)); simp only [Act.put, List.setIfInBounds_toArray, List.set_cons_zero, List.set_cons_succ]) | (refine wpD_pureg (v := ?_) rfl (fun u => ?_) ?_; rotate_left; (focus (go_simp; (try with_reducible rfl); done)); simp only [Act.put, List.setIfInBounds_toArray, List.set_cons_zero, List.set_cons_succ]))
  (refine wpD_callg (v := .agg (cells (a &&& b))) rfl 19 ?_ (fun u => ?_) (fun u hS => ?_) ?_; rotate_left 1; (focus (go_simp; (try with_reducible rfl); done)); (focus (refine (ltwo_78 a b _).mono ?_; rintro e u2 ⟨rfl, hb⟩; exact ⟨rfl, hS.below hb⟩)); simp only [Act.put, List.setIfInBounds_toArray, List.set_cons_zero, List.set_cons_succ])
  repeat (first | (refine do_loadg rfl _ rfl _ rfl _ (fun u hS => hS.hold (_, _) (by first | exact List.mem_cons_self | exact List.mem_cons_of_mem _ (List.mem_cons_self) | exact List.mem_cons_of_mem _ (List.mem_cons_of_mem _ (List.mem_cons_self)) | exact List.mem_cons_of_mem _ (List.mem_cons_of_mem _ (List.mem_cons_of_mem _ (List.mem_cons_self))) | exact List.mem_cons_of_mem _ (List.mem_cons_of_mem _ (List.mem_cons_of_mem _ (List.mem_cons_of_mem _ (List.mem_cons_self)))) | exact List.mem_cons_of_mem _ (List.mem_cons_of_mem _ (List.mem_cons_of_mem _ (List.mem_cons_of_mem _ (List.mem_cons_of_mem _ (List.mem_cons_self))))) | exact List.mem_cons_of_mem _ (List.mem_cons_of_mem _ (List.mem_cons_of_mem _ (List.mem_cons_of_mem _ (List.mem_cons_of_mem _ (List.mem_cons_of_mem _ (List.mem_cons_self)))))))) ?_; simp only [Act.put, List.setIfInBounds_toArray, List.set_cons_zero, List.set_cons_succ]) | (refine wpD_skip rfl ?_; simp only [Act.put, List.setIfInBounds_toArray, List.set_cons_zero, List.set_cons_succ]) | (refine wpD_pure (v := ?_) rfl (fun u => ?_) ?_; rotate_left; (focus (go_simp; (try with_reducible rfl); done)); simp only [Act.put, List.setIfInBounds_toArray, List.set_cons_zero, List.set_cons_succ]) | (refine wpD_pureg (v := ?_) rfl (fun u => ?_) ?_; rotate_left; (focus (go_simp; (try with_reducible rfl); done)); simp only [Act.put, List.setIfInBounds_toArray, List.set_cons_zero, List.set_cons_succ]))
  (refine wpD_callg (v := .agg (cells (a &&& ~~~b))) rfl 19 ?_ (fun u => ?_) (fun u hS => ?_) ?_; rotate_left 1; (focus (go_simp; (try with_reducible rfl); done)); (focus (refine (ltwo_79 a b _).mono ?_; rintro e u2 ⟨rfl, hb⟩; exact ⟨rfl, hS.below hb⟩)); simp only [Act.put, List.setIfInBounds_toArray, List.set_cons_zero, List.set_cons_succ])
  repeat (first | (refine do_loadg rfl _ rfl _ rfl _ (fun u hS => hS.hold (_, _) (by first | exact List.mem_cons_self | exact List.mem_cons_of_mem _ (List.mem_cons_self) | exact List.mem_cons_of_mem _ (List.mem_cons_of_mem _ (List.mem_cons_self)) | exact List.mem_cons_of_mem _ (List.mem_cons_of_mem _ (List.mem_cons_of_mem _ (List.mem_cons_self))) | exact List.mem_cons_of_mem _ (List.mem_cons_of_mem _ (List.mem_cons_of_mem _ (List.mem_cons_of_mem _ (List.mem_cons_self)))) | exact List.mem_cons_of_mem _ (List.mem_cons_of_mem _ (List.mem_cons_of_mem _ (List.mem_cons_of_mem _ (List.mem_cons_of_mem _ (List.mem_cons_self))))) | exact List.mem_cons_of_mem _ (List.mem_cons_of_mem _ (List.mem_cons_of_mem _ (List.mem_cons_of_mem _ (List.mem_cons_of_mem _ (List.mem_cons_of_mem _ (List.mem_cons_self)))))))) ?_; simp only [Act.put, List.setIfInBounds_toArray, List.set_cons_zero, List.set_cons_succ]) | (refine wpD_skip rfl ?_; simp only [Act.put, List.setIfInBounds_toArray, List.set_cons_zero, List.set_cons_succ]) | (refine wpD_pure (v := ?_) rfl (fun u => ?_) ?_; rotate_left; (focus (go_simp; (try with_reducible rfl); done)); simp only [Act.put, List.setIfInBounds_toArray, List.set_cons_zero, List.set_cons_succ]) | (refine wpD_pureg (v := ?_) rfl (fun u => ?_) ?_; rotate_left; (focus (go_simp; (try with_reducible rfl); done)); simp only [Act.put, List.setIfInBounds_toArray, List.set_cons_zero, List.set_cons_succ]))
  (refine wpD_callg (v := .agg (cells a)) rfl 19 ?_ (fun u => ?_) (fun u hS => ?_) ?_; rotate_left 1; (focus (go_simp; (try with_reducible rfl); done)); (focus (refine (T5.out _).mono ?_; rintro e u2 ⟨rfl, hb⟩; exact ⟨rfl, hS.below hb⟩)); simp only [Act.put, List.setIfInBounds_toArray, List.set_cons_zero, List.set_cons_succ])
  repeat (first | (refine do_loadg rfl _ rfl _ rfl _ (fun u hS => hS.hold (_, _) (by first | exact List.mem_cons_self | exact List.mem_cons_of_mem _ (List.mem_cons_self) | exact List.mem_cons_of_mem _ (List.mem_cons_of_mem _ (List.mem_cons_self)) | exact List.mem_cons_of_mem _ (List.mem_cons_of_mem _ (List.mem_cons_of_mem _ (List.mem_cons_self))) | exact List.mem_cons_of_mem _ (List.mem_cons_of_mem _ (List.mem_cons_of_mem _ (List.mem_cons_of_mem _ (List.mem_cons_self)))) | exact List.mem_cons_of_mem _ (List.mem_cons_of_mem _ (List.mem_cons_of_mem _ (List.mem_cons_of_mem _ (List.mem_cons_of_mem _ (List.mem_cons_self))))) | exact List.mem_cons_of_mem _ (List.mem_cons_of_mem _ (List.mem_cons_of_mem _ (List.mem_cons_of_mem _ (List.mem_cons_of_mem _ (List.mem_cons_of_mem _ (List.mem_cons_self)))))))) ?_; simp only [Act.put, List.setIfInBounds_toArray, List.set_cons_zero, List.set_cons_succ]) | (refine wpD_skip rfl ?_; simp only [Act.put, List.setIfInBounds_toArray, List.set_cons_zero, List.set_cons_succ]) | (refine wpD_pure (v := ?_) rfl (fun u => ?_) ?_; rotate_left; (focus (go_simp; (try with_reducible rfl); done)); simp only [Act.put, List.setIfInBounds_toArray, List.set_cons_zero, List.set_cons_succ]) | (refine wpD_pureg (v := ?_) rfl (fun u => ?_) ?_; rotate_left; (focus (go_simp; (try with_reducible rfl); done)); simp only [Act.put, List.setIfInBounds_toArray, List.set_cons_zero, List.set_cons_succ]))
  refine wpD_nil (fun wr1 hr => ?_)
  replace hs := hr
  clear hr T1 T2 T3 T4 T5 HX HY
  go_wp2_with fail
  go_loopw [11] (fun ov wr => ∃ z : Int, (0 ≤ z ∧ z ≤ 3) ∧ ov = .int .i64 z ∧ HL w [(B2, Y), (B1, X), (w.heap.size + 2, c), (w.heap.size + 1, b), (w.heap.size, a)] wr) (fun ov _ => (3 - intOf ov).toNat)
  case atStart => exact ⟨0, by decide, rfl, hs⟩
  case round =>
    clear hs
    obtain ⟨z, hz, rfl, hs⟩ := hrel
    by_cases hz3 : z < 3
    · go_wp2_with fail
      go_loopw [12] (fun ov wr => ∃ s : Int, (0 ≤ s ∧ s ≤ 2) ∧ ov = .int .i64 s ∧ HL w [(B2, Y), (B1, X), (w.heap.size + 2, c), (w.heap.size + 1, b), (w.heap.size, a)] wr) (fun ov _ => (2 - intOf ov).toNat)
      case atStart => exact ⟨0, by decide, rfl, hs⟩
      case round =>
        clear hs
        obtain ⟨s, hsx, rfl, hs⟩ := hrel
        by_cases hs2 : s < 2
        · obtain ⟨M, LE, hML, C1, C2⟩ := ch_round a b z s ⟨hz.1, hz3⟩ ⟨hsx.1, hs2⟩
          have hEM := eqv hML
          replace C1 := Lib.hid C1
          replace C2 := Lib.hid C2
          clear hML

          go_wp2_with (first | ((with_reducible refine load_vec_g ?_ _ rfl _ rfl (bitV 82 a b M) (hs.hold (_, (bitV 82 a b M)) List.mem_cons_self) ?_); (focus rfl)) | (with_reducible refine load_vec rfl _ rfl _ rfl (bitV 82 a b M) (hs.hold (_, (bitV 82 a b M)) List.mem_cons_self) ?_) | ((with_reducible refine load_vec_g ?_ _ rfl _ rfl LE (hs.hold (_, LE) (List.mem_cons_of_mem _ List.mem_cons_self)) ?_); (focus rfl)) | (with_reducible refine load_vec rfl _ rfl _ rfl LE (hs.hold (_, LE) (List.mem_cons_of_mem _ List.mem_cons_self)) ?_) | (with_reducible refine load_vec rfl _ rfl _ rfl _ (hs.hold (_, _) (by first | exact List.mem_cons_self | exact List.mem_cons_of_mem _ (List.mem_cons_self) | exact List.mem_cons_of_mem _ (List.mem_cons_of_mem _ (List.mem_cons_self)) | exact List.mem_cons_of_mem _ (List.mem_cons_of_mem _ (List.mem_cons_of_mem _ (List.mem_cons_self))) | exact List.mem_cons_of_mem _ (List.mem_cons_of_mem _ (List.mem_cons_of_mem _ (List.mem_cons_of_mem _ (List.mem_cons_self)))) | exact List.mem_cons_of_mem _ (List.mem_cons_of_mem _ (List.mem_cons_of_mem _ (List.mem_cons_of_mem _ (List.mem_cons_of_mem _ (List.mem_cons_self))))) | exact List.mem_cons_of_mem _ (List.mem_cons_of_mem _ (List.mem_cons_of_mem _ (List.mem_cons_of_mem _ (List.mem_cons_of_mem _ (List.mem_cons_of_mem _ (List.mem_cons_self)))))))) ?_) | ((with_reducible refine load_vec_g ?_ _ rfl _ rfl _ (hs.hold (_, _) (by first | exact List.mem_cons_self | exact List.mem_cons_of_mem _ (List.mem_cons_self) | exact List.mem_cons_of_mem _ (List.mem_cons_of_mem _ (List.mem_cons_self)) | exact List.mem_cons_of_mem _ (List.mem_cons_of_mem _ (List.mem_cons_of_mem _ (List.mem_cons_self))) | exact List.mem_cons_of_mem _ (List.mem_cons_of_mem _ (List.mem_cons_of_mem _ (List.mem_cons_of_mem _ (List.mem_cons_self)))) | exact List.mem_cons_of_mem _ (List.mem_cons_of_mem _ (List.mem_cons_of_mem _ (List.mem_cons_of_mem _ (List.mem_cons_of_mem _ (List.mem_cons_self))))) | exact List.mem_cons_of_mem _ (List.mem_cons_of_mem _ (List.mem_cons_of_mem _ (List.mem_cons_of_mem _ (List.mem_cons_of_mem _ (List.mem_cons_of_mem _ (List.mem_cons_self)))))))) ?_); (focus rfl)) | (go_at_call 18; (with_reducible refine (C1.out _ _ (by omega)).mono ?_); rintro e u ⟨rfl, hb⟩; replace hs := hs.below hb; clear hb) | (go_at_call 21; (with_reducible refine (C2.out _ _ (by omega)).mono ?_); rintro e u ⟨rfl, hb⟩; replace hs := hs.below hb; clear hb) | (with_reducible refine store_vec rfl _ _ rfl _ _ rfl rfl 0 (heap_new_zero _) ?_; intro wA hA; replace hs := HL.push hs hA; clear hA) | (with_reducible refine build3 rfl _ _ _ rfl a b M rfl rfl rfl ?_; intro wB hB; replace hs := hs.below hB.bel) | (go_at_call 15; (with_reducible refine (bits_82 a b M _ _ _ hB.lt hB.r0 hB.r1 hB.r2).mono ?_); rintro e u ⟨rfl, hb⟩; replace hs := hs.below hb; clear hb hB))
          go_roundw
          case rel => first | exact ⟨s + 1, by omega, rfl, HL.pop (HL.pop (HL.pop hs))⟩ | ((repeat apply Exists.intro); exact ⟨⟨s + 1, by omega, rfl, HL.pop (HL.pop (HL.pop hs))⟩, rfl⟩)
          case measure => (simp [intOf] <;> omega)
        · go_wp2_with fail
          go_roundw
          case rel => first | exact ⟨z + 1, by omega, rfl, hs⟩ | ((repeat apply Exists.intro); exact ⟨⟨z + 1, by omega, rfl, hs⟩, rfl⟩)
          case measure => (simp [intOf] <;> omega)
    · go_wp2_with fail
      go_ret
      exact ⟨rfl, hs.bel⟩

end Go.Proofs.Ytifafdfjmhadaaa
