/-
  The walk of plaitlaw08.WidenExact.
-/
import Derived.Test.YtnjhojjpajnbhaaWidF
namespace Go.Proofs.Ytnjhojjpajnbhaa
open Go.RowKit Pl
set_option linter.unusedVariables false

theorem wm8 (a b : Vec) (i : Nat) : wrap64 (sgn 8 (getN a 8 i) * sgn 8 (getN b 8 i)) = sgn 8 (getN a 8 i) * sgn 8 (getN b 8 i) := by
  have ha := bd8 a i
  have hb := bd8 b i
  have hm := mul_bd 128 (sgn 8 (getN a 8 i)) (sgn 8 (getN b 8 i)) (by omega) (by omega)
  exact IntWalk.wrap64_in _ (by omega)
theorem um8 (a b : Vec) (i : Nat) : IntKind.u64.wrap ((getN a 8 i : Int) * (getN b 8 i : Int)) = ((getN a 8 i * getN b 8 i : Nat) : Int) := by
  have ha := getN_lt a 8 i
  have hb := getN_lt b 8 i
  have hm : getN a 8 i * getN b 8 i < 2 ^ 8 * 2 ^ 8 := Nat.mul_lt_mul'' ha hb
  have hp : (2 : Nat) ^ 8 * 2 ^ 8 ≤ 18446744073709551616 := by decide
  rw [← Int.natCast_mul]
  exact IntWalk.u64_in _ (by omega)
theorem wp8 (a : Vec) (k : Nat) : IntKind.i64.wrap (sgn 8 (getN a 8 (2 * k)) + sgn 8 (getN a 8 (2 * k + 1))) = sgn 8 (getN a 8 (2 * k)) + sgn 8 (getN a 8 (2 * k + 1)) := by
  have h1 := bd8 a (2 * k)
  have h2 := bd8 a (2 * k + 1)
  exact IntWalk.i64_in _ (by omega)
theorem up8 (a : Vec) (k : Nat) : IntKind.u64.wrap ((getN a 8 (2 * k) : Int) + (getN a 8 (2 * k + 1) : Int)) = ((getN a 8 (2 * k) + getN a 8 (2 * k + 1) : Nat) : Int) := by
  have h1 := get_bd a 8 (2 * k) (by decide)
  have h2 := get_bd a 8 (2 * k + 1) (by decide)
  rw [← Int.natCast_add]
  exact IntWalk.u64_in _ (by omega)
theorem wm16 (a b : Vec) (i : Nat) : wrap64 (sgn 16 (getN a 16 i) * sgn 16 (getN b 16 i)) = sgn 16 (getN a 16 i) * sgn 16 (getN b 16 i) := by
  have ha := bd16 a i
  have hb := bd16 b i
  have hm := mul_bd 32768 (sgn 16 (getN a 16 i)) (sgn 16 (getN b 16 i)) (by omega) (by omega)
  exact IntWalk.wrap64_in _ (by omega)
theorem um16 (a b : Vec) (i : Nat) : IntKind.u64.wrap ((getN a 16 i : Int) * (getN b 16 i : Int)) = ((getN a 16 i * getN b 16 i : Nat) : Int) := by
  have ha := getN_lt a 16 i
  have hb := getN_lt b 16 i
  have hm : getN a 16 i * getN b 16 i < 2 ^ 16 * 2 ^ 16 := Nat.mul_lt_mul'' ha hb
  have hp : (2 : Nat) ^ 16 * 2 ^ 16 ≤ 18446744073709551616 := by decide
  rw [← Int.natCast_mul]
  exact IntWalk.u64_in _ (by omega)
theorem wp16 (a : Vec) (k : Nat) : IntKind.i64.wrap (sgn 16 (getN a 16 (2 * k)) + sgn 16 (getN a 16 (2 * k + 1))) = sgn 16 (getN a 16 (2 * k)) + sgn 16 (getN a 16 (2 * k + 1)) := by
  have h1 := bd16 a (2 * k)
  have h2 := bd16 a (2 * k + 1)
  exact IntWalk.i64_in _ (by omega)
theorem up16 (a : Vec) (k : Nat) : IntKind.u64.wrap ((getN a 16 (2 * k) : Int) + (getN a 16 (2 * k + 1) : Int)) = ((getN a 16 (2 * k) + getN a 16 (2 * k + 1) : Nat) : Int) := by
  have h1 := get_bd a 16 (2 * k) (by decide)
  have h2 := get_bd a 16 (2 * k + 1) (by decide)
  rw [← Int.natCast_add]
  exact IntWalk.u64_in _ (by omega)
theorem wm32 (a b : Vec) (i : Nat) : wrap64 (sgn 32 (getN a 32 i) * sgn 32 (getN b 32 i)) = sgn 32 (getN a 32 i) * sgn 32 (getN b 32 i) := by
  have ha := bd32 a i
  have hb := bd32 b i
  have hm := mul_bd 2147483648 (sgn 32 (getN a 32 i)) (sgn 32 (getN b 32 i)) (by omega) (by omega)
  exact IntWalk.wrap64_in _ (by omega)
theorem um32 (a b : Vec) (i : Nat) : IntKind.u64.wrap ((getN a 32 i : Int) * (getN b 32 i : Int)) = ((getN a 32 i * getN b 32 i : Nat) : Int) := by
  have ha := getN_lt a 32 i
  have hb := getN_lt b 32 i
  have hm : getN a 32 i * getN b 32 i < 2 ^ 32 * 2 ^ 32 := Nat.mul_lt_mul'' ha hb
  have hp : (2 : Nat) ^ 32 * 2 ^ 32 ≤ 18446744073709551616 := by decide
  rw [← Int.natCast_mul]
  exact IntWalk.u64_in _ (by omega)


set_option maxHeartbeats 8000000 in
set_option maxRecDepth 100000 in
theorem exact_walk (a b : Vec) (w : World) :
    Calls Try.prog 5 #[.agg (cells a), .agg (cells b)] w fun e w' => e = .returned (.bool true) ∧ Below w.heap.size w w' := by
  go_enter Try.func5, Try.ntmps5
  go_wp2_with fail
  refine (awake_any _).mono ?_
  rintro e w1 ⟨rfl, hb1⟩
  have hS : H2 w a b w1 := H2.start a b hb1
  clear hb1
  go_wp2_with fail
  go_loopw [5] (fun jv wr => ∃ j : Int, 0 ≤ j ∧ j ≤ 3 ∧ jv = .int .i64 j ∧ H2 w a b wr) (fun jv _ => (3 - intOf jv).toNat)
  case atStart => exact ⟨0, by decide, by decide, rfl, hS⟩
  case round =>
    obtain ⟨j, hj0, hj, rfl, ho⟩ := hrel
    rcases (show j = 0 ∨ j = 1 ∨ j = 2 ∨ j = 3 by omega) with rfl | rfl | rfl | rfl

    · clear hS
      go_wp2_with fail
      skip
      go_loopw [8] (fun iv wr => ∃ k : Nat, k ≤ 8 ∧ iv = .int .i64 k ∧ H2 w a b wr) (fun iv _ => 8 - (intOf iv).toNat)
      case atStart => exact ⟨0, by omega, rfl, ho⟩
      case round =>
        clear ho
        obtain ⟨k, hk, rfl, hs⟩ := hrel
        by_cases hlt : k < 8
        · as_aux_lemma =>
          go_wp2_with fail
          refine wp_loop_rounds 3 ?_
          have q01 : (sgn 16 (getN (buildOn 0#128 16 (extN a 8 0) 8) 16 k) != sgn 8 (getN a 8 k)) = false := eq_testI (xs8 a 0 k (by decide) hlt)
          have q02 : ((getN (buildOn 0#128 16 (extN a 8 2) 8) 16 k : Int) != (getN a 8 k : Int)) = false := eq_testI (congrArg Nat.cast (xu8 a 2 k (by decide) hlt))
          have q03 : (sgn 16 (getN (buildOn 0#128 16 (mulN 8 0 a b) 8) 16 k) != wrap64 (sgn 8 (getN a 8 k) * sgn 8 (getN b 8 k))) = false := eq_testI (by rw [ms8 a b 0 k (by decide) hlt]; exact (wm8 a b k).symm)
          have q04 : ((getN (buildOn 0#128 16 (mulN 8 2 a b) 8) 16 k : Int) != IntKind.u64.wrap ((getN a 8 k : Int) * (getN b 8 k : Int))) = false := eq_testI (by rw [mu8 a b 2 k (by decide) hlt]; exact (um8 a b k).symm)
          rw [rounds_succ]
          go_wp2_with (first | (with_reducible refine load_vec rfl _ rfl _ rfl _ hs.fst ?_) | (with_reducible refine load_vec rfl _ rfl _ rfl _ hs.snd ?_) | ((with_reducible refine load_vec_g ?_ _ rfl _ rfl _ hs.fst ?_); (focus rfl)) | ((with_reducible refine load_vec_g ?_ _ rfl _ rfl _ hs.snd ?_); (focus rfl)) | (go_at_call 14; (with_reducible refine (signed8z a _ (k) _ (by omega) (by omega)).mono ?_); rintro e u ⟨rfl, hb⟩; replace hs := hs.below hb; clear hb) | (go_at_call 14; (with_reducible refine (signed8z b _ (k) _ (by omega) (by omega)).mono ?_); rintro e u ⟨rfl, hb⟩; replace hs := hs.below hb; clear hb) | (go_at_call 15; (with_reducible refine (get8z a _ (k) _ (by omega) (by omega)).mono ?_); rintro e u ⟨rfl, hb⟩; replace hs := hs.below hb; clear hb) | (go_at_call 15; (with_reducible refine (get8z b _ (k) _ (by omega) (by omega)).mono ?_); rintro e u ⟨rfl, hb⟩; replace hs := hs.below hb; clear hb) | (go_at_call 16; (with_reducible refine (lun_z 135 64903 a (buildOn 0#128 16 (extN a 8 0) 8) _ (by decide) rfl rfl).mono ?_); rintro e u ⟨rfl, hb⟩; replace hs := hs.below hb; clear hb) | (go_at_call 16; (with_reducible refine (lun_z 137 64905 a (buildOn 0#128 16 (extN a 8 2) 8) _ (by decide) rfl rfl).mono ?_); rintro e u ⟨rfl, hb⟩; replace hs := hs.below hb; clear hb) | (go_at_call 17; (with_reducible refine (lbin_z 156 64924 a b (buildOn 0#128 16 (mulN 8 0 a b) 8) _ (by decide) rfl rfl).mono ?_); rintro e u ⟨rfl, hb⟩; replace hs := hs.below hb; clear hb) | (go_at_call 17; (with_reducible refine (lbin_z 158 64926 a b (buildOn 0#128 16 (mulN 8 2 a b) 8) _ (by decide) rfl rfl).mono ?_); rintro e u ⟨rfl, hb⟩; replace hs := hs.below hb; clear hb) | (go_at_call 14; (with_reducible refine (signed16z (buildOn 0#128 16 (extN a 8 0) 8) _ (k) _ (by omega) (by omega)).mono ?_); rintro e u ⟨rfl, hb⟩; replace hs := hs.below hb; clear hb) | (go_at_call 15; (with_reducible refine (get16z (buildOn 0#128 16 (extN a 8 2) 8) _ (k) _ (by omega) (by omega)).mono ?_); rintro e u ⟨rfl, hb⟩; replace hs := hs.below hb; clear hb) | (go_at_call 14; (with_reducible refine (signed16z (buildOn 0#128 16 (mulN 8 0 a b) 8) _ (k) _ (by omega) (by omega)).mono ?_); rintro e u ⟨rfl, hb⟩; replace hs := hs.below hb; clear hb) | (go_at_call 15; (with_reducible refine (get16z (buildOn 0#128 16 (mulN 8 2 a b) 8) _ (k) _ (by omega) (by omega)).mono ?_); rintro e u ⟨rfl, hb⟩; replace hs := hs.below hb; clear hb))
          have q11 : (sgn 16 (getN (buildOn 0#128 16 (extN a 8 1) 8) 16 k) != sgn 8 (getN a 8 (k + 8))) = false := eq_testI (xs8 a 1 k (by decide) hlt)
          have q12 : ((getN (buildOn 0#128 16 (extN a 8 3) 8) 16 k : Int) != (getN a 8 (k + 8) : Int)) = false := eq_testI (congrArg Nat.cast (xu8 a 3 k (by decide) hlt))
          have q13 : (sgn 16 (getN (buildOn 0#128 16 (mulN 8 1 a b) 8) 16 k) != wrap64 (sgn 8 (getN a 8 (k + 8)) * sgn 8 (getN b 8 (k + 8)))) = false := eq_testI (by rw [ms8 a b 1 k (by decide) hlt]; exact (wm8 a b (k + 8)).symm)
          have q14 : ((getN (buildOn 0#128 16 (mulN 8 3 a b) 8) 16 k : Int) != IntKind.u64.wrap ((getN a 8 (k + 8) : Int) * (getN b 8 (k + 8) : Int))) = false := eq_testI (by rw [mu8 a b 3 k (by decide) hlt]; exact (um8 a b (k + 8)).symm)
          rw [rounds_succ]
          go_wp2_with (first | (with_reducible refine load_vec rfl _ rfl _ rfl _ hs.fst ?_) | (with_reducible refine load_vec rfl _ rfl _ rfl _ hs.snd ?_) | ((with_reducible refine load_vec_g ?_ _ rfl _ rfl _ hs.fst ?_); (focus rfl)) | ((with_reducible refine load_vec_g ?_ _ rfl _ rfl _ hs.snd ?_); (focus rfl)) | (go_at_call 14; (with_reducible refine (signed8z a _ ((k + 8)) _ (by omega) (by omega)).mono ?_); rintro e u ⟨rfl, hb⟩; replace hs := hs.below hb; clear hb) | (go_at_call 14; (with_reducible refine (signed8z b _ ((k + 8)) _ (by omega) (by omega)).mono ?_); rintro e u ⟨rfl, hb⟩; replace hs := hs.below hb; clear hb) | (go_at_call 15; (with_reducible refine (get8z a _ ((k + 8)) _ (by omega) (by omega)).mono ?_); rintro e u ⟨rfl, hb⟩; replace hs := hs.below hb; clear hb) | (go_at_call 15; (with_reducible refine (get8z b _ ((k + 8)) _ (by omega) (by omega)).mono ?_); rintro e u ⟨rfl, hb⟩; replace hs := hs.below hb; clear hb) | (go_at_call 16; (with_reducible refine (lun_z 136 64904 a (buildOn 0#128 16 (extN a 8 1) 8) _ (by decide) rfl rfl).mono ?_); rintro e u ⟨rfl, hb⟩; replace hs := hs.below hb; clear hb) | (go_at_call 16; (with_reducible refine (lun_z 138 64906 a (buildOn 0#128 16 (extN a 8 3) 8) _ (by decide) rfl rfl).mono ?_); rintro e u ⟨rfl, hb⟩; replace hs := hs.below hb; clear hb) | (go_at_call 17; (with_reducible refine (lbin_z 157 64925 a b (buildOn 0#128 16 (mulN 8 1 a b) 8) _ (by decide) rfl rfl).mono ?_); rintro e u ⟨rfl, hb⟩; replace hs := hs.below hb; clear hb) | (go_at_call 17; (with_reducible refine (lbin_z 159 64927 a b (buildOn 0#128 16 (mulN 8 3 a b) 8) _ (by decide) rfl rfl).mono ?_); rintro e u ⟨rfl, hb⟩; replace hs := hs.below hb; clear hb) | (go_at_call 14; (with_reducible refine (signed16z (buildOn 0#128 16 (extN a 8 1) 8) _ (k) _ (by omega) (by omega)).mono ?_); rintro e u ⟨rfl, hb⟩; replace hs := hs.below hb; clear hb) | (go_at_call 15; (with_reducible refine (get16z (buildOn 0#128 16 (extN a 8 3) 8) _ (k) _ (by omega) (by omega)).mono ?_); rintro e u ⟨rfl, hb⟩; replace hs := hs.below hb; clear hb) | (go_at_call 14; (with_reducible refine (signed16z (buildOn 0#128 16 (mulN 8 1 a b) 8) _ (k) _ (by omega) (by omega)).mono ?_); rintro e u ⟨rfl, hb⟩; replace hs := hs.below hb; clear hb) | (go_at_call 15; (with_reducible refine (get16z (buildOn 0#128 16 (mulN 8 3 a b) 8) _ (k) _ (by omega) (by omega)).mono ?_); rintro e u ⟨rfl, hb⟩; replace hs := hs.below hb; clear hb))
          rw [rounds_succ]
          go_wp2_with fail
          have e1 : IntKind.i64.wrap (2 * (k : Int)) = 2 * (k : Int) := IntWalk.i64_in _ (by omega)
          have e2 : IntKind.i64.wrap (2 * (k : Int) + 1) = 2 * (k : Int) + 1 := IntWalk.i64_in _ (by omega)
          have t1 : (sgn 16 (getN (buildOn 0#128 16 (pairN true 8 a) 8) 16 k) != IntKind.i64.wrap (sgn 8 (getN a 8 (2 * k)) + sgn 8 (getN a 8 (2 * k + 1)))) = false := eq_testI (by rw [ps8 a k hlt]; exact (wp8 a k).symm)
          have t2 : ((getN (buildOn 0#128 16 (pairN false 8 a) 8) 16 k : Int) != IntKind.u64.wrap ((getN a 8 (2 * k) : Int) + (getN a 8 (2 * k + 1) : Int))) = false := eq_testI (by rw [pu8 a k hlt]; exact (up8 a k).symm)
          refine region_do (H2 w a b) 49 (by kernel_rfl) (by kernel_rfl) hs.drew ?_
          simp only [List.take_succ_cons, List.take_zero, List.drop_succ_cons, List.drop_zero]
          repeat (first | (refine do_loadg rfl _ rfl _ rfl _ (fun u hS => hS.fst) ?_; simp only [Act.put, List.setIfInBounds_toArray, List.set_cons_zero, List.set_cons_succ]) | (refine wpD_pure (v := ?_) rfl (fun u => ?_) ?_; rotate_left; (focus (go_simp; (try with_reducible rfl); done)); simp only [Act.put, List.setIfInBounds_toArray, List.set_cons_zero, List.set_cons_succ]) | (refine wpD_pureg (v := ?_) rfl (fun u => ?_) ?_; rotate_left; (focus (go_simp; (try with_reducible rfl); done)); simp only [Act.put, List.setIfInBounds_toArray, List.set_cons_zero, List.set_cons_succ]))
          (refine wpD_callg (v := .agg (cells (buildOn 0#128 16 (pairN true 8 a) 8))) rfl 16 ?_ (fun u => ?_) (fun u hS => ?_) ?_; rotate_left 1; (focus (go_simp; (try with_reducible rfl); done)); (focus (refine (lun_z 124 64892 a (buildOn 0#128 16 (pairN true 8 a) 8) _ (by decide) rfl rfl).mono ?_; rintro e u2 ⟨rfl, hb⟩; exact ⟨rfl, hS.below hb⟩)); simp only [Act.put, List.setIfInBounds_toArray, List.set_cons_zero, List.set_cons_succ])
          repeat (first | (refine do_loadg rfl _ rfl _ rfl _ (fun u hS => hS.fst) ?_; simp only [Act.put, List.setIfInBounds_toArray, List.set_cons_zero, List.set_cons_succ]) | (refine wpD_pure (v := ?_) rfl (fun u => ?_) ?_; rotate_left; (focus (go_simp; (try with_reducible rfl); done)); simp only [Act.put, List.setIfInBounds_toArray, List.set_cons_zero, List.set_cons_succ]) | (refine wpD_pureg (v := ?_) rfl (fun u => ?_) ?_; rotate_left; (focus (go_simp; (try with_reducible rfl); done)); simp only [Act.put, List.setIfInBounds_toArray, List.set_cons_zero, List.set_cons_succ]))
          (refine wpD_callg (v := .int .i64 (sgn 16 (getN (buildOn 0#128 16 (pairN true 8 a) 8) 16 (k)))) rfl 14 ?_ (fun u => ?_) (fun u hS => ?_) ?_; rotate_left 1; (focus (go_simp; (try with_reducible rfl); done)); (focus (refine (signed16z (buildOn 0#128 16 (pairN true 8 a) 8) _ (k) _ (by omega) (by omega)).mono ?_; rintro e u2 ⟨rfl, hb⟩; exact ⟨rfl, hS.below hb⟩)); simp only [Act.put, List.setIfInBounds_toArray, List.set_cons_zero, List.set_cons_succ])
          repeat (first | (refine do_loadg rfl _ rfl _ rfl _ (fun u hS => hS.fst) ?_; simp only [Act.put, List.setIfInBounds_toArray, List.set_cons_zero, List.set_cons_succ]) | (refine wpD_pure (v := ?_) rfl (fun u => ?_) ?_; rotate_left; (focus (go_simp; (try with_reducible rfl); done)); simp only [Act.put, List.setIfInBounds_toArray, List.set_cons_zero, List.set_cons_succ]) | (refine wpD_pureg (v := ?_) rfl (fun u => ?_) ?_; rotate_left; (focus (go_simp; (try with_reducible rfl); done)); simp only [Act.put, List.setIfInBounds_toArray, List.set_cons_zero, List.set_cons_succ]))
          (refine wpD_callg (v := .int .i64 (sgn 8 (getN a 8 (2 * k)))) rfl 14 ?_ (fun u => ?_) (fun u hS => ?_) ?_; rotate_left 1; (focus (go_simp; (try with_reducible rfl); done)); (focus (refine (signed8z a _ (2 * k) _ (by omega) (by omega)).mono ?_; rintro e u2 ⟨rfl, hb⟩; exact ⟨rfl, hS.below hb⟩)); simp only [Act.put, List.setIfInBounds_toArray, List.set_cons_zero, List.set_cons_succ])
          repeat (first | (refine do_loadg rfl _ rfl _ rfl _ (fun u hS => hS.fst) ?_; simp only [Act.put, List.setIfInBounds_toArray, List.set_cons_zero, List.set_cons_succ]) | (refine wpD_pure (v := ?_) rfl (fun u => ?_) ?_; rotate_left; (focus (go_simp; (try with_reducible rfl); done)); simp only [Act.put, List.setIfInBounds_toArray, List.set_cons_zero, List.set_cons_succ]) | (refine wpD_pureg (v := ?_) rfl (fun u => ?_) ?_; rotate_left; (focus (go_simp; (try with_reducible rfl); done)); simp only [Act.put, List.setIfInBounds_toArray, List.set_cons_zero, List.set_cons_succ]))
          (refine wpD_callg (v := .int .i64 (sgn 8 (getN a 8 (2 * k + 1)))) rfl 14 ?_ (fun u => ?_) (fun u hS => ?_) ?_; rotate_left 1; (focus (go_simp; (try with_reducible rfl); done)); (focus (refine (signed8z a _ (2 * k + 1) _ (by omega) (by omega)).mono ?_; rintro e u2 ⟨rfl, hb⟩; exact ⟨rfl, hS.below hb⟩)); simp only [Act.put, List.setIfInBounds_toArray, List.set_cons_zero, List.set_cons_succ])
          repeat (first | (refine do_loadg rfl _ rfl _ rfl _ (fun u hS => hS.fst) ?_; simp only [Act.put, List.setIfInBounds_toArray, List.set_cons_zero, List.set_cons_succ]) | (refine wpD_pure (v := ?_) rfl (fun u => ?_) ?_; rotate_left; (focus (go_simp; (try with_reducible rfl); done)); simp only [Act.put, List.setIfInBounds_toArray, List.set_cons_zero, List.set_cons_succ]) | (refine wpD_pureg (v := ?_) rfl (fun u => ?_) ?_; rotate_left; (focus (go_simp; (try with_reducible rfl); done)); simp only [Act.put, List.setIfInBounds_toArray, List.set_cons_zero, List.set_cons_succ]))
          (refine wpD_callg (v := .agg (cells (buildOn 0#128 16 (pairN false 8 a) 8))) rfl 16 ?_ (fun u => ?_) (fun u hS => ?_) ?_; rotate_left 1; (focus (go_simp; (try with_reducible rfl); done)); (focus (refine (lun_z 125 64893 a (buildOn 0#128 16 (pairN false 8 a) 8) _ (by decide) rfl rfl).mono ?_; rintro e u2 ⟨rfl, hb⟩; exact ⟨rfl, hS.below hb⟩)); simp only [Act.put, List.setIfInBounds_toArray, List.set_cons_zero, List.set_cons_succ])
          repeat (first | (refine do_loadg rfl _ rfl _ rfl _ (fun u hS => hS.fst) ?_; simp only [Act.put, List.setIfInBounds_toArray, List.set_cons_zero, List.set_cons_succ]) | (refine wpD_pure (v := ?_) rfl (fun u => ?_) ?_; rotate_left; (focus (go_simp; (try with_reducible rfl); done)); simp only [Act.put, List.setIfInBounds_toArray, List.set_cons_zero, List.set_cons_succ]) | (refine wpD_pureg (v := ?_) rfl (fun u => ?_) ?_; rotate_left; (focus (go_simp; (try with_reducible rfl); done)); simp only [Act.put, List.setIfInBounds_toArray, List.set_cons_zero, List.set_cons_succ]))
          (refine wpD_callg (v := .int .u64 (getN (buildOn 0#128 16 (pairN false 8 a) 8) 16 (k) : Nat)) rfl 15 ?_ (fun u => ?_) (fun u hS => ?_) ?_; rotate_left 1; (focus (go_simp; (try with_reducible rfl); done)); (focus (refine (get16z (buildOn 0#128 16 (pairN false 8 a) 8) _ (k) _ (by omega) (by omega)).mono ?_; rintro e u2 ⟨rfl, hb⟩; exact ⟨rfl, hS.below hb⟩)); simp only [Act.put, List.setIfInBounds_toArray, List.set_cons_zero, List.set_cons_succ])
          repeat (first | (refine do_loadg rfl _ rfl _ rfl _ (fun u hS => hS.fst) ?_; simp only [Act.put, List.setIfInBounds_toArray, List.set_cons_zero, List.set_cons_succ]) | (refine wpD_pure (v := ?_) rfl (fun u => ?_) ?_; rotate_left; (focus (go_simp; (try with_reducible rfl); done)); simp only [Act.put, List.setIfInBounds_toArray, List.set_cons_zero, List.set_cons_succ]) | (refine wpD_pureg (v := ?_) rfl (fun u => ?_) ?_; rotate_left; (focus (go_simp; (try with_reducible rfl); done)); simp only [Act.put, List.setIfInBounds_toArray, List.set_cons_zero, List.set_cons_succ]))
          (refine wpD_callg (v := .int .u64 (getN a 8 (2 * k) : Nat)) rfl 15 ?_ (fun u => ?_) (fun u hS => ?_) ?_; rotate_left 1; (focus (go_simp; (try with_reducible rfl); done)); (focus (refine (get8z a _ (2 * k) _ (by omega) (by omega)).mono ?_; rintro e u2 ⟨rfl, hb⟩; exact ⟨rfl, hS.below hb⟩)); simp only [Act.put, List.setIfInBounds_toArray, List.set_cons_zero, List.set_cons_succ])
          repeat (first | (refine do_loadg rfl _ rfl _ rfl _ (fun u hS => hS.fst) ?_; simp only [Act.put, List.setIfInBounds_toArray, List.set_cons_zero, List.set_cons_succ]) | (refine wpD_pure (v := ?_) rfl (fun u => ?_) ?_; rotate_left; (focus (go_simp; (try with_reducible rfl); done)); simp only [Act.put, List.setIfInBounds_toArray, List.set_cons_zero, List.set_cons_succ]) | (refine wpD_pureg (v := ?_) rfl (fun u => ?_) ?_; rotate_left; (focus (go_simp; (try with_reducible rfl); done)); simp only [Act.put, List.setIfInBounds_toArray, List.set_cons_zero, List.set_cons_succ]))
          (refine wpD_callg (v := .int .u64 (getN a 8 (2 * k + 1) : Nat)) rfl 15 ?_ (fun u => ?_) (fun u hS => ?_) ?_; rotate_left 1; (focus (go_simp; (try with_reducible rfl); done)); (focus (refine (get8z a _ (2 * k + 1) _ (by omega) (by omega)).mono ?_; rintro e u2 ⟨rfl, hb⟩; exact ⟨rfl, hS.below hb⟩)); simp only [Act.put, List.setIfInBounds_toArray, List.set_cons_zero, List.set_cons_succ])
          repeat (first | (refine wpD_pure (v := ?_) rfl (fun u => ?_) ?_; rotate_left; (focus (go_simp; (try with_reducible rfl); done)); simp only [Act.put, List.setIfInBounds_toArray, List.set_cons_zero, List.set_cons_succ]) | (refine wpD_pureg (v := ?_) rfl (fun u => ?_) ?_; rotate_left; (focus (go_simp; (try with_reducible rfl); done)); simp only [Act.put, List.setIfInBounds_toArray, List.set_cons_zero, List.set_cons_succ]))
          refine wpD_nil (fun wr2 hr => ?_)
          go_wp2_with fail
          go_roundw
          case rel => exact ⟨k + 1, by omega, by go_num, hr⟩
          case measure => (simp [intOf] <;> omega)
        · obtain rfl : k = 8 := by omega
          go_wp2_with fail
          go_roundw
          case rel => exact ⟨1, by decide, by decide, rfl, hs⟩
          case measure => (simp [intOf] <;> omega)
    · clear hS
      go_wp2_with fail
      skip
      go_loopw [8] (fun iv wr => ∃ k : Nat, k ≤ 4 ∧ iv = .int .i64 k ∧ H2 w a b wr) (fun iv _ => 4 - (intOf iv).toNat)
      case atStart => exact ⟨0, by omega, rfl, ho⟩
      case round =>
        clear ho
        obtain ⟨k, hk, rfl, hs⟩ := hrel
        by_cases hlt : k < 4
        · as_aux_lemma =>
          go_wp2_with fail
          refine wp_loop_rounds 3 ?_
          have q01 : (sgn 32 (getN (buildOn 0#128 32 (extN a 16 0) 4) 32 k) != sgn 16 (getN a 16 k)) = false := eq_testI (xs16 a 0 k (by decide) hlt)
          have q02 : ((getN (buildOn 0#128 32 (extN a 16 2) 4) 32 k : Int) != (getN a 16 k : Int)) = false := eq_testI (congrArg Nat.cast (xu16 a 2 k (by decide) hlt))
          have q03 : (sgn 32 (getN (buildOn 0#128 32 (mulN 16 0 a b) 4) 32 k) != wrap64 (sgn 16 (getN a 16 k) * sgn 16 (getN b 16 k))) = false := eq_testI (by rw [ms16 a b 0 k (by decide) hlt]; exact (wm16 a b k).symm)
          have q04 : ((getN (buildOn 0#128 32 (mulN 16 2 a b) 4) 32 k : Int) != IntKind.u64.wrap ((getN a 16 k : Int) * (getN b 16 k : Int))) = false := eq_testI (by rw [mu16 a b 2 k (by decide) hlt]; exact (um16 a b k).symm)
          rw [rounds_succ]
          go_wp2_with (first | (with_reducible refine load_vec rfl _ rfl _ rfl _ hs.fst ?_) | (with_reducible refine load_vec rfl _ rfl _ rfl _ hs.snd ?_) | ((with_reducible refine load_vec_g ?_ _ rfl _ rfl _ hs.fst ?_); (focus rfl)) | ((with_reducible refine load_vec_g ?_ _ rfl _ rfl _ hs.snd ?_); (focus rfl)) | (go_at_call 14; (with_reducible refine (signed16z a _ (k) _ (by omega) (by omega)).mono ?_); rintro e u ⟨rfl, hb⟩; replace hs := hs.below hb; clear hb) | (go_at_call 14; (with_reducible refine (signed16z b _ (k) _ (by omega) (by omega)).mono ?_); rintro e u ⟨rfl, hb⟩; replace hs := hs.below hb; clear hb) | (go_at_call 15; (with_reducible refine (get16z a _ (k) _ (by omega) (by omega)).mono ?_); rintro e u ⟨rfl, hb⟩; replace hs := hs.below hb; clear hb) | (go_at_call 15; (with_reducible refine (get16z b _ (k) _ (by omega) (by omega)).mono ?_); rintro e u ⟨rfl, hb⟩; replace hs := hs.below hb; clear hb) | (go_at_call 16; (with_reducible refine (lun_z 167 64935 a (buildOn 0#128 32 (extN a 16 0) 4) _ (by decide) rfl rfl).mono ?_); rintro e u ⟨rfl, hb⟩; replace hs := hs.below hb; clear hb) | (go_at_call 16; (with_reducible refine (lun_z 169 64937 a (buildOn 0#128 32 (extN a 16 2) 4) _ (by decide) rfl rfl).mono ?_); rintro e u ⟨rfl, hb⟩; replace hs := hs.below hb; clear hb) | (go_at_call 17; (with_reducible refine (lbin_z 188 64956 a b (buildOn 0#128 32 (mulN 16 0 a b) 4) _ (by decide) rfl rfl).mono ?_); rintro e u ⟨rfl, hb⟩; replace hs := hs.below hb; clear hb) | (go_at_call 17; (with_reducible refine (lbin_z 190 64958 a b (buildOn 0#128 32 (mulN 16 2 a b) 4) _ (by decide) rfl rfl).mono ?_); rintro e u ⟨rfl, hb⟩; replace hs := hs.below hb; clear hb) | (go_at_call 14; (with_reducible refine (signed32z (buildOn 0#128 32 (extN a 16 0) 4) _ (k) _ (by omega) (by omega)).mono ?_); rintro e u ⟨rfl, hb⟩; replace hs := hs.below hb; clear hb) | (go_at_call 15; (with_reducible refine (get32z (buildOn 0#128 32 (extN a 16 2) 4) _ (k) _ (by omega) (by omega)).mono ?_); rintro e u ⟨rfl, hb⟩; replace hs := hs.below hb; clear hb) | (go_at_call 14; (with_reducible refine (signed32z (buildOn 0#128 32 (mulN 16 0 a b) 4) _ (k) _ (by omega) (by omega)).mono ?_); rintro e u ⟨rfl, hb⟩; replace hs := hs.below hb; clear hb) | (go_at_call 15; (with_reducible refine (get32z (buildOn 0#128 32 (mulN 16 2 a b) 4) _ (k) _ (by omega) (by omega)).mono ?_); rintro e u ⟨rfl, hb⟩; replace hs := hs.below hb; clear hb))
          have q11 : (sgn 32 (getN (buildOn 0#128 32 (extN a 16 1) 4) 32 k) != sgn 16 (getN a 16 (k + 4))) = false := eq_testI (xs16 a 1 k (by decide) hlt)
          have q12 : ((getN (buildOn 0#128 32 (extN a 16 3) 4) 32 k : Int) != (getN a 16 (k + 4) : Int)) = false := eq_testI (congrArg Nat.cast (xu16 a 3 k (by decide) hlt))
          have q13 : (sgn 32 (getN (buildOn 0#128 32 (mulN 16 1 a b) 4) 32 k) != wrap64 (sgn 16 (getN a 16 (k + 4)) * sgn 16 (getN b 16 (k + 4)))) = false := eq_testI (by rw [ms16 a b 1 k (by decide) hlt]; exact (wm16 a b (k + 4)).symm)
          have q14 : ((getN (buildOn 0#128 32 (mulN 16 3 a b) 4) 32 k : Int) != IntKind.u64.wrap ((getN a 16 (k + 4) : Int) * (getN b 16 (k + 4) : Int))) = false := eq_testI (by rw [mu16 a b 3 k (by decide) hlt]; exact (um16 a b (k + 4)).symm)
          rw [rounds_succ]
          go_wp2_with (first | (with_reducible refine load_vec rfl _ rfl _ rfl _ hs.fst ?_) | (with_reducible refine load_vec rfl _ rfl _ rfl _ hs.snd ?_) | ((with_reducible refine load_vec_g ?_ _ rfl _ rfl _ hs.fst ?_); (focus rfl)) | ((with_reducible refine load_vec_g ?_ _ rfl _ rfl _ hs.snd ?_); (focus rfl)) | (go_at_call 14; (with_reducible refine (signed16z a _ ((k + 4)) _ (by omega) (by omega)).mono ?_); rintro e u ⟨rfl, hb⟩; replace hs := hs.below hb; clear hb) | (go_at_call 14; (with_reducible refine (signed16z b _ ((k + 4)) _ (by omega) (by omega)).mono ?_); rintro e u ⟨rfl, hb⟩; replace hs := hs.below hb; clear hb) | (go_at_call 15; (with_reducible refine (get16z a _ ((k + 4)) _ (by omega) (by omega)).mono ?_); rintro e u ⟨rfl, hb⟩; replace hs := hs.below hb; clear hb) | (go_at_call 15; (with_reducible refine (get16z b _ ((k + 4)) _ (by omega) (by omega)).mono ?_); rintro e u ⟨rfl, hb⟩; replace hs := hs.below hb; clear hb) | (go_at_call 16; (with_reducible refine (lun_z 168 64936 a (buildOn 0#128 32 (extN a 16 1) 4) _ (by decide) rfl rfl).mono ?_); rintro e u ⟨rfl, hb⟩; replace hs := hs.below hb; clear hb) | (go_at_call 16; (with_reducible refine (lun_z 170 64938 a (buildOn 0#128 32 (extN a 16 3) 4) _ (by decide) rfl rfl).mono ?_); rintro e u ⟨rfl, hb⟩; replace hs := hs.below hb; clear hb) | (go_at_call 17; (with_reducible refine (lbin_z 189 64957 a b (buildOn 0#128 32 (mulN 16 1 a b) 4) _ (by decide) rfl rfl).mono ?_); rintro e u ⟨rfl, hb⟩; replace hs := hs.below hb; clear hb) | (go_at_call 17; (with_reducible refine (lbin_z 191 64959 a b (buildOn 0#128 32 (mulN 16 3 a b) 4) _ (by decide) rfl rfl).mono ?_); rintro e u ⟨rfl, hb⟩; replace hs := hs.below hb; clear hb) | (go_at_call 14; (with_reducible refine (signed32z (buildOn 0#128 32 (extN a 16 1) 4) _ (k) _ (by omega) (by omega)).mono ?_); rintro e u ⟨rfl, hb⟩; replace hs := hs.below hb; clear hb) | (go_at_call 15; (with_reducible refine (get32z (buildOn 0#128 32 (extN a 16 3) 4) _ (k) _ (by omega) (by omega)).mono ?_); rintro e u ⟨rfl, hb⟩; replace hs := hs.below hb; clear hb) | (go_at_call 14; (with_reducible refine (signed32z (buildOn 0#128 32 (mulN 16 1 a b) 4) _ (k) _ (by omega) (by omega)).mono ?_); rintro e u ⟨rfl, hb⟩; replace hs := hs.below hb; clear hb) | (go_at_call 15; (with_reducible refine (get32z (buildOn 0#128 32 (mulN 16 3 a b) 4) _ (k) _ (by omega) (by omega)).mono ?_); rintro e u ⟨rfl, hb⟩; replace hs := hs.below hb; clear hb))
          rw [rounds_succ]
          go_wp2_with fail
          have e1 : IntKind.i64.wrap (2 * (k : Int)) = 2 * (k : Int) := IntWalk.i64_in _ (by omega)
          have e2 : IntKind.i64.wrap (2 * (k : Int) + 1) = 2 * (k : Int) + 1 := IntWalk.i64_in _ (by omega)
          have t1 : (sgn 32 (getN (buildOn 0#128 32 (pairN true 16 a) 4) 32 k) != IntKind.i64.wrap (sgn 16 (getN a 16 (2 * k)) + sgn 16 (getN a 16 (2 * k + 1)))) = false := eq_testI (by rw [ps16 a k hlt]; exact (wp16 a k).symm)
          have t2 : ((getN (buildOn 0#128 32 (pairN false 16 a) 4) 32 k : Int) != IntKind.u64.wrap ((getN a 16 (2 * k) : Int) + (getN a 16 (2 * k + 1) : Int))) = false := eq_testI (by rw [pu16 a k hlt]; exact (up16 a k).symm)
          refine region_do (H2 w a b) 49 (by kernel_rfl) (by kernel_rfl) hs.drew ?_
          simp only [List.take_succ_cons, List.take_zero, List.drop_succ_cons, List.drop_zero]
          repeat (first | (refine do_loadg rfl _ rfl _ rfl _ (fun u hS => hS.fst) ?_; simp only [Act.put, List.setIfInBounds_toArray, List.set_cons_zero, List.set_cons_succ]) | (refine wpD_pure (v := ?_) rfl (fun u => ?_) ?_; rotate_left; (focus (go_simp; (try with_reducible rfl); done)); simp only [Act.put, List.setIfInBounds_toArray, List.set_cons_zero, List.set_cons_succ]) | (refine wpD_pureg (v := ?_) rfl (fun u => ?_) ?_; rotate_left; (focus (go_simp; (try with_reducible rfl); done)); simp only [Act.put, List.setIfInBounds_toArray, List.set_cons_zero, List.set_cons_succ]))
          (refine wpD_callg (v := .agg (cells (buildOn 0#128 32 (pairN true 16 a) 4))) rfl 16 ?_ (fun u => ?_) (fun u hS => ?_) ?_; rotate_left 1; (focus (go_simp; (try with_reducible rfl); done)); (focus (refine (lun_z 126 64894 a (buildOn 0#128 32 (pairN true 16 a) 4) _ (by decide) rfl rfl).mono ?_; rintro e u2 ⟨rfl, hb⟩; exact ⟨rfl, hS.below hb⟩)); simp only [Act.put, List.setIfInBounds_toArray, List.set_cons_zero, List.set_cons_succ])
          repeat (first | (refine do_loadg rfl _ rfl _ rfl _ (fun u hS => hS.fst) ?_; simp only [Act.put, List.setIfInBounds_toArray, List.set_cons_zero, List.set_cons_succ]) | (refine wpD_pure (v := ?_) rfl (fun u => ?_) ?_; rotate_left; (focus (go_simp; (try with_reducible rfl); done)); simp only [Act.put, List.setIfInBounds_toArray, List.set_cons_zero, List.set_cons_succ]) | (refine wpD_pureg (v := ?_) rfl (fun u => ?_) ?_; rotate_left; (focus (go_simp; (try with_reducible rfl); done)); simp only [Act.put, List.setIfInBounds_toArray, List.set_cons_zero, List.set_cons_succ]))
          (refine wpD_callg (v := .int .i64 (sgn 32 (getN (buildOn 0#128 32 (pairN true 16 a) 4) 32 (k)))) rfl 14 ?_ (fun u => ?_) (fun u hS => ?_) ?_; rotate_left 1; (focus (go_simp; (try with_reducible rfl); done)); (focus (refine (signed32z (buildOn 0#128 32 (pairN true 16 a) 4) _ (k) _ (by omega) (by omega)).mono ?_; rintro e u2 ⟨rfl, hb⟩; exact ⟨rfl, hS.below hb⟩)); simp only [Act.put, List.setIfInBounds_toArray, List.set_cons_zero, List.set_cons_succ])
          repeat (first | (refine do_loadg rfl _ rfl _ rfl _ (fun u hS => hS.fst) ?_; simp only [Act.put, List.setIfInBounds_toArray, List.set_cons_zero, List.set_cons_succ]) | (refine wpD_pure (v := ?_) rfl (fun u => ?_) ?_; rotate_left; (focus (go_simp; (try with_reducible rfl); done)); simp only [Act.put, List.setIfInBounds_toArray, List.set_cons_zero, List.set_cons_succ]) | (refine wpD_pureg (v := ?_) rfl (fun u => ?_) ?_; rotate_left; (focus (go_simp; (try with_reducible rfl); done)); simp only [Act.put, List.setIfInBounds_toArray, List.set_cons_zero, List.set_cons_succ]))
          (refine wpD_callg (v := .int .i64 (sgn 16 (getN a 16 (2 * k)))) rfl 14 ?_ (fun u => ?_) (fun u hS => ?_) ?_; rotate_left 1; (focus (go_simp; (try with_reducible rfl); done)); (focus (refine (signed16z a _ (2 * k) _ (by omega) (by omega)).mono ?_; rintro e u2 ⟨rfl, hb⟩; exact ⟨rfl, hS.below hb⟩)); simp only [Act.put, List.setIfInBounds_toArray, List.set_cons_zero, List.set_cons_succ])
          repeat (first | (refine do_loadg rfl _ rfl _ rfl _ (fun u hS => hS.fst) ?_; simp only [Act.put, List.setIfInBounds_toArray, List.set_cons_zero, List.set_cons_succ]) | (refine wpD_pure (v := ?_) rfl (fun u => ?_) ?_; rotate_left; (focus (go_simp; (try with_reducible rfl); done)); simp only [Act.put, List.setIfInBounds_toArray, List.set_cons_zero, List.set_cons_succ]) | (refine wpD_pureg (v := ?_) rfl (fun u => ?_) ?_; rotate_left; (focus (go_simp; (try with_reducible rfl); done)); simp only [Act.put, List.setIfInBounds_toArray, List.set_cons_zero, List.set_cons_succ]))
          (refine wpD_callg (v := .int .i64 (sgn 16 (getN a 16 (2 * k + 1)))) rfl 14 ?_ (fun u => ?_) (fun u hS => ?_) ?_; rotate_left 1; (focus (go_simp; (try with_reducible rfl); done)); (focus (refine (signed16z a _ (2 * k + 1) _ (by omega) (by omega)).mono ?_; rintro e u2 ⟨rfl, hb⟩; exact ⟨rfl, hS.below hb⟩)); simp only [Act.put, List.setIfInBounds_toArray, List.set_cons_zero, List.set_cons_succ])
          repeat (first | (refine do_loadg rfl _ rfl _ rfl _ (fun u hS => hS.fst) ?_; simp only [Act.put, List.setIfInBounds_toArray, List.set_cons_zero, List.set_cons_succ]) | (refine wpD_pure (v := ?_) rfl (fun u => ?_) ?_; rotate_left; (focus (go_simp; (try with_reducible rfl); done)); simp only [Act.put, List.setIfInBounds_toArray, List.set_cons_zero, List.set_cons_succ]) | (refine wpD_pureg (v := ?_) rfl (fun u => ?_) ?_; rotate_left; (focus (go_simp; (try with_reducible rfl); done)); simp only [Act.put, List.setIfInBounds_toArray, List.set_cons_zero, List.set_cons_succ]))
          (refine wpD_callg (v := .agg (cells (buildOn 0#128 32 (pairN false 16 a) 4))) rfl 16 ?_ (fun u => ?_) (fun u hS => ?_) ?_; rotate_left 1; (focus (go_simp; (try with_reducible rfl); done)); (focus (refine (lun_z 127 64895 a (buildOn 0#128 32 (pairN false 16 a) 4) _ (by decide) rfl rfl).mono ?_; rintro e u2 ⟨rfl, hb⟩; exact ⟨rfl, hS.below hb⟩)); simp only [Act.put, List.setIfInBounds_toArray, List.set_cons_zero, List.set_cons_succ])
          repeat (first | (refine do_loadg rfl _ rfl _ rfl _ (fun u hS => hS.fst) ?_; simp only [Act.put, List.setIfInBounds_toArray, List.set_cons_zero, List.set_cons_succ]) | (refine wpD_pure (v := ?_) rfl (fun u => ?_) ?_; rotate_left; (focus (go_simp; (try with_reducible rfl); done)); simp only [Act.put, List.setIfInBounds_toArray, List.set_cons_zero, List.set_cons_succ]) | (refine wpD_pureg (v := ?_) rfl (fun u => ?_) ?_; rotate_left; (focus (go_simp; (try with_reducible rfl); done)); simp only [Act.put, List.setIfInBounds_toArray, List.set_cons_zero, List.set_cons_succ]))
          (refine wpD_callg (v := .int .u64 (getN (buildOn 0#128 32 (pairN false 16 a) 4) 32 (k) : Nat)) rfl 15 ?_ (fun u => ?_) (fun u hS => ?_) ?_; rotate_left 1; (focus (go_simp; (try with_reducible rfl); done)); (focus (refine (get32z (buildOn 0#128 32 (pairN false 16 a) 4) _ (k) _ (by omega) (by omega)).mono ?_; rintro e u2 ⟨rfl, hb⟩; exact ⟨rfl, hS.below hb⟩)); simp only [Act.put, List.setIfInBounds_toArray, List.set_cons_zero, List.set_cons_succ])
          repeat (first | (refine do_loadg rfl _ rfl _ rfl _ (fun u hS => hS.fst) ?_; simp only [Act.put, List.setIfInBounds_toArray, List.set_cons_zero, List.set_cons_succ]) | (refine wpD_pure (v := ?_) rfl (fun u => ?_) ?_; rotate_left; (focus (go_simp; (try with_reducible rfl); done)); simp only [Act.put, List.setIfInBounds_toArray, List.set_cons_zero, List.set_cons_succ]) | (refine wpD_pureg (v := ?_) rfl (fun u => ?_) ?_; rotate_left; (focus (go_simp; (try with_reducible rfl); done)); simp only [Act.put, List.setIfInBounds_toArray, List.set_cons_zero, List.set_cons_succ]))
          (refine wpD_callg (v := .int .u64 (getN a 16 (2 * k) : Nat)) rfl 15 ?_ (fun u => ?_) (fun u hS => ?_) ?_; rotate_left 1; (focus (go_simp; (try with_reducible rfl); done)); (focus (refine (get16z a _ (2 * k) _ (by omega) (by omega)).mono ?_; rintro e u2 ⟨rfl, hb⟩; exact ⟨rfl, hS.below hb⟩)); simp only [Act.put, List.setIfInBounds_toArray, List.set_cons_zero, List.set_cons_succ])
          repeat (first | (refine do_loadg rfl _ rfl _ rfl _ (fun u hS => hS.fst) ?_; simp only [Act.put, List.setIfInBounds_toArray, List.set_cons_zero, List.set_cons_succ]) | (refine wpD_pure (v := ?_) rfl (fun u => ?_) ?_; rotate_left; (focus (go_simp; (try with_reducible rfl); done)); simp only [Act.put, List.setIfInBounds_toArray, List.set_cons_zero, List.set_cons_succ]) | (refine wpD_pureg (v := ?_) rfl (fun u => ?_) ?_; rotate_left; (focus (go_simp; (try with_reducible rfl); done)); simp only [Act.put, List.setIfInBounds_toArray, List.set_cons_zero, List.set_cons_succ]))
          (refine wpD_callg (v := .int .u64 (getN a 16 (2 * k + 1) : Nat)) rfl 15 ?_ (fun u => ?_) (fun u hS => ?_) ?_; rotate_left 1; (focus (go_simp; (try with_reducible rfl); done)); (focus (refine (get16z a _ (2 * k + 1) _ (by omega) (by omega)).mono ?_; rintro e u2 ⟨rfl, hb⟩; exact ⟨rfl, hS.below hb⟩)); simp only [Act.put, List.setIfInBounds_toArray, List.set_cons_zero, List.set_cons_succ])
          repeat (first | (refine wpD_pure (v := ?_) rfl (fun u => ?_) ?_; rotate_left; (focus (go_simp; (try with_reducible rfl); done)); simp only [Act.put, List.setIfInBounds_toArray, List.set_cons_zero, List.set_cons_succ]) | (refine wpD_pureg (v := ?_) rfl (fun u => ?_) ?_; rotate_left; (focus (go_simp; (try with_reducible rfl); done)); simp only [Act.put, List.setIfInBounds_toArray, List.set_cons_zero, List.set_cons_succ]))
          refine wpD_nil (fun wr2 hr => ?_)
          go_wp2_with fail
          go_roundw
          case rel => exact ⟨k + 1, by omega, by go_num, hr⟩
          case measure => (simp [intOf] <;> omega)
        · obtain rfl : k = 4 := by omega
          go_wp2_with fail
          go_roundw
          case rel => exact ⟨2, by decide, by decide, rfl, hs⟩
          case measure => (simp [intOf] <;> omega)
    · clear hS
      go_wp2_with fail
      skip
      go_loopw [8] (fun iv wr => ∃ k : Nat, k ≤ 2 ∧ iv = .int .i64 k ∧ H2 w a b wr) (fun iv _ => 2 - (intOf iv).toNat)
      case atStart => exact ⟨0, by omega, rfl, ho⟩
      case round =>
        clear ho
        obtain ⟨k, hk, rfl, hs⟩ := hrel
        by_cases hlt : k < 2
        · as_aux_lemma =>
          go_wp2_with fail
          refine wp_loop_rounds 3 ?_
          have q01 : (sgn 64 (getN (buildOn 0#128 64 (extN a 32 0) 2) 64 k) != sgn 32 (getN a 32 k)) = false := eq_testI (xs32 a 0 k (by decide) hlt)
          have q02 : ((getN (buildOn 0#128 64 (extN a 32 2) 2) 64 k : Int) != (getN a 32 k : Int)) = false := eq_testI (congrArg Nat.cast (xu32 a 2 k (by decide) hlt))
          have q03 : (sgn 64 (getN (buildOn 0#128 64 (mulN 32 0 a b) 2) 64 k) != wrap64 (sgn 32 (getN a 32 k) * sgn 32 (getN b 32 k))) = false := eq_testI (by rw [ms32 a b 0 k (by decide) hlt]; exact (wm32 a b k).symm)
          have q04 : ((getN (buildOn 0#128 64 (mulN 32 2 a b) 2) 64 k : Int) != IntKind.u64.wrap ((getN a 32 k : Int) * (getN b 32 k : Int))) = false := eq_testI (by rw [mu32 a b 2 k (by decide) hlt]; exact (um32 a b k).symm)
          rw [rounds_succ]
          go_wp2_with (first | (with_reducible refine load_vec rfl _ rfl _ rfl _ hs.fst ?_) | (with_reducible refine load_vec rfl _ rfl _ rfl _ hs.snd ?_) | ((with_reducible refine load_vec_g ?_ _ rfl _ rfl _ hs.fst ?_); (focus rfl)) | ((with_reducible refine load_vec_g ?_ _ rfl _ rfl _ hs.snd ?_); (focus rfl)) | (go_at_call 14; (with_reducible refine (signed32z a _ (k) _ (by omega) (by omega)).mono ?_); rintro e u ⟨rfl, hb⟩; replace hs := hs.below hb; clear hb) | (go_at_call 14; (with_reducible refine (signed32z b _ (k) _ (by omega) (by omega)).mono ?_); rintro e u ⟨rfl, hb⟩; replace hs := hs.below hb; clear hb) | (go_at_call 15; (with_reducible refine (get32z a _ (k) _ (by omega) (by omega)).mono ?_); rintro e u ⟨rfl, hb⟩; replace hs := hs.below hb; clear hb) | (go_at_call 15; (with_reducible refine (get32z b _ (k) _ (by omega) (by omega)).mono ?_); rintro e u ⟨rfl, hb⟩; replace hs := hs.below hb; clear hb) | (go_at_call 16; (with_reducible refine (lun_z 199 64967 a (buildOn 0#128 64 (extN a 32 0) 2) _ (by decide) rfl rfl).mono ?_); rintro e u ⟨rfl, hb⟩; replace hs := hs.below hb; clear hb) | (go_at_call 16; (with_reducible refine (lun_z 201 64969 a (buildOn 0#128 64 (extN a 32 2) 2) _ (by decide) rfl rfl).mono ?_); rintro e u ⟨rfl, hb⟩; replace hs := hs.below hb; clear hb) | (go_at_call 17; (with_reducible refine (lbin_z 220 64988 a b (buildOn 0#128 64 (mulN 32 0 a b) 2) _ (by decide) rfl rfl).mono ?_); rintro e u ⟨rfl, hb⟩; replace hs := hs.below hb; clear hb) | (go_at_call 17; (with_reducible refine (lbin_z 222 64990 a b (buildOn 0#128 64 (mulN 32 2 a b) 2) _ (by decide) rfl rfl).mono ?_); rintro e u ⟨rfl, hb⟩; replace hs := hs.below hb; clear hb) | (go_at_call 14; (with_reducible refine (signed64z (buildOn 0#128 64 (extN a 32 0) 2) _ (k) _ (by omega) (by omega)).mono ?_); rintro e u ⟨rfl, hb⟩; replace hs := hs.below hb; clear hb) | (go_at_call 15; (with_reducible refine (get64z (buildOn 0#128 64 (extN a 32 2) 2) _ (k) _ (by omega) (by omega)).mono ?_); rintro e u ⟨rfl, hb⟩; replace hs := hs.below hb; clear hb) | (go_at_call 14; (with_reducible refine (signed64z (buildOn 0#128 64 (mulN 32 0 a b) 2) _ (k) _ (by omega) (by omega)).mono ?_); rintro e u ⟨rfl, hb⟩; replace hs := hs.below hb; clear hb) | (go_at_call 15; (with_reducible refine (get64z (buildOn 0#128 64 (mulN 32 2 a b) 2) _ (k) _ (by omega) (by omega)).mono ?_); rintro e u ⟨rfl, hb⟩; replace hs := hs.below hb; clear hb))
          have q11 : (sgn 64 (getN (buildOn 0#128 64 (extN a 32 1) 2) 64 k) != sgn 32 (getN a 32 (k + 2))) = false := eq_testI (xs32 a 1 k (by decide) hlt)
          have q12 : ((getN (buildOn 0#128 64 (extN a 32 3) 2) 64 k : Int) != (getN a 32 (k + 2) : Int)) = false := eq_testI (congrArg Nat.cast (xu32 a 3 k (by decide) hlt))
          have q13 : (sgn 64 (getN (buildOn 0#128 64 (mulN 32 1 a b) 2) 64 k) != wrap64 (sgn 32 (getN a 32 (k + 2)) * sgn 32 (getN b 32 (k + 2)))) = false := eq_testI (by rw [ms32 a b 1 k (by decide) hlt]; exact (wm32 a b (k + 2)).symm)
          have q14 : ((getN (buildOn 0#128 64 (mulN 32 3 a b) 2) 64 k : Int) != IntKind.u64.wrap ((getN a 32 (k + 2) : Int) * (getN b 32 (k + 2) : Int))) = false := eq_testI (by rw [mu32 a b 3 k (by decide) hlt]; exact (um32 a b (k + 2)).symm)
          rw [rounds_succ]
          go_wp2_with (first | (with_reducible refine load_vec rfl _ rfl _ rfl _ hs.fst ?_) | (with_reducible refine load_vec rfl _ rfl _ rfl _ hs.snd ?_) | ((with_reducible refine load_vec_g ?_ _ rfl _ rfl _ hs.fst ?_); (focus rfl)) | ((with_reducible refine load_vec_g ?_ _ rfl _ rfl _ hs.snd ?_); (focus rfl)) | (go_at_call 14; (with_reducible refine (signed32z a _ ((k + 2)) _ (by omega) (by omega)).mono ?_); rintro e u ⟨rfl, hb⟩; replace hs := hs.below hb; clear hb) | (go_at_call 14; (with_reducible refine (signed32z b _ ((k + 2)) _ (by omega) (by omega)).mono ?_); rintro e u ⟨rfl, hb⟩; replace hs := hs.below hb; clear hb) | (go_at_call 15; (with_reducible refine (get32z a _ ((k + 2)) _ (by omega) (by omega)).mono ?_); rintro e u ⟨rfl, hb⟩; replace hs := hs.below hb; clear hb) | (go_at_call 15; (with_reducible refine (get32z b _ ((k + 2)) _ (by omega) (by omega)).mono ?_); rintro e u ⟨rfl, hb⟩; replace hs := hs.below hb; clear hb) | (go_at_call 16; (with_reducible refine (lun_z 200 64968 a (buildOn 0#128 64 (extN a 32 1) 2) _ (by decide) rfl rfl).mono ?_); rintro e u ⟨rfl, hb⟩; replace hs := hs.below hb; clear hb) | (go_at_call 16; (with_reducible refine (lun_z 202 64970 a (buildOn 0#128 64 (extN a 32 3) 2) _ (by decide) rfl rfl).mono ?_); rintro e u ⟨rfl, hb⟩; replace hs := hs.below hb; clear hb) | (go_at_call 17; (with_reducible refine (lbin_z 221 64989 a b (buildOn 0#128 64 (mulN 32 1 a b) 2) _ (by decide) rfl rfl).mono ?_); rintro e u ⟨rfl, hb⟩; replace hs := hs.below hb; clear hb) | (go_at_call 17; (with_reducible refine (lbin_z 223 64991 a b (buildOn 0#128 64 (mulN 32 3 a b) 2) _ (by decide) rfl rfl).mono ?_); rintro e u ⟨rfl, hb⟩; replace hs := hs.below hb; clear hb) | (go_at_call 14; (with_reducible refine (signed64z (buildOn 0#128 64 (extN a 32 1) 2) _ (k) _ (by omega) (by omega)).mono ?_); rintro e u ⟨rfl, hb⟩; replace hs := hs.below hb; clear hb) | (go_at_call 15; (with_reducible refine (get64z (buildOn 0#128 64 (extN a 32 3) 2) _ (k) _ (by omega) (by omega)).mono ?_); rintro e u ⟨rfl, hb⟩; replace hs := hs.below hb; clear hb) | (go_at_call 14; (with_reducible refine (signed64z (buildOn 0#128 64 (mulN 32 1 a b) 2) _ (k) _ (by omega) (by omega)).mono ?_); rintro e u ⟨rfl, hb⟩; replace hs := hs.below hb; clear hb) | (go_at_call 15; (with_reducible refine (get64z (buildOn 0#128 64 (mulN 32 3 a b) 2) _ (k) _ (by omega) (by omega)).mono ?_); rintro e u ⟨rfl, hb⟩; replace hs := hs.below hb; clear hb))
          rw [rounds_succ]
          go_wp2_with fail
          refine region_do (H2 w a b) 49 (by kernel_rfl) (by kernel_rfl) hs.drew ?_
          simp only [List.take_succ_cons, List.take_zero, List.drop_succ_cons, List.drop_zero]
          repeat (first | (refine wpD_pure (v := ?_) rfl (fun u => ?_) ?_; rotate_left; (focus (go_simp; (try with_reducible rfl); done)); simp only [Act.put, List.setIfInBounds_toArray, List.set_cons_zero, List.set_cons_succ]) | (refine wpD_skip rfl ?_; simp only [Act.put, List.setIfInBounds_toArray, List.set_cons_zero, List.set_cons_succ]))
          refine wpD_nil (fun wr2 hr => ?_)
          go_wp2_with fail
          go_roundw
          case rel => exact ⟨k + 1, by omega, by go_num, hr⟩
          case measure => (simp [intOf] <;> omega)
        · obtain rfl : k = 2 := by omega
          go_wp2_with fail
          go_roundw
          case rel => exact ⟨3, by decide, by decide, rfl, hs⟩
          case measure => (simp [intOf] <;> omega)
    · go_wp2_with (first | (with_reducible refine load_vec rfl _ rfl _ rfl _ ho.fst ?_) | (with_reducible refine load_vec rfl _ rfl _ rfl _ ho.snd ?_) | (go_at_call 17; (with_reducible refine (lbin_z 186 64954 a b (buildOn 0#128 32 (dotN a b) 4) _ (by decide) rfl rfl).mono ?_); rintro e u ⟨rfl, hb⟩; replace hs := ho.below hb; clear hb) | (with_reducible refine store_vec rfl _ _ rfl _ _ rfl rfl 0 (heap_new_zero _) ?_; intro wA hA; replace hs := hs.store hA))
      obtain ⟨D, hD⟩ : ∃ D, D = u.heap.size := ⟨_, rfl⟩
      have hdd := hA.this
      rw [← hD] at hdd ⊢
      have h3 : H3 w a b (buildOn 0#128 32 (dotN a b) 4) D wA := ⟨hs, hdd⟩
      clear hA hD ho hs hdd
      go_loopw [15] (fun iv wr => ∃ k : Nat, k ≤ 4 ∧ iv = .int .i64 k ∧ H3 w a b (buildOn 0#128 32 (dotN a b) 4) D wr) (fun iv _ => 4 - (intOf iv).toNat)
      case atStart => exact ⟨0, by omega, rfl, h3⟩
      case round =>
        clear h3
        obtain ⟨k, hk, rfl, hs⟩ := hrel
        by_cases hlt : k < 4
        · have e1 : IntKind.i64.wrap (2 * (k : Int)) = 2 * (k : Int) := IntWalk.i64_in _ (by omega)
          have e2 : IntKind.i64.wrap (2 * (k : Int) + 1) = 2 * (k : Int) + 1 := IntWalk.i64_in _ (by omega)
          obtain ⟨p, hp⟩ : ∃ p : Int, p = sgn 16 (getN a 16 (2 * k)) * sgn 16 (getN b 16 (2 * k)) := ⟨_, rfl⟩
          obtain ⟨q, hq⟩ : ∃ q : Int, q = sgn 16 (getN a 16 (2 * k + 1)) * sgn 16 (getN b 16 (2 * k + 1)) := ⟨_, rfl⟩
          have bp := mul_bd16 _ _ (bd16 a (2 * k)) (bd16 b (2 * k))
          have bq := mul_bd16 _ _ (bd16 a (2 * k + 1)) (bd16 b (2 * k + 1))
          have hd := dl a b k hlt
          rw [← hp] at bp
          rw [← hq] at bq
          rw [← hp, ← hq] at hd
          have c1 : IntKind.i64.wrap (sgn 16 (getN a 16 (2 * k)) * sgn 16 (getN b 16 (2 * k))) = p := by rw [← hp]; exact IntWalk.i64_in _ (by omega)
          have c2 : IntKind.i64.wrap (sgn 16 (getN a 16 (2 * k + 1)) * sgn 16 (getN b 16 (2 * k + 1))) = q := by rw [← hq]; exact IntWalk.i64_in _ (by omega)
          have c3 : IntKind.i64.wrap (p + q) = p + q := IntWalk.i64_in _ (by omega)
          have c4 : IntKind.u64.wrap (p + q) = ((Pl.u64 (p + q) : Nat) : Int) := wrap_u64 _
          have t1 : ((getN (buildOn 0#128 32 (dotN a b) 4) 32 k : Int) != ((Pl.u64 (p + q) : Nat) : Int) % 4294967296) = false := eq_testI (by rw [hd]; unfold Pl.u64; omega)
          clear hp hq bp bq hd
          go_wp2_with fail
          refine region_do (H3 w a b (buildOn 0#128 32 (dotN a b) 4) D) 21 (by kernel_rfl) (by kernel_rfl) hs.drew ?_
          simp only [List.take_succ_cons, List.take_zero, List.drop_succ_cons, List.drop_zero]
          repeat (first | (refine do_loadg rfl _ rfl _ rfl _ (fun u hS => hS.h2.fst) ?_; simp only [Act.put, List.setIfInBounds_toArray, List.set_cons_zero, List.set_cons_succ]) | (refine do_loadg rfl _ rfl _ rfl _ (fun u hS => hS.h2.snd) ?_; simp only [Act.put, List.setIfInBounds_toArray, List.set_cons_zero, List.set_cons_succ]) | (refine wpD_pure (v := ?_) rfl (fun u => ?_) ?_; rotate_left; (focus (go_simp; (try with_reducible rfl); done)); simp only [Act.put, List.setIfInBounds_toArray, List.set_cons_zero, List.set_cons_succ]))
          (refine wpD_callg (v := .int .i64 (sgn 16 (getN a 16 (2 * k)))) rfl 14 ?_ (fun u => ?_) (fun u hS => ?_) ?_; rotate_left 1; (focus (go_simp; (try with_reducible rfl); done)); (focus (refine (signed16z a _ (2 * k) _ (by omega) (by omega)).mono ?_; rintro e u2 ⟨rfl, hb⟩; exact ⟨rfl, hS.below hb⟩)); simp only [Act.put, List.setIfInBounds_toArray, List.set_cons_zero, List.set_cons_succ])
          repeat (first | (refine do_loadg rfl _ rfl _ rfl _ (fun u hS => hS.h2.fst) ?_; simp only [Act.put, List.setIfInBounds_toArray, List.set_cons_zero, List.set_cons_succ]) | (refine do_loadg rfl _ rfl _ rfl _ (fun u hS => hS.h2.snd) ?_; simp only [Act.put, List.setIfInBounds_toArray, List.set_cons_zero, List.set_cons_succ]) | (refine wpD_pure (v := ?_) rfl (fun u => ?_) ?_; rotate_left; (focus (go_simp; (try with_reducible rfl); done)); simp only [Act.put, List.setIfInBounds_toArray, List.set_cons_zero, List.set_cons_succ]))
          (refine wpD_callg (v := .int .i64 (sgn 16 (getN b 16 (2 * k)))) rfl 14 ?_ (fun u => ?_) (fun u hS => ?_) ?_; rotate_left 1; (focus (go_simp; (try with_reducible rfl); done)); (focus (refine (signed16z b _ (2 * k) _ (by omega) (by omega)).mono ?_; rintro e u2 ⟨rfl, hb⟩; exact ⟨rfl, hS.below hb⟩)); simp only [Act.put, List.setIfInBounds_toArray, List.set_cons_zero, List.set_cons_succ])
          repeat (first | (refine do_loadg rfl _ rfl _ rfl _ (fun u hS => hS.h2.fst) ?_; simp only [Act.put, List.setIfInBounds_toArray, List.set_cons_zero, List.set_cons_succ]) | (refine do_loadg rfl _ rfl _ rfl _ (fun u hS => hS.h2.snd) ?_; simp only [Act.put, List.setIfInBounds_toArray, List.set_cons_zero, List.set_cons_succ]) | (refine wpD_pure (v := ?_) rfl (fun u => ?_) ?_; rotate_left; (focus (go_simp; (try with_reducible rfl); done)); simp only [Act.put, List.setIfInBounds_toArray, List.set_cons_zero, List.set_cons_succ]))
          (refine wpD_callg (v := .int .i64 (sgn 16 (getN a 16 (2 * k + 1)))) rfl 14 ?_ (fun u => ?_) (fun u hS => ?_) ?_; rotate_left 1; (focus (go_simp; (try with_reducible rfl); done)); (focus (refine (signed16z a _ (2 * k + 1) _ (by omega) (by omega)).mono ?_; rintro e u2 ⟨rfl, hb⟩; exact ⟨rfl, hS.below hb⟩)); simp only [Act.put, List.setIfInBounds_toArray, List.set_cons_zero, List.set_cons_succ])
          repeat (first | (refine do_loadg rfl _ rfl _ rfl _ (fun u hS => hS.h2.fst) ?_; simp only [Act.put, List.setIfInBounds_toArray, List.set_cons_zero, List.set_cons_succ]) | (refine do_loadg rfl _ rfl _ rfl _ (fun u hS => hS.h2.snd) ?_; simp only [Act.put, List.setIfInBounds_toArray, List.set_cons_zero, List.set_cons_succ]) | (refine wpD_pure (v := ?_) rfl (fun u => ?_) ?_; rotate_left; (focus (go_simp; (try with_reducible rfl); done)); simp only [Act.put, List.setIfInBounds_toArray, List.set_cons_zero, List.set_cons_succ]))
          (refine wpD_callg (v := .int .i64 (sgn 16 (getN b 16 (2 * k + 1)))) rfl 14 ?_ (fun u => ?_) (fun u hS => ?_) ?_; rotate_left 1; (focus (go_simp; (try with_reducible rfl); done)); (focus (refine (signed16z b _ (2 * k + 1) _ (by omega) (by omega)).mono ?_; rintro e u2 ⟨rfl, hb⟩; exact ⟨rfl, hS.below hb⟩)); simp only [Act.put, List.setIfInBounds_toArray, List.set_cons_zero, List.set_cons_succ])
          repeat (refine wpD_pure (v := ?_) rfl (fun u => ?_) ?_; rotate_left; (focus (go_simp; (try with_reducible rfl); done)); simp only [Act.put, List.setIfInBounds_toArray, List.set_cons_zero, List.set_cons_succ])
          refine wpD_nil (fun wr2 hr => ?_)
          go_wp2_with (first | (with_reducible refine load_vec rfl _ rfl _ rfl _ hr.dd ?_) | (go_at_call 15; (with_reducible refine (get32z (buildOn 0#128 32 (dotN a b) 4) _ k _ rfl (by omega)).mono ?_); rintro e u ⟨rfl, hb⟩; have hr2 := hr.below hb))
          go_roundw
          case rel => exact ⟨k + 1, by omega, by go_num, hr2⟩
          case measure => (simp [intOf] <;> omega)
        · obtain rfl : k = 4 := by omega
          go_wp2_with fail
          go_ret
          exact ⟨rfl, hs.h2.bel⟩

end Go.Proofs.Ytnjhojjpajnbhaa
