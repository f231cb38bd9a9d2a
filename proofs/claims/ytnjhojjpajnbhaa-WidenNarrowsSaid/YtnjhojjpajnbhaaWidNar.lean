/-
  The walk of plaitlaw08.WidenNarrows.
-/
import Derived.Test.YtnjhojjpajnbhaaWidF
namespace Go.Proofs.Ytnjhojjpajnbhaa
open Go.RowKit Pl
set_option linter.unusedVariables false

/-- Lane i of what is narrowed, before. -/
def src8 (a b : Vec) (i : Nat) : Int := if i < 8 then sgn 16 (getN a 16 i) else sgn 16 (getN b 16 (i - 8))
theorem src_bd8 (a b : Vec) (i : Nat) : -32768 ≤ src8 a b i ∧ src8 a b i ≤ 32767 := by unfold src8; split; exact bd16 _ _; exact bd16 _ _
theorem narG8 (lo hi : Int) (a b : Vec) (i : Nat) (hi2 : i < 16) : getN (nbuild 8 8 (holdN lo hi 16 a) (holdN lo hi 16 b) 8) 8 i = Pl.u64 (min (max (src8 a b i) lo) hi) % 256 := by
  rw [getN_nbuild _ _ _ _ (by decide) _ _ (Nat.le_refl _)]
  unfold src8 holdN
  by_cases h3 : i < 8
  · rw [if_pos h3, if_pos h3]
  · rw [if_neg h3, if_pos ⟨by omega, by omega⟩, if_neg h3]
theorem sgn8_u (p : Int) (h : -128 ≤ p ∧ p ≤ 127) : sgn 8 (Pl.u64 p % 256) = p := by
  unfold sgn Pl.u64; rw [show (2 : Nat) ^ (8 - 1) = 128 from rfl, show (2 : Int) ^ 8 = 256 from rfl]; split <;> omega
theorem zones8 (a b : Vec) (i : Nat) (hi : i < 16) (S U : Vec) (hS : S = nbuild 8 8 (holdN (-128) 127 16 a) (holdN (-128) 127 16 b) 8) (hU : U = nbuild 8 8 (holdN 0 255 16 a) (holdN 0 255 16 b) 8) :
    let x := src8 a b i; let p := sgn 8 (getN S 8 i); let q := ((getN U 8 i : Nat) : Int)
    (x < -128 ∧ (p != -128) = false ∧ (q != 0) = false) ∨ (-128 ≤ x ∧ x < 0 ∧ (p != x) = false ∧ (q != 0) = false) ∨ (0 ≤ x ∧ x < 128 ∧ (p != x) = false ∧ (q != x) = false) ∨
    (128 ≤ x ∧ x < 256 ∧ (p != 127) = false ∧ (q != x) = false) ∨ (256 ≤ x ∧ (p != 127) = false ∧ (q != 255) = false) := by
  intro x p q
  have hp : p = min (max x (-128)) 127 := by
    show sgn 8 (getN S 8 i) = _
    rw [hS, narG8 _ _ a b i hi, sgn8_u _ (by omega)]
  have hq : q = min (max x 0) 255 := by
    show ((getN U 8 i : Nat) : Int) = _
    rw [hU, narG8 _ _ a b i hi]
    unfold Pl.u64; omega
  clear_value x p q
  rcases (show x < -128 ∨ -128 ≤ x ∧ x < 0 ∨ 0 ≤ x ∧ x < 128 ∨ 128 ≤ x ∧ x < 256 ∨ 256 ≤ x by omega) with h | ⟨h, h'⟩ | ⟨h, h'⟩ | ⟨h, h'⟩ | h
  · exact .inl ⟨h, eq_testI (by omega), eq_testI (by omega)⟩
  · exact .inr (.inl ⟨h, h', eq_testI (by omega), eq_testI (by omega)⟩)
  · exact .inr (.inr (.inl ⟨h, h', eq_testI (by omega), eq_testI (by omega)⟩))
  · exact .inr (.inr (.inr (.inl ⟨h, h', eq_testI (by omega), eq_testI (by omega)⟩)))
  · exact .inr (.inr (.inr (.inr ⟨h, eq_testI (by omega), eq_testI (by omega)⟩)))
theorem back_s8 (a : Vec) : nbuild 8 8 (holdN (-128) 127 16 (buildOn 0#128 16 (extN a 8 0) 8)) (holdN (-128) 127 16 (buildOn 0#128 16 (extN a 8 1) 8)) 8 = a := by
  refine lanes_ext 8 16 (by decide) (by decide) fun i hi => ?_
  rw [narG8 _ _ _ _ i hi]
  have hx : src8 (buildOn 0#128 16 (extN a 8 0) 8) (buildOn 0#128 16 (extN a 8 1) 8) i = sgn 8 (getN a 8 i) := by
    unfold src8
    by_cases h : i < 8
    · rw [if_pos h, xs8 a 0 i (by decide) h]; rfl
    · rw [if_neg h, xs8 a 1 (i - 8) (by decide) (by omega), show i - 8 + 1 % 2 * 8 = i by omega]
  rw [hx]
  have hb := bd8 a i
  have hl := getN_lt a 8 i
  rw [show min (max (sgn 8 (getN a 8 i)) (-128)) 127 = sgn 8 (getN a 8 i) by omega]
  rw [show (2 : Nat) ^ 8 = 256 from rfl] at hl
  unfold sgn Pl.u64
  rw [show (2 : Nat) ^ (8 - 1) = 128 from rfl, show (2 : Int) ^ 8 = 256 from rfl]
  split <;> omega
theorem back_u8 (a : Vec) : nbuild 8 8 (holdN 0 255 16 (buildOn 0#128 16 (extN a 8 2) 8)) (holdN 0 255 16 (buildOn 0#128 16 (extN a 8 3) 8)) 8 = a := by
  refine lanes_ext 8 16 (by decide) (by decide) fun i hi => ?_
  rw [narG8 _ _ _ _ i hi]
  have hl := getN_lt a 8 i
  rw [show (2 : Nat) ^ 8 = 256 from rfl] at hl
  have hx : src8 (buildOn 0#128 16 (extN a 8 2) 8) (buildOn 0#128 16 (extN a 8 3) 8) i = (getN a 8 i : Int) := by
    unfold src8
    by_cases h : i < 8
    · rw [if_pos h, xu8 a 2 i (by decide) h, show i + 2 % 2 * 8 = i by omega]
      unfold sgn; rw [show (2 : Nat) ^ (16 - 1) = 32768 from rfl, if_pos (by omega)]
    · rw [if_neg h, xu8 a 3 (i - 8) (by decide) (by omega), show i - 8 + 3 % 2 * 8 = i by omega]
      unfold sgn; rw [show (2 : Nat) ^ (16 - 1) = 32768 from rfl, if_pos (by omega)]
  rw [hx]
  unfold Pl.u64
  omega
/-- Lane i of what is narrowed, before. -/
def src16 (a b : Vec) (i : Nat) : Int := if i < 4 then sgn 32 (getN a 32 i) else sgn 32 (getN b 32 (i - 4))
theorem src_bd16 (a b : Vec) (i : Nat) : -2147483648 ≤ src16 a b i ∧ src16 a b i ≤ 2147483647 := by unfold src16; split; exact bd32 _ _; exact bd32 _ _
theorem narG16 (lo hi : Int) (a b : Vec) (i : Nat) (hi2 : i < 8) : getN (nbuild 16 4 (holdN lo hi 32 a) (holdN lo hi 32 b) 4) 16 i = Pl.u64 (min (max (src16 a b i) lo) hi) % 65536 := by
  rw [getN_nbuild _ _ _ _ (by decide) _ _ (Nat.le_refl _)]
  unfold src16 holdN
  by_cases h3 : i < 4
  · rw [if_pos h3, if_pos h3]
  · rw [if_neg h3, if_pos ⟨by omega, by omega⟩, if_neg h3]
theorem sgn16_u (p : Int) (h : -32768 ≤ p ∧ p ≤ 32767) : sgn 16 (Pl.u64 p % 65536) = p := by
  unfold sgn Pl.u64; rw [show (2 : Nat) ^ (16 - 1) = 32768 from rfl, show (2 : Int) ^ 16 = 65536 from rfl]; split <;> omega
theorem zones16 (a b : Vec) (i : Nat) (hi : i < 8) (S U : Vec) (hS : S = nbuild 16 4 (holdN (-32768) 32767 32 a) (holdN (-32768) 32767 32 b) 4) (hU : U = nbuild 16 4 (holdN 0 65535 32 a) (holdN 0 65535 32 b) 4) :
    let x := src16 a b i; let p := sgn 16 (getN S 16 i); let q := ((getN U 16 i : Nat) : Int)
    (x < -32768 ∧ (p != -32768) = false ∧ (q != 0) = false) ∨ (-32768 ≤ x ∧ x < 0 ∧ (p != x) = false ∧ (q != 0) = false) ∨ (0 ≤ x ∧ x < 32768 ∧ (p != x) = false ∧ (q != x) = false) ∨
    (32768 ≤ x ∧ x < 65536 ∧ (p != 32767) = false ∧ (q != x) = false) ∨ (65536 ≤ x ∧ (p != 32767) = false ∧ (q != 65535) = false) := by
  intro x p q
  have hp : p = min (max x (-32768)) 32767 := by
    show sgn 16 (getN S 16 i) = _
    rw [hS, narG16 _ _ a b i hi, sgn16_u _ (by omega)]
  have hq : q = min (max x 0) 65535 := by
    show ((getN U 16 i : Nat) : Int) = _
    rw [hU, narG16 _ _ a b i hi]
    unfold Pl.u64; omega
  clear_value x p q
  rcases (show x < -32768 ∨ -32768 ≤ x ∧ x < 0 ∨ 0 ≤ x ∧ x < 32768 ∨ 32768 ≤ x ∧ x < 65536 ∨ 65536 ≤ x by omega) with h | ⟨h, h'⟩ | ⟨h, h'⟩ | ⟨h, h'⟩ | h
  · exact .inl ⟨h, eq_testI (by omega), eq_testI (by omega)⟩
  · exact .inr (.inl ⟨h, h', eq_testI (by omega), eq_testI (by omega)⟩)
  · exact .inr (.inr (.inl ⟨h, h', eq_testI (by omega), eq_testI (by omega)⟩))
  · exact .inr (.inr (.inr (.inl ⟨h, h', eq_testI (by omega), eq_testI (by omega)⟩)))
  · exact .inr (.inr (.inr (.inr ⟨h, eq_testI (by omega), eq_testI (by omega)⟩)))
theorem back_s16 (a : Vec) : nbuild 16 4 (holdN (-32768) 32767 32 (buildOn 0#128 32 (extN a 16 0) 4)) (holdN (-32768) 32767 32 (buildOn 0#128 32 (extN a 16 1) 4)) 4 = a := by
  refine lanes_ext 16 8 (by decide) (by decide) fun i hi => ?_
  rw [narG16 _ _ _ _ i hi]
  have hx : src16 (buildOn 0#128 32 (extN a 16 0) 4) (buildOn 0#128 32 (extN a 16 1) 4) i = sgn 16 (getN a 16 i) := by
    unfold src16
    by_cases h : i < 4
    · rw [if_pos h, xs16 a 0 i (by decide) h]; rfl
    · rw [if_neg h, xs16 a 1 (i - 4) (by decide) (by omega), show i - 4 + 1 % 2 * 4 = i by omega]
  rw [hx]
  have hb := bd16 a i
  have hl := getN_lt a 16 i
  rw [show min (max (sgn 16 (getN a 16 i)) (-32768)) 32767 = sgn 16 (getN a 16 i) by omega]
  rw [show (2 : Nat) ^ 16 = 65536 from rfl] at hl
  unfold sgn Pl.u64
  rw [show (2 : Nat) ^ (16 - 1) = 32768 from rfl, show (2 : Int) ^ 16 = 65536 from rfl]
  split <;> omega
theorem back_u16 (a : Vec) : nbuild 16 4 (holdN 0 65535 32 (buildOn 0#128 32 (extN a 16 2) 4)) (holdN 0 65535 32 (buildOn 0#128 32 (extN a 16 3) 4)) 4 = a := by
  refine lanes_ext 16 8 (by decide) (by decide) fun i hi => ?_
  rw [narG16 _ _ _ _ i hi]
  have hl := getN_lt a 16 i
  rw [show (2 : Nat) ^ 16 = 65536 from rfl] at hl
  have hx : src16 (buildOn 0#128 32 (extN a 16 2) 4) (buildOn 0#128 32 (extN a 16 3) 4) i = (getN a 16 i : Int) := by
    unfold src16
    by_cases h : i < 4
    · rw [if_pos h, xu16 a 2 i (by decide) h, show i + 2 % 2 * 4 = i by omega]
      unfold sgn; rw [show (2 : Nat) ^ (32 - 1) = 2147483648 from rfl, if_pos (by omega)]
    · rw [if_neg h, xu16 a 3 (i - 4) (by decide) (by omega), show i - 4 + 3 % 2 * 4 = i by omega]
      unfold sgn; rw [show (2 : Nat) ^ (32 - 1) = 2147483648 from rfl, if_pos (by omega)]
  rw [hx]
  unfold Pl.u64
  omega

theorem H3.store {w0 u u1 : World} {a b d v : Vec} {D : Nat} {x : Obj} (h : H3 w0 a b d D u) (hs : Sets (u.alloc x) u.heap.size v u1) : H3 w0 a b d D u1 :=
  ⟨h.h2.store hs, blk_sets (blk_alloc h.dd x) hs (Nat.ne_of_lt (block_lt h.dd))⟩
structure H4 (w0 : World) (a b d : Vec) (D : Nat) (e : Vec) (E : Nat) (u : World) : Prop where
  h3 : H3 w0 a b d D u
  ee : u.heap[E]? = some (.cells (cells e) 23 (0, 0))
theorem H4.below {w0 u u1 : World} {a b d e : Vec} {D E : Nat} (h : H4 w0 a b d D e E u) (hb : Below u.heap.size u u1) : H4 w0 a b d D e E u1 := ⟨h.h3.below hb, blk_keep h.ee hb⟩
theorem H4.drew {w0 u : World} {a b d e : Vec} {D E : Nat} (h : H4 w0 a b d D e E u) : H4 w0 a b d D e E u.drew := ⟨h.h3.drew, h.ee⟩

set_option maxHeartbeats 8000000 in
set_option maxRecDepth 100000 in
theorem narrows_walk (a b : Vec) (w : World) :
    Calls Try.prog 6 #[.agg (cells a), .agg (cells b)] w fun e w' => e = .returned (.bool true) ∧ Below w.heap.size w w' := by
  go_enter Try.func6, Try.ntmps6
  go_wp2_with fail
  refine (awake_any _).mono ?_
  rintro e w1 ⟨rfl, hb1⟩
  have hs : H2 w a b w1 := H2.start a b hb1
  clear hb1
  go_wp2_with fail
  go_loopw [5] (fun jv wr => ∃ j : Int, 0 ≤ j ∧ j ≤ 2 ∧ jv = .int .i64 j ∧ H2 w a b wr) (fun jv _ => (2 - intOf jv).toNat)
  case atStart => exact ⟨0, by decide, by decide, rfl, hs⟩
  case round =>
    clear hs
    obtain ⟨j, hj0, hj, rfl, hs⟩ := hrel
    rcases (show j = 0 ∨ j = 1 ∨ j = 2 by omega) with rfl | rfl | rfl
    · go_wp2_with (first | (with_reducible refine load_vec rfl _ rfl _ rfl _ hs.fst ?_) | (with_reducible refine load_vec rfl _ rfl _ rfl _ hs.snd ?_) | (with_reducible refine load_vec rfl _ rfl _ rfl _ h3.h2.fst ?_) | (with_reducible refine load_vec rfl _ rfl _ rfl _ h3.h2.snd ?_) | (go_at_call 17; (with_reducible refine (lbin_z 101 64869 a b (nbuild 8 8 (holdN (-128) 127 16 a) (holdN (-128) 127 16 b) 8) _ (by decide) rfl rfl).mono ?_); rintro e ua ⟨rfl, hb⟩; replace hs := hs.below hb; clear hb) | (with_reducible refine store_vec rfl _ _ rfl _ _ rfl rfl 0 (heap_new_zero _) ?_; intro wA hA; have h3 := H3.mk (hs.store hA) hA.this; clear hs hA) | (go_at_call 17; (with_reducible refine (lbin_z 102 64870 a b (nbuild 8 8 (holdN 0 255 16 a) (holdN 0 255 16 b) 8) _ (by decide) rfl rfl).mono ?_); rintro e ub ⟨rfl, hb⟩; replace h3 := h3.below hb; clear hb) | (with_reducible refine store_vec rfl _ _ rfl _ _ rfl rfl 0 (heap_new_zero _) ?_; intro wB hB; have h4 := H4.mk (h3.store hB) hB.this; clear h3 hB))
      obtain ⟨D, hD⟩ : ∃ D, D = ua.heap.size := ⟨_, rfl⟩
      obtain ⟨E, hE⟩ : ∃ E, E = ub.heap.size := ⟨_, rfl⟩
      rw [← hD, ← hE] at h4 ⊢
      clear hD hE
      go_loopw [11] (fun iv wr => ∃ k : Nat, k ≤ 16 ∧ iv = .int .i64 k ∧ H4 w a b (nbuild 8 8 (holdN (-128) 127 16 a) (holdN (-128) 127 16 b) 8) D (nbuild 8 8 (holdN 0 255 16 a) (holdN 0 255 16 b) 8) E wr) (fun iv _ => 16 - (intOf iv).toNat)
      case atStart => exact ⟨0, by omega, rfl, h4⟩
      case round =>
        clear h4
        obtain ⟨k, hk, rfl, hs⟩ := hrel
        by_cases hlt : k < 16
        · by_cases hn : k < 8
          · have hn2 := hn
            have hz := zones8 a b k hlt (nbuild 8 8 (holdN (-128) 127 16 a) (holdN (-128) 127 16 b) 8) (nbuild 8 8 (holdN 0 255 16 a) (holdN 0 255 16 b) 8) rfl rfl
            have hsr : src8 a b k = sgn 16 (getN a 16 k) := by unfold src8; rw [if_pos hn]
            simp only [hsr] at hz
            have hu : getN (nbuild 8 8 (holdN 0 255 16 a) (holdN 0 255 16 b) 8) 8 k ≤ 255 := by have := getN_lt (nbuild 8 8 (holdN 0 255 16 a) (holdN 0 255 16 b) 8) 8 k; rw [show (2 : Nat) ^ 8 = 256 from rfl] at this; omega
            have em : (k : Int).tmod 8 = ((k : Nat) : Int) := by rw [Int.tmod_eq_emod_of_nonneg (by omega)]; omega
            clear hsr hn
            rcases hz with ⟨z1, z2, z3⟩ | ⟨z1, z2, z3, z4⟩ | ⟨z1, z2, z3, z4⟩ | ⟨z1, z2, z3, z4⟩ | ⟨z1, z2, z3⟩
            all_goals
              as_aux_lemma =>
                go_wp2_with fail
                refine region_do (H4 w a b (nbuild 8 8 (holdN (-128) 127 16 a) (holdN (-128) 127 16 b) 8) D (nbuild 8 8 (holdN 0 255 16 a) (holdN 0 255 16 b) 8) E) 7 (by kernel_rfl) (by kernel_rfl) hs.drew ?_
                simp only [List.take_succ_cons, List.take_zero, List.drop_succ_cons, List.drop_zero]
                repeat (first | (refine do_loadg rfl _ rfl _ rfl _ (fun u hS => hS.h3.h2.fst) ?_; simp only [Act.put, List.setIfInBounds_toArray, List.set_cons_zero, List.set_cons_succ]) | (refine wpD_pure (v := ?_) rfl (fun u => ?_) ?_; rotate_left; (focus (go_simp; (try with_reducible rfl); done)); simp only [Act.put, List.setIfInBounds_toArray, List.set_cons_zero, List.set_cons_succ]))
                (refine wpD_callg (v := .int .i64 (sgn 16 (getN a 16 k))) rfl 14 ?_ (fun u => ?_) (fun u hS => ?_) ?_; rotate_left 1; (focus (go_simp; (try with_reducible rfl); done)); (focus (refine (signed16z a _ k _ rfl (by omega)).mono ?_; rintro e u2 ⟨rfl, hb⟩; exact ⟨rfl, hS.below hb⟩)); simp only [Act.put, List.setIfInBounds_toArray, List.set_cons_zero, List.set_cons_succ])
                refine wpD_nil (fun wr2 hr => ?_)
                go_wp2_with (first | (with_reducible refine load_vec rfl _ rfl _ rfl _ hr.h3.h2.snd ?_) | (with_reducible refine load_vec rfl _ rfl _ rfl _ hr.h3.dd ?_) | (with_reducible refine load_vec rfl _ rfl _ rfl _ hr.ee ?_) | (go_at_call 14; (with_reducible refine (signed16z b _ ((k - 8)) _ (by omega) (by omega)).mono ?_); rintro e u ⟨rfl, hb⟩; replace hr := hr.below hb; clear hb) | (go_at_call 14; (with_reducible refine (signed8z (nbuild 8 8 (holdN (-128) 127 16 a) (holdN (-128) 127 16 b) 8) _ (k) _ (by omega) (by omega)).mono ?_); rintro e u ⟨rfl, hb⟩; replace hr := hr.below hb; clear hb) | (go_at_call 15; (with_reducible refine (get8z (nbuild 8 8 (holdN 0 255 16 a) (holdN 0 255 16 b) 8) _ (k) _ (by omega) (by omega)).mono ?_); rintro e u ⟨rfl, hb⟩; replace hr := hr.below hb; clear hb))
                go_roundw
                case rel => exact ⟨k + 1, by omega, by go_num, hr⟩
                case measure => (simp [intOf] <;> omega)
        
          · have hn2 : 8 ≤ k := by omega
            have hz := zones8 a b k hlt (nbuild 8 8 (holdN (-128) 127 16 a) (holdN (-128) 127 16 b) 8) (nbuild 8 8 (holdN 0 255 16 a) (holdN 0 255 16 b) 8) rfl rfl
            have hsr : src8 a b k = sgn 16 (getN b 16 (k - 8)) := by unfold src8; rw [if_neg hn]
            simp only [hsr] at hz
            have hu : getN (nbuild 8 8 (holdN 0 255 16 a) (holdN 0 255 16 b) 8) 8 k ≤ 255 := by have := getN_lt (nbuild 8 8 (holdN 0 255 16 a) (holdN 0 255 16 b) 8) 8 k; rw [show (2 : Nat) ^ 8 = 256 from rfl] at this; omega
            have em : (k : Int).tmod 8 = (((k - 8) : Nat) : Int) := by rw [Int.tmod_eq_emod_of_nonneg (by omega)]; omega
            clear hsr hn
            rcases hz with ⟨z1, z2, z3⟩ | ⟨z1, z2, z3, z4⟩ | ⟨z1, z2, z3, z4⟩ | ⟨z1, z2, z3, z4⟩ | ⟨z1, z2, z3⟩
            all_goals
              as_aux_lemma =>
                go_wp2_with fail
                refine region_do (H4 w a b (nbuild 8 8 (holdN (-128) 127 16 a) (holdN (-128) 127 16 b) 8) D (nbuild 8 8 (holdN 0 255 16 a) (holdN 0 255 16 b) 8) E) 7 (by kernel_rfl) (by kernel_rfl) hs.drew ?_
                simp only [List.take_succ_cons, List.take_zero, List.drop_succ_cons, List.drop_zero]
                repeat (first | (refine do_loadg rfl _ rfl _ rfl _ (fun u hS => hS.h3.h2.fst) ?_; simp only [Act.put, List.setIfInBounds_toArray, List.set_cons_zero, List.set_cons_succ]) | (refine wpD_pure (v := ?_) rfl (fun u => ?_) ?_; rotate_left; (focus (go_simp; (try with_reducible rfl); done)); simp only [Act.put, List.setIfInBounds_toArray, List.set_cons_zero, List.set_cons_succ]))
                (refine wpD_callg (v := .int .i64 (sgn 16 (getN a 16 (k - 8)))) rfl 14 ?_ (fun u => ?_) (fun u hS => ?_) ?_; rotate_left 1; (focus (go_simp; (try with_reducible rfl); done)); (focus (refine (signed16z a _ (k - 8) _ rfl (by omega)).mono ?_; rintro e u2 ⟨rfl, hb⟩; exact ⟨rfl, hS.below hb⟩)); simp only [Act.put, List.setIfInBounds_toArray, List.set_cons_zero, List.set_cons_succ])
                refine wpD_nil (fun wr2 hr => ?_)
                go_wp2_with (first | (with_reducible refine load_vec rfl _ rfl _ rfl _ hr.h3.h2.snd ?_) | (with_reducible refine load_vec rfl _ rfl _ rfl _ hr.h3.dd ?_) | (with_reducible refine load_vec rfl _ rfl _ rfl _ hr.ee ?_) | (go_at_call 14; (with_reducible refine (signed16z b _ ((k - 8)) _ (by omega) (by omega)).mono ?_); rintro e u ⟨rfl, hb⟩; replace hr := hr.below hb; clear hb) | (go_at_call 14; (with_reducible refine (signed8z (nbuild 8 8 (holdN (-128) 127 16 a) (holdN (-128) 127 16 b) 8) _ (k) _ (by omega) (by omega)).mono ?_); rintro e u ⟨rfl, hb⟩; replace hr := hr.below hb; clear hb) | (go_at_call 15; (with_reducible refine (get8z (nbuild 8 8 (holdN 0 255 16 a) (holdN 0 255 16 b) 8) _ (k) _ (by omega) (by omega)).mono ?_); rintro e u ⟨rfl, hb⟩; replace hr := hr.below hb; clear hb))
                go_roundw
                case rel => exact ⟨k + 1, by omega, by go_num, hr⟩
                case measure => (simp [intOf] <;> omega)
        · obtain rfl : k = 16 := by omega
          have hE := equal_vec a a
          simp only [decide_true] at hE
          have hG := @guard_vec
          go_wp2_with fail
          refine region_do (H4 w a b (nbuild 8 8 (holdN (-128) 127 16 a) (holdN (-128) 127 16 b) 8) D (nbuild 8 8 (holdN 0 255 16 a) (holdN 0 255 16 b) 8) E) 33 (by kernel_rfl) (by kernel_rfl) hs.drew ?_
          simp only [List.take_succ_cons, List.take_zero, List.drop_succ_cons, List.drop_zero]
          skip
          repeat (first | (refine do_loadg rfl _ rfl _ rfl _ (fun u hS => hS.h3.h2.fst) ?_; simp only [Act.put, List.setIfInBounds_toArray, List.set_cons_zero, List.set_cons_succ]) | (refine wpD_pure (v := ?_) rfl (fun u => ?_) ?_; rotate_left; (focus (go_simp; (try with_reducible rfl); done)); simp only [Act.put, List.setIfInBounds_toArray, List.set_cons_zero, List.set_cons_succ]))
          (refine wpD_callg (v := .agg (cells (buildOn 0#128 16 (extN a 8 0) 8))) rfl 16 ?_ (fun u => ?_) (fun u hS => ?_) ?_; rotate_left 1; (focus (go_simp; (try with_reducible rfl); done)); (focus (refine (lun_z 135 64903 a (buildOn 0#128 16 (extN a 8 0) 8) _ (by decide) rfl rfl).mono ?_; rintro e u2 ⟨rfl, hb⟩; exact ⟨rfl, hS.below hb⟩)); simp only [Act.put, List.setIfInBounds_toArray, List.set_cons_zero, List.set_cons_succ])
          repeat (first | (refine do_loadg rfl _ rfl _ rfl _ (fun u hS => hS.h3.h2.fst) ?_; simp only [Act.put, List.setIfInBounds_toArray, List.set_cons_zero, List.set_cons_succ]) | (refine wpD_pure (v := ?_) rfl (fun u => ?_) ?_; rotate_left; (focus (go_simp; (try with_reducible rfl); done)); simp only [Act.put, List.setIfInBounds_toArray, List.set_cons_zero, List.set_cons_succ]))
          (refine wpD_callg (v := .agg (cells (buildOn 0#128 16 (extN a 8 1) 8))) rfl 16 ?_ (fun u => ?_) (fun u hS => ?_) ?_; rotate_left 1; (focus (go_simp; (try with_reducible rfl); done)); (focus (refine (lun_z 136 64904 a (buildOn 0#128 16 (extN a 8 1) 8) _ (by decide) rfl rfl).mono ?_; rintro e u2 ⟨rfl, hb⟩; exact ⟨rfl, hS.below hb⟩)); simp only [Act.put, List.setIfInBounds_toArray, List.set_cons_zero, List.set_cons_succ])
          repeat (refine wpD_pure (v := ?_) rfl (fun u => ?_) ?_; rotate_left; (focus (go_simp; (try with_reducible rfl); done)); simp only [Act.put, List.setIfInBounds_toArray, List.set_cons_zero, List.set_cons_succ])
          (refine wpD_callg (v := .agg (cells a)) rfl 17 ?_ (fun u => ?_) (fun u hS => ?_) ?_; rotate_left 1; (focus (go_simp; (try with_reducible rfl); done)); (focus (refine (lbin_z 101 64869 (buildOn 0#128 16 (extN a 8 0) 8) (buildOn 0#128 16 (extN a 8 1) 8) a _ (by decide) rfl (back_s8 a)).mono ?_; rintro e u2 ⟨rfl, hb⟩; exact ⟨rfl, hS.below hb⟩)); simp only [Act.put, List.setIfInBounds_toArray, List.set_cons_zero, List.set_cons_succ])
          repeat (first | (refine do_loadg rfl _ rfl _ rfl _ (fun u hS => hS.h3.h2.fst) ?_; simp only [Act.put, List.setIfInBounds_toArray, List.set_cons_zero, List.set_cons_succ]) | (refine wpD_pure (v := ?_) rfl (fun u => ?_) ?_; rotate_left; (focus (go_simp; (try with_reducible rfl); done)); simp only [Act.put, List.setIfInBounds_toArray, List.set_cons_zero, List.set_cons_succ]) | (refine wpD_pureg (v := ?_) rfl (fun u => ?_) ?_; rotate_left; (focus (go_simp; (try with_reducible rfl); done)); simp only [Act.put, List.setIfInBounds_toArray, List.set_cons_zero, List.set_cons_succ]))
          (refine wpD_callg (v := .agg (cells (buildOn 0#128 16 (extN a 8 2) 8))) rfl 16 ?_ (fun u => ?_) (fun u hS => ?_) ?_; rotate_left 1; (focus (go_simp; (try with_reducible rfl); done)); (focus (refine (lun_z 137 64905 a (buildOn 0#128 16 (extN a 8 2) 8) _ (by decide) rfl rfl).mono ?_; rintro e u2 ⟨rfl, hb⟩; exact ⟨rfl, hS.below hb⟩)); simp only [Act.put, List.setIfInBounds_toArray, List.set_cons_zero, List.set_cons_succ])
          repeat (first | (refine do_loadg rfl _ rfl _ rfl _ (fun u hS => hS.h3.h2.fst) ?_; simp only [Act.put, List.setIfInBounds_toArray, List.set_cons_zero, List.set_cons_succ]) | (refine wpD_pure (v := ?_) rfl (fun u => ?_) ?_; rotate_left; (focus (go_simp; (try with_reducible rfl); done)); simp only [Act.put, List.setIfInBounds_toArray, List.set_cons_zero, List.set_cons_succ]) | (refine wpD_pureg (v := ?_) rfl (fun u => ?_) ?_; rotate_left; (focus (go_simp; (try with_reducible rfl); done)); simp only [Act.put, List.setIfInBounds_toArray, List.set_cons_zero, List.set_cons_succ]))
          (refine wpD_callg (v := .agg (cells (buildOn 0#128 16 (extN a 8 3) 8))) rfl 16 ?_ (fun u => ?_) (fun u hS => ?_) ?_; rotate_left 1; (focus (go_simp; (try with_reducible rfl); done)); (focus (refine (lun_z 138 64906 a (buildOn 0#128 16 (extN a 8 3) 8) _ (by decide) rfl rfl).mono ?_; rintro e u2 ⟨rfl, hb⟩; exact ⟨rfl, hS.below hb⟩)); simp only [Act.put, List.setIfInBounds_toArray, List.set_cons_zero, List.set_cons_succ])
          repeat (first | (refine wpD_pure (v := ?_) rfl (fun u => ?_) ?_; rotate_left; (focus (go_simp; (try with_reducible rfl); done)); simp only [Act.put, List.setIfInBounds_toArray, List.set_cons_zero, List.set_cons_succ]) | (refine wpD_pureg (v := ?_) rfl (fun u => ?_) ?_; rotate_left; (focus (go_simp; (try with_reducible rfl); done)); simp only [Act.put, List.setIfInBounds_toArray, List.set_cons_zero, List.set_cons_succ]))
          (refine wpD_callg (v := .agg (cells a)) rfl 17 ?_ (fun u => ?_) (fun u hS => ?_) ?_; rotate_left 1; (focus (go_simp; (try with_reducible rfl); done)); (focus (refine (lbin_z 102 64870 (buildOn 0#128 16 (extN a 8 2) 8) (buildOn 0#128 16 (extN a 8 3) 8) a _ (by decide) rfl (back_u8 a)).mono ?_; rintro e u2 ⟨rfl, hb⟩; exact ⟨rfl, hS.below hb⟩)); simp only [Act.put, List.setIfInBounds_toArray, List.set_cons_zero, List.set_cons_succ])
          repeat (first | (refine do_loadg rfl _ rfl _ rfl _ (fun u hS => hS.h3.h2.fst) ?_; simp only [Act.put, List.setIfInBounds_toArray, List.set_cons_zero, List.set_cons_succ]) | (refine wpD_pure (v := ?_) rfl (fun u => ?_) ?_; rotate_left; (focus (go_simp; (try with_reducible rfl); done)); simp only [Act.put, List.setIfInBounds_toArray, List.set_cons_zero, List.set_cons_succ]) | (refine wpD_pureg (v := ?_) rfl (fun u => ?_) ?_; rotate_left; (focus (go_simp; (try with_reducible rfl); done)); simp only [Act.put, List.setIfInBounds_toArray, List.set_cons_zero, List.set_cons_succ]))
          refine wpD_nil (fun wr2 hr => ?_)
          go_wp2_with fail
          go_roundw
          case rel => exact ⟨1, by decide, by decide, rfl, hr.h3.h2⟩
          case measure => (simp [intOf] <;> omega)
    · go_wp2_with (first | (with_reducible refine load_vec rfl _ rfl _ rfl _ hs.fst ?_) | (with_reducible refine load_vec rfl _ rfl _ rfl _ hs.snd ?_) | (with_reducible refine load_vec rfl _ rfl _ rfl _ h3.h2.fst ?_) | (with_reducible refine load_vec rfl _ rfl _ rfl _ h3.h2.snd ?_) | (go_at_call 17; (with_reducible refine (lbin_z 133 64901 a b (nbuild 16 4 (holdN (-32768) 32767 32 a) (holdN (-32768) 32767 32 b) 4) _ (by decide) rfl rfl).mono ?_); rintro e ua ⟨rfl, hb⟩; replace hs := hs.below hb; clear hb) | (with_reducible refine store_vec rfl _ _ rfl _ _ rfl rfl 0 (heap_new_zero _) ?_; intro wA hA; have h3 := H3.mk (hs.store hA) hA.this; clear hs hA) | (go_at_call 17; (with_reducible refine (lbin_z 134 64902 a b (nbuild 16 4 (holdN 0 65535 32 a) (holdN 0 65535 32 b) 4) _ (by decide) rfl rfl).mono ?_); rintro e ub ⟨rfl, hb⟩; replace h3 := h3.below hb; clear hb) | (with_reducible refine store_vec rfl _ _ rfl _ _ rfl rfl 0 (heap_new_zero _) ?_; intro wB hB; have h4 := H4.mk (h3.store hB) hB.this; clear h3 hB))
      obtain ⟨D, hD⟩ : ∃ D, D = ua.heap.size := ⟨_, rfl⟩
      obtain ⟨E, hE⟩ : ∃ E, E = ub.heap.size := ⟨_, rfl⟩
      rw [← hD, ← hE] at h4 ⊢
      clear hD hE
      go_loopw [11] (fun iv wr => ∃ k : Nat, k ≤ 8 ∧ iv = .int .i64 k ∧ H4 w a b (nbuild 16 4 (holdN (-32768) 32767 32 a) (holdN (-32768) 32767 32 b) 4) D (nbuild 16 4 (holdN 0 65535 32 a) (holdN 0 65535 32 b) 4) E wr) (fun iv _ => 8 - (intOf iv).toNat)
      case atStart => exact ⟨0, by omega, rfl, h4⟩
      case round =>
        clear h4
        obtain ⟨k, hk, rfl, hs⟩ := hrel
        by_cases hlt : k < 8
        · by_cases hn : k < 4
          · have hn2 := hn
            have hz := zones16 a b k hlt (nbuild 16 4 (holdN (-32768) 32767 32 a) (holdN (-32768) 32767 32 b) 4) (nbuild 16 4 (holdN 0 65535 32 a) (holdN 0 65535 32 b) 4) rfl rfl
            have hsr : src16 a b k = sgn 32 (getN a 32 k) := by unfold src16; rw [if_pos hn]
            simp only [hsr] at hz
            have hu : getN (nbuild 16 4 (holdN 0 65535 32 a) (holdN 0 65535 32 b) 4) 16 k ≤ 65535 := by have := getN_lt (nbuild 16 4 (holdN 0 65535 32 a) (holdN 0 65535 32 b) 4) 16 k; rw [show (2 : Nat) ^ 16 = 65536 from rfl] at this; omega
            have em : (k : Int).tmod 4 = ((k : Nat) : Int) := by rw [Int.tmod_eq_emod_of_nonneg (by omega)]; omega
            clear hsr hn
            rcases hz with ⟨z1, z2, z3⟩ | ⟨z1, z2, z3, z4⟩ | ⟨z1, z2, z3, z4⟩ | ⟨z1, z2, z3, z4⟩ | ⟨z1, z2, z3⟩
            all_goals
              as_aux_lemma =>
                go_wp2_with fail
                refine region_do (H4 w a b (nbuild 16 4 (holdN (-32768) 32767 32 a) (holdN (-32768) 32767 32 b) 4) D (nbuild 16 4 (holdN 0 65535 32 a) (holdN 0 65535 32 b) 4) E) 7 (by kernel_rfl) (by kernel_rfl) hs.drew ?_
                simp only [List.take_succ_cons, List.take_zero, List.drop_succ_cons, List.drop_zero]
                repeat (first | (refine do_loadg rfl _ rfl _ rfl _ (fun u hS => hS.h3.h2.fst) ?_; simp only [Act.put, List.setIfInBounds_toArray, List.set_cons_zero, List.set_cons_succ]) | (refine wpD_pure (v := ?_) rfl (fun u => ?_) ?_; rotate_left; (focus (go_simp; (try with_reducible rfl); done)); simp only [Act.put, List.setIfInBounds_toArray, List.set_cons_zero, List.set_cons_succ]))
                (refine wpD_callg (v := .int .i64 (sgn 32 (getN a 32 k))) rfl 14 ?_ (fun u => ?_) (fun u hS => ?_) ?_; rotate_left 1; (focus (go_simp; (try with_reducible rfl); done)); (focus (refine (signed32z a _ k _ rfl (by omega)).mono ?_; rintro e u2 ⟨rfl, hb⟩; exact ⟨rfl, hS.below hb⟩)); simp only [Act.put, List.setIfInBounds_toArray, List.set_cons_zero, List.set_cons_succ])
                refine wpD_nil (fun wr2 hr => ?_)
                go_wp2_with (first | (with_reducible refine load_vec rfl _ rfl _ rfl _ hr.h3.h2.snd ?_) | (with_reducible refine load_vec rfl _ rfl _ rfl _ hr.h3.dd ?_) | (with_reducible refine load_vec rfl _ rfl _ rfl _ hr.ee ?_) | (go_at_call 14; (with_reducible refine (signed32z b _ ((k - 4)) _ (by omega) (by omega)).mono ?_); rintro e u ⟨rfl, hb⟩; replace hr := hr.below hb; clear hb) | (go_at_call 14; (with_reducible refine (signed16z (nbuild 16 4 (holdN (-32768) 32767 32 a) (holdN (-32768) 32767 32 b) 4) _ (k) _ (by omega) (by omega)).mono ?_); rintro e u ⟨rfl, hb⟩; replace hr := hr.below hb; clear hb) | (go_at_call 15; (with_reducible refine (get16z (nbuild 16 4 (holdN 0 65535 32 a) (holdN 0 65535 32 b) 4) _ (k) _ (by omega) (by omega)).mono ?_); rintro e u ⟨rfl, hb⟩; replace hr := hr.below hb; clear hb))
                go_roundw
                case rel => exact ⟨k + 1, by omega, by go_num, hr⟩
                case measure => (simp [intOf] <;> omega)
        
          · have hn2 : 4 ≤ k := by omega
            have hz := zones16 a b k hlt (nbuild 16 4 (holdN (-32768) 32767 32 a) (holdN (-32768) 32767 32 b) 4) (nbuild 16 4 (holdN 0 65535 32 a) (holdN 0 65535 32 b) 4) rfl rfl
            have hsr : src16 a b k = sgn 32 (getN b 32 (k - 4)) := by unfold src16; rw [if_neg hn]
            simp only [hsr] at hz
            have hu : getN (nbuild 16 4 (holdN 0 65535 32 a) (holdN 0 65535 32 b) 4) 16 k ≤ 65535 := by have := getN_lt (nbuild 16 4 (holdN 0 65535 32 a) (holdN 0 65535 32 b) 4) 16 k; rw [show (2 : Nat) ^ 16 = 65536 from rfl] at this; omega
            have em : (k : Int).tmod 4 = (((k - 4) : Nat) : Int) := by rw [Int.tmod_eq_emod_of_nonneg (by omega)]; omega
            clear hsr hn
            rcases hz with ⟨z1, z2, z3⟩ | ⟨z1, z2, z3, z4⟩ | ⟨z1, z2, z3, z4⟩ | ⟨z1, z2, z3, z4⟩ | ⟨z1, z2, z3⟩
            all_goals
              as_aux_lemma =>
                go_wp2_with fail
                refine region_do (H4 w a b (nbuild 16 4 (holdN (-32768) 32767 32 a) (holdN (-32768) 32767 32 b) 4) D (nbuild 16 4 (holdN 0 65535 32 a) (holdN 0 65535 32 b) 4) E) 7 (by kernel_rfl) (by kernel_rfl) hs.drew ?_
                simp only [List.take_succ_cons, List.take_zero, List.drop_succ_cons, List.drop_zero]
                repeat (first | (refine do_loadg rfl _ rfl _ rfl _ (fun u hS => hS.h3.h2.fst) ?_; simp only [Act.put, List.setIfInBounds_toArray, List.set_cons_zero, List.set_cons_succ]) | (refine wpD_pure (v := ?_) rfl (fun u => ?_) ?_; rotate_left; (focus (go_simp; (try with_reducible rfl); done)); simp only [Act.put, List.setIfInBounds_toArray, List.set_cons_zero, List.set_cons_succ]))
                (refine wpD_callg (v := .int .i64 (sgn 32 (getN a 32 (k - 4)))) rfl 14 ?_ (fun u => ?_) (fun u hS => ?_) ?_; rotate_left 1; (focus (go_simp; (try with_reducible rfl); done)); (focus (refine (signed32z a _ (k - 4) _ rfl (by omega)).mono ?_; rintro e u2 ⟨rfl, hb⟩; exact ⟨rfl, hS.below hb⟩)); simp only [Act.put, List.setIfInBounds_toArray, List.set_cons_zero, List.set_cons_succ])
                refine wpD_nil (fun wr2 hr => ?_)
                go_wp2_with (first | (with_reducible refine load_vec rfl _ rfl _ rfl _ hr.h3.h2.snd ?_) | (with_reducible refine load_vec rfl _ rfl _ rfl _ hr.h3.dd ?_) | (with_reducible refine load_vec rfl _ rfl _ rfl _ hr.ee ?_) | (go_at_call 14; (with_reducible refine (signed32z b _ ((k - 4)) _ (by omega) (by omega)).mono ?_); rintro e u ⟨rfl, hb⟩; replace hr := hr.below hb; clear hb) | (go_at_call 14; (with_reducible refine (signed16z (nbuild 16 4 (holdN (-32768) 32767 32 a) (holdN (-32768) 32767 32 b) 4) _ (k) _ (by omega) (by omega)).mono ?_); rintro e u ⟨rfl, hb⟩; replace hr := hr.below hb; clear hb) | (go_at_call 15; (with_reducible refine (get16z (nbuild 16 4 (holdN 0 65535 32 a) (holdN 0 65535 32 b) 4) _ (k) _ (by omega) (by omega)).mono ?_); rintro e u ⟨rfl, hb⟩; replace hr := hr.below hb; clear hb))
                go_roundw
                case rel => exact ⟨k + 1, by omega, by go_num, hr⟩
                case measure => (simp [intOf] <;> omega)
        · obtain rfl : k = 8 := by omega
          have hE := equal_vec a a
          simp only [decide_true] at hE
          have hG := @guard_vec
          go_wp2_with fail
          refine region_do (H4 w a b (nbuild 16 4 (holdN (-32768) 32767 32 a) (holdN (-32768) 32767 32 b) 4) D (nbuild 16 4 (holdN 0 65535 32 a) (holdN 0 65535 32 b) 4) E) 33 (by kernel_rfl) (by kernel_rfl) hs.drew ?_
          simp only [List.take_succ_cons, List.take_zero, List.drop_succ_cons, List.drop_zero]
          skip
          repeat (first | (refine do_loadg rfl _ rfl _ rfl _ (fun u hS => hS.h3.h2.fst) ?_; simp only [Act.put, List.setIfInBounds_toArray, List.set_cons_zero, List.set_cons_succ]) | (refine wpD_pure (v := ?_) rfl (fun u => ?_) ?_; rotate_left; (focus (go_simp; (try with_reducible rfl); done)); simp only [Act.put, List.setIfInBounds_toArray, List.set_cons_zero, List.set_cons_succ]))
          (refine wpD_callg (v := .agg (cells (buildOn 0#128 32 (extN a 16 0) 4))) rfl 16 ?_ (fun u => ?_) (fun u hS => ?_) ?_; rotate_left 1; (focus (go_simp; (try with_reducible rfl); done)); (focus (refine (lun_z 167 64935 a (buildOn 0#128 32 (extN a 16 0) 4) _ (by decide) rfl rfl).mono ?_; rintro e u2 ⟨rfl, hb⟩; exact ⟨rfl, hS.below hb⟩)); simp only [Act.put, List.setIfInBounds_toArray, List.set_cons_zero, List.set_cons_succ])
          repeat (first | (refine do_loadg rfl _ rfl _ rfl _ (fun u hS => hS.h3.h2.fst) ?_; simp only [Act.put, List.setIfInBounds_toArray, List.set_cons_zero, List.set_cons_succ]) | (refine wpD_pure (v := ?_) rfl (fun u => ?_) ?_; rotate_left; (focus (go_simp; (try with_reducible rfl); done)); simp only [Act.put, List.setIfInBounds_toArray, List.set_cons_zero, List.set_cons_succ]))
          (refine wpD_callg (v := .agg (cells (buildOn 0#128 32 (extN a 16 1) 4))) rfl 16 ?_ (fun u => ?_) (fun u hS => ?_) ?_; rotate_left 1; (focus (go_simp; (try with_reducible rfl); done)); (focus (refine (lun_z 168 64936 a (buildOn 0#128 32 (extN a 16 1) 4) _ (by decide) rfl rfl).mono ?_; rintro e u2 ⟨rfl, hb⟩; exact ⟨rfl, hS.below hb⟩)); simp only [Act.put, List.setIfInBounds_toArray, List.set_cons_zero, List.set_cons_succ])
          repeat (refine wpD_pure (v := ?_) rfl (fun u => ?_) ?_; rotate_left; (focus (go_simp; (try with_reducible rfl); done)); simp only [Act.put, List.setIfInBounds_toArray, List.set_cons_zero, List.set_cons_succ])
          (refine wpD_callg (v := .agg (cells a)) rfl 17 ?_ (fun u => ?_) (fun u hS => ?_) ?_; rotate_left 1; (focus (go_simp; (try with_reducible rfl); done)); (focus (refine (lbin_z 133 64901 (buildOn 0#128 32 (extN a 16 0) 4) (buildOn 0#128 32 (extN a 16 1) 4) a _ (by decide) rfl (back_s16 a)).mono ?_; rintro e u2 ⟨rfl, hb⟩; exact ⟨rfl, hS.below hb⟩)); simp only [Act.put, List.setIfInBounds_toArray, List.set_cons_zero, List.set_cons_succ])
          repeat (first | (refine do_loadg rfl _ rfl _ rfl _ (fun u hS => hS.h3.h2.fst) ?_; simp only [Act.put, List.setIfInBounds_toArray, List.set_cons_zero, List.set_cons_succ]) | (refine wpD_pure (v := ?_) rfl (fun u => ?_) ?_; rotate_left; (focus (go_simp; (try with_reducible rfl); done)); simp only [Act.put, List.setIfInBounds_toArray, List.set_cons_zero, List.set_cons_succ]) | (refine wpD_pureg (v := ?_) rfl (fun u => ?_) ?_; rotate_left; (focus (go_simp; (try with_reducible rfl); done)); simp only [Act.put, List.setIfInBounds_toArray, List.set_cons_zero, List.set_cons_succ]))
          (refine wpD_callg (v := .agg (cells (buildOn 0#128 32 (extN a 16 2) 4))) rfl 16 ?_ (fun u => ?_) (fun u hS => ?_) ?_; rotate_left 1; (focus (go_simp; (try with_reducible rfl); done)); (focus (refine (lun_z 169 64937 a (buildOn 0#128 32 (extN a 16 2) 4) _ (by decide) rfl rfl).mono ?_; rintro e u2 ⟨rfl, hb⟩; exact ⟨rfl, hS.below hb⟩)); simp only [Act.put, List.setIfInBounds_toArray, List.set_cons_zero, List.set_cons_succ])
          repeat (first | (refine do_loadg rfl _ rfl _ rfl _ (fun u hS => hS.h3.h2.fst) ?_; simp only [Act.put, List.setIfInBounds_toArray, List.set_cons_zero, List.set_cons_succ]) | (refine wpD_pure (v := ?_) rfl (fun u => ?_) ?_; rotate_left; (focus (go_simp; (try with_reducible rfl); done)); simp only [Act.put, List.setIfInBounds_toArray, List.set_cons_zero, List.set_cons_succ]) | (refine wpD_pureg (v := ?_) rfl (fun u => ?_) ?_; rotate_left; (focus (go_simp; (try with_reducible rfl); done)); simp only [Act.put, List.setIfInBounds_toArray, List.set_cons_zero, List.set_cons_succ]))
          (refine wpD_callg (v := .agg (cells (buildOn 0#128 32 (extN a 16 3) 4))) rfl 16 ?_ (fun u => ?_) (fun u hS => ?_) ?_; rotate_left 1; (focus (go_simp; (try with_reducible rfl); done)); (focus (refine (lun_z 170 64938 a (buildOn 0#128 32 (extN a 16 3) 4) _ (by decide) rfl rfl).mono ?_; rintro e u2 ⟨rfl, hb⟩; exact ⟨rfl, hS.below hb⟩)); simp only [Act.put, List.setIfInBounds_toArray, List.set_cons_zero, List.set_cons_succ])
          repeat (first | (refine wpD_pure (v := ?_) rfl (fun u => ?_) ?_; rotate_left; (focus (go_simp; (try with_reducible rfl); done)); simp only [Act.put, List.setIfInBounds_toArray, List.set_cons_zero, List.set_cons_succ]) | (refine wpD_pureg (v := ?_) rfl (fun u => ?_) ?_; rotate_left; (focus (go_simp; (try with_reducible rfl); done)); simp only [Act.put, List.setIfInBounds_toArray, List.set_cons_zero, List.set_cons_succ]))
          (refine wpD_callg (v := .agg (cells a)) rfl 17 ?_ (fun u => ?_) (fun u hS => ?_) ?_; rotate_left 1; (focus (go_simp; (try with_reducible rfl); done)); (focus (refine (lbin_z 134 64902 (buildOn 0#128 32 (extN a 16 2) 4) (buildOn 0#128 32 (extN a 16 3) 4) a _ (by decide) rfl (back_u16 a)).mono ?_; rintro e u2 ⟨rfl, hb⟩; exact ⟨rfl, hS.below hb⟩)); simp only [Act.put, List.setIfInBounds_toArray, List.set_cons_zero, List.set_cons_succ])
          repeat (first | (refine do_loadg rfl _ rfl _ rfl _ (fun u hS => hS.h3.h2.fst) ?_; simp only [Act.put, List.setIfInBounds_toArray, List.set_cons_zero, List.set_cons_succ]) | (refine wpD_pure (v := ?_) rfl (fun u => ?_) ?_; rotate_left; (focus (go_simp; (try with_reducible rfl); done)); simp only [Act.put, List.setIfInBounds_toArray, List.set_cons_zero, List.set_cons_succ]) | (refine wpD_pureg (v := ?_) rfl (fun u => ?_) ?_; rotate_left; (focus (go_simp; (try with_reducible rfl); done)); simp only [Act.put, List.setIfInBounds_toArray, List.set_cons_zero, List.set_cons_succ]))
          refine wpD_nil (fun wr2 hr => ?_)
          go_wp2_with fail
          go_roundw
          case rel => exact ⟨2, by decide, by decide, rfl, hr.h3.h2⟩
          case measure => (simp [intOf] <;> omega)
    · go_wp2_with fail
      go_ret
      exact ⟨rfl, hs.bel⟩

end Go.Proofs.Ytnjhojjpajnbhaa
