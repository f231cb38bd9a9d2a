/-
  The walk of plaitlaw05.ArithSat.
-/
import Derived.Test.YtgemlndpmbeaeaaAriH
namespace Go.Proofs.Ytgemlndpmbeaeaa
open Go.RowKit Pl
set_option linter.unusedVariables false
set_option linter.unusedSimpArgs false


set_option maxHeartbeats 8000000 in
set_option maxRecDepth 100000 in
theorem sat_walk (a b : Vec) (w : World) :
    Calls Try.prog 6 #[.agg (cells a), .agg (cells b)] w fun e w' => e = .returned (.bool true) ∧ Below w.heap.size w w' := by
  have hs := HL.two w a b
  go_enter Try.func6, Try.ntmps6
  go_wp2_with (go_at_call 11; (with_reducible refine (awake_any _).mono ?_); rintro e u ⟨rfl, hb⟩; replace hs := hs.below hb; clear hb)
  go_loopw [5] (fun ov wr => ∃ z : Int, (z = 8 ∨ z = 16 ∨ z = 32) ∧ ov = .int .i64 z ∧ HL w [(w.heap.size + 1, b), (w.heap.size, a)] wr) (fun ov _ => (128 - intOf ov).toNat)
  case atStart => exact ⟨8, .inl rfl, rfl, hs⟩
  case round =>
    clear hs
    obtain ⟨z, hz, rfl, hs⟩ := hrel
    rcases hz with rfl | rfl | rfl

    · as_aux_lemma =>
      go_wp2_with fail
      go_loopw [7] (fun iv wr => ∃ i : Nat, i ≤ 16 ∧ iv = .int .i64 i ∧ HL w [(w.heap.size + 1, b), (w.heap.size, a)] wr) (fun iv _ => 16 - (intOf iv).toNat)
      case atStart => exact ⟨0, Nat.zero_le _, rfl, hs⟩
      case round =>
        clear hs
        obtain ⟨i, hi, rfl, hs⟩ := hrel
        by_cases hlt : i < 16
        · have hl : i < 16 := hlt
          have b1 := sgb8 a i
          have b2 := sgb8 b i
          have g1 : getN a 8 i < 256 := getN_lt a 8 i
          have g2 : getN b 8 i < 256 := getN_lt b 8 i
          have g16 : getN (vb 8 16 a b) 8 i < 256 := getN_lt _ 8 i
          have g19 : getN (vb 8 19 a b) 8 i < 256 := getN_lt _ 8 i
          have g27 : getN (vb 8 27 a b) 8 i < 256 := getN_lt _ 8 i
          have H15 := Lib.hid (show sgn 8 (getN (vb 8 15 a b) 8 i) = min (max (sgn 8 (getN a 8 i) + sgn 8 (getN b 8 i)) (-128)) 127 from ssum8 a b i hl)
          have H18 := Lib.hid (show sgn 8 (getN (vb 8 18 a b) 8 i) = min (max (sgn 8 (getN a 8 i) - sgn 8 (getN b 8 i)) (-128)) 127 from sdif8 a b i hl)
          have H16 := Lib.hid (show (getN (vb 8 16 a b) 8 i : Int) = min (max ((getN a 8 i : Int) + (getN b 8 i : Int)) 0) 255 by have := usum8 a b i hl; omega)
          have H19 := Lib.hid (show (getN (vb 8 19 a b) 8 i : Int) = min (max ((getN a 8 i : Int) - (getN b 8 i : Int)) 0) 255 by have := udif8 a b i hl; omega)
          have t27 : (2 * (getN (vb 8 27 a b) 8 i : Int) != (getN a 8 i : Int) + (getN b 8 i : Int) + ((getN a 8 i : Int) + (getN b 8 i : Int)) % 2) = false := eq_testI (avg8 a b i hl)
          go_wp2_with (first | (with_reducible refine load_vec rfl _ rfl _ rfl _ (hs.hold (_, _) (by first | exact List.mem_cons_self | exact List.mem_cons_of_mem _ (List.mem_cons_self) | exact List.mem_cons_of_mem _ (List.mem_cons_of_mem _ (List.mem_cons_self)) | exact List.mem_cons_of_mem _ (List.mem_cons_of_mem _ (List.mem_cons_of_mem _ (List.mem_cons_self))) | exact List.mem_cons_of_mem _ (List.mem_cons_of_mem _ (List.mem_cons_of_mem _ (List.mem_cons_of_mem _ (List.mem_cons_self)))) | exact List.mem_cons_of_mem _ (List.mem_cons_of_mem _ (List.mem_cons_of_mem _ (List.mem_cons_of_mem _ (List.mem_cons_of_mem _ (List.mem_cons_self))))) | exact List.mem_cons_of_mem _ (List.mem_cons_of_mem _ (List.mem_cons_of_mem _ (List.mem_cons_of_mem _ (List.mem_cons_of_mem _ (List.mem_cons_of_mem _ (List.mem_cons_self)))))))) ?_) | ((with_reducible refine load_vec_g ?_ _ rfl _ rfl _ (hs.hold (_, _) (by first | exact List.mem_cons_self | exact List.mem_cons_of_mem _ (List.mem_cons_self) | exact List.mem_cons_of_mem _ (List.mem_cons_of_mem _ (List.mem_cons_self)) | exact List.mem_cons_of_mem _ (List.mem_cons_of_mem _ (List.mem_cons_of_mem _ (List.mem_cons_self))) | exact List.mem_cons_of_mem _ (List.mem_cons_of_mem _ (List.mem_cons_of_mem _ (List.mem_cons_of_mem _ (List.mem_cons_self)))) | exact List.mem_cons_of_mem _ (List.mem_cons_of_mem _ (List.mem_cons_of_mem _ (List.mem_cons_of_mem _ (List.mem_cons_of_mem _ (List.mem_cons_self))))) | exact List.mem_cons_of_mem _ (List.mem_cons_of_mem _ (List.mem_cons_of_mem _ (List.mem_cons_of_mem _ (List.mem_cons_of_mem _ (List.mem_cons_of_mem _ (List.mem_cons_self)))))))) ?_); (focus rfl)) | (go_at_call 16; (with_reducible refine (get8z a _ i _ rfl (by omega)).mono ?_); rintro e u ⟨rfl, hb⟩; replace hs := hs.below hb; clear hb) | (go_at_call 16; (with_reducible refine (get8z b _ i _ rfl (by omega)).mono ?_); rintro e u ⟨rfl, hb⟩; replace hs := hs.below hb; clear hb) | (go_at_call 16; (with_reducible refine (get8z (vb 8 16 a b) _ i _ rfl (by omega)).mono ?_); rintro e u ⟨rfl, hb⟩; replace hs := hs.below hb; clear hb) | (go_at_call 16; (with_reducible refine (get8z (vb 8 19 a b) _ i _ rfl (by omega)).mono ?_); rintro e u ⟨rfl, hb⟩; replace hs := hs.below hb; clear hb) | (go_at_call 16; (with_reducible refine (get8z (vb 8 27 a b) _ i _ rfl (by omega)).mono ?_); rintro e u ⟨rfl, hb⟩; replace hs := hs.below hb; clear hb) | (go_at_call 17; (with_reducible refine (signed8z a _ i _ rfl (by omega)).mono ?_); rintro e u ⟨rfl, hb⟩; replace hs := hs.below hb; clear hb) | (go_at_call 17; (with_reducible refine (signed8z b _ i _ rfl (by omega)).mono ?_); rintro e u ⟨rfl, hb⟩; replace hs := hs.below hb; clear hb) | (go_at_call 17; (with_reducible refine (signed8z (vb 8 15 a b) _ i _ rfl (by omega)).mono ?_); rintro e u ⟨rfl, hb⟩; replace hs := hs.below hb; clear hb) | (go_at_call 17; (with_reducible refine (signed8z (vb 8 18 a b) _ i _ rfl (by omega)).mono ?_); rintro e u ⟨rfl, hb⟩; replace hs := hs.below hb; clear hb) | (go_at_call 19; (with_reducible refine (two_8_15 a b _).mono ?_); rintro e u ⟨rfl, hb⟩; replace hs := hs.below hb; clear hb) | (go_at_call 19; (with_reducible refine (two_8_16 a b _).mono ?_); rintro e u ⟨rfl, hb⟩; replace hs := hs.below hb; clear hb) | (go_at_call 19; (with_reducible refine (two_8_18 a b _).mono ?_); rintro e u ⟨rfl, hb⟩; replace hs := hs.below hb; clear hb) | (go_at_call 19; (with_reducible refine (two_8_19 a b _).mono ?_); rintro e u ⟨rfl, hb⟩; replace hs := hs.below hb; clear hb) | (go_at_call 19; (with_reducible refine (two_8_27 a b _).mono ?_); rintro e u ⟨rfl, hb⟩; replace hs := hs.below hb; clear hb) | (go_at_call 18; (with_reducible refine (held_any _ _ _ _ _ H15.out (by decide)).mono ?_); rintro e w' ⟨rfl, rfl⟩) | (go_at_call 18; (with_reducible refine (held_any _ _ _ _ _ H16.out (by decide)).mono ?_); rintro e w' ⟨rfl, rfl⟩) | (go_at_call 18; (with_reducible refine (held_any _ _ _ _ _ H18.out (by decide)).mono ?_); rintro e w' ⟨rfl, rfl⟩) | (go_at_call 18; (with_reducible refine (held_any _ _ _ _ _ H19.out (by decide)).mono ?_); rintro e w' ⟨rfl, rfl⟩))
          skip
          go_roundw
          case rel => exact ⟨i + 1, by omega, by go_num, hs⟩
          case measure => (simp [intOf] <;> omega)
        · obtain rfl : i = 16 := by omega
          go_wp2_with fail
          go_roundw
          case rel => first | exact ⟨16, by decide, rfl, hs⟩ | ((repeat apply Exists.intro); exact ⟨⟨16, by decide, rfl, hs⟩, rfl⟩)
          case measure => (simp [intOf] <;> omega)
    · as_aux_lemma =>
      go_wp2_with fail
      go_loopw [7] (fun iv wr => ∃ i : Nat, i ≤ 8 ∧ iv = .int .i64 i ∧ HL w [(w.heap.size + 1, b), (w.heap.size, a)] wr) (fun iv _ => 8 - (intOf iv).toNat)
      case atStart => exact ⟨0, Nat.zero_le _, rfl, hs⟩
      case round =>
        clear hs
        obtain ⟨i, hi, rfl, hs⟩ := hrel
        by_cases hlt : i < 8
        · have hl : i < 8 := hlt
          have b1 := sgb16 a i
          have b2 := sgb16 b i
          have g1 : getN a 16 i < 65536 := getN_lt a 16 i
          have g2 : getN b 16 i < 65536 := getN_lt b 16 i
          have g16 : getN (vb 16 16 a b) 16 i < 65536 := getN_lt _ 16 i
          have g19 : getN (vb 16 19 a b) 16 i < 65536 := getN_lt _ 16 i
          have g27 : getN (vb 16 27 a b) 16 i < 65536 := getN_lt _ 16 i
          have H15 := Lib.hid (show sgn 16 (getN (vb 16 15 a b) 16 i) = min (max (sgn 16 (getN a 16 i) + sgn 16 (getN b 16 i)) (-32768)) 32767 from ssum16 a b i hl)
          have H18 := Lib.hid (show sgn 16 (getN (vb 16 18 a b) 16 i) = min (max (sgn 16 (getN a 16 i) - sgn 16 (getN b 16 i)) (-32768)) 32767 from sdif16 a b i hl)
          have H16 := Lib.hid (show (getN (vb 16 16 a b) 16 i : Int) = min (max ((getN a 16 i : Int) + (getN b 16 i : Int)) 0) 65535 by have := usum16 a b i hl; omega)
          have H19 := Lib.hid (show (getN (vb 16 19 a b) 16 i : Int) = min (max ((getN a 16 i : Int) - (getN b 16 i : Int)) 0) 65535 by have := udif16 a b i hl; omega)
          have t27 : (2 * (getN (vb 16 27 a b) 16 i : Int) != (getN a 16 i : Int) + (getN b 16 i : Int) + ((getN a 16 i : Int) + (getN b 16 i : Int)) % 2) = false := eq_testI (avg16 a b i hl)
          go_wp2_with (first | (with_reducible refine load_vec rfl _ rfl _ rfl _ (hs.hold (_, _) (by first | exact List.mem_cons_self | exact List.mem_cons_of_mem _ (List.mem_cons_self) | exact List.mem_cons_of_mem _ (List.mem_cons_of_mem _ (List.mem_cons_self)) | exact List.mem_cons_of_mem _ (List.mem_cons_of_mem _ (List.mem_cons_of_mem _ (List.mem_cons_self))) | exact List.mem_cons_of_mem _ (List.mem_cons_of_mem _ (List.mem_cons_of_mem _ (List.mem_cons_of_mem _ (List.mem_cons_self)))) | exact List.mem_cons_of_mem _ (List.mem_cons_of_mem _ (List.mem_cons_of_mem _ (List.mem_cons_of_mem _ (List.mem_cons_of_mem _ (List.mem_cons_self))))) | exact List.mem_cons_of_mem _ (List.mem_cons_of_mem _ (List.mem_cons_of_mem _ (List.mem_cons_of_mem _ (List.mem_cons_of_mem _ (List.mem_cons_of_mem _ (List.mem_cons_self)))))))) ?_) | ((with_reducible refine load_vec_g ?_ _ rfl _ rfl _ (hs.hold (_, _) (by first | exact List.mem_cons_self | exact List.mem_cons_of_mem _ (List.mem_cons_self) | exact List.mem_cons_of_mem _ (List.mem_cons_of_mem _ (List.mem_cons_self)) | exact List.mem_cons_of_mem _ (List.mem_cons_of_mem _ (List.mem_cons_of_mem _ (List.mem_cons_self))) | exact List.mem_cons_of_mem _ (List.mem_cons_of_mem _ (List.mem_cons_of_mem _ (List.mem_cons_of_mem _ (List.mem_cons_self)))) | exact List.mem_cons_of_mem _ (List.mem_cons_of_mem _ (List.mem_cons_of_mem _ (List.mem_cons_of_mem _ (List.mem_cons_of_mem _ (List.mem_cons_self))))) | exact List.mem_cons_of_mem _ (List.mem_cons_of_mem _ (List.mem_cons_of_mem _ (List.mem_cons_of_mem _ (List.mem_cons_of_mem _ (List.mem_cons_of_mem _ (List.mem_cons_self)))))))) ?_); (focus rfl)) | (go_at_call 16; (with_reducible refine (get16z a _ i _ rfl (by omega)).mono ?_); rintro e u ⟨rfl, hb⟩; replace hs := hs.below hb; clear hb) | (go_at_call 16; (with_reducible refine (get16z b _ i _ rfl (by omega)).mono ?_); rintro e u ⟨rfl, hb⟩; replace hs := hs.below hb; clear hb) | (go_at_call 16; (with_reducible refine (get16z (vb 16 16 a b) _ i _ rfl (by omega)).mono ?_); rintro e u ⟨rfl, hb⟩; replace hs := hs.below hb; clear hb) | (go_at_call 16; (with_reducible refine (get16z (vb 16 19 a b) _ i _ rfl (by omega)).mono ?_); rintro e u ⟨rfl, hb⟩; replace hs := hs.below hb; clear hb) | (go_at_call 16; (with_reducible refine (get16z (vb 16 27 a b) _ i _ rfl (by omega)).mono ?_); rintro e u ⟨rfl, hb⟩; replace hs := hs.below hb; clear hb) | (go_at_call 17; (with_reducible refine (signed16z a _ i _ rfl (by omega)).mono ?_); rintro e u ⟨rfl, hb⟩; replace hs := hs.below hb; clear hb) | (go_at_call 17; (with_reducible refine (signed16z b _ i _ rfl (by omega)).mono ?_); rintro e u ⟨rfl, hb⟩; replace hs := hs.below hb; clear hb) | (go_at_call 17; (with_reducible refine (signed16z (vb 16 15 a b) _ i _ rfl (by omega)).mono ?_); rintro e u ⟨rfl, hb⟩; replace hs := hs.below hb; clear hb) | (go_at_call 17; (with_reducible refine (signed16z (vb 16 18 a b) _ i _ rfl (by omega)).mono ?_); rintro e u ⟨rfl, hb⟩; replace hs := hs.below hb; clear hb) | (go_at_call 19; (with_reducible refine (two_16_15 a b _).mono ?_); rintro e u ⟨rfl, hb⟩; replace hs := hs.below hb; clear hb) | (go_at_call 19; (with_reducible refine (two_16_16 a b _).mono ?_); rintro e u ⟨rfl, hb⟩; replace hs := hs.below hb; clear hb) | (go_at_call 19; (with_reducible refine (two_16_18 a b _).mono ?_); rintro e u ⟨rfl, hb⟩; replace hs := hs.below hb; clear hb) | (go_at_call 19; (with_reducible refine (two_16_19 a b _).mono ?_); rintro e u ⟨rfl, hb⟩; replace hs := hs.below hb; clear hb) | (go_at_call 19; (with_reducible refine (two_16_27 a b _).mono ?_); rintro e u ⟨rfl, hb⟩; replace hs := hs.below hb; clear hb) | (go_at_call 18; (with_reducible refine (held_any _ _ _ _ _ H15.out (by decide)).mono ?_); rintro e w' ⟨rfl, rfl⟩) | (go_at_call 18; (with_reducible refine (held_any _ _ _ _ _ H16.out (by decide)).mono ?_); rintro e w' ⟨rfl, rfl⟩) | (go_at_call 18; (with_reducible refine (held_any _ _ _ _ _ H18.out (by decide)).mono ?_); rintro e w' ⟨rfl, rfl⟩) | (go_at_call 18; (with_reducible refine (held_any _ _ _ _ _ H19.out (by decide)).mono ?_); rintro e w' ⟨rfl, rfl⟩))
          skip
          go_roundw
          case rel => exact ⟨i + 1, by omega, by go_num, hs⟩
          case measure => (simp [intOf] <;> omega)
        · obtain rfl : i = 8 := by omega
          go_wp2_with fail
          go_roundw
          case rel => first | exact ⟨32, by decide, rfl, hs⟩ | ((repeat apply Exists.intro); exact ⟨⟨32, by decide, rfl, hs⟩, rfl⟩)
          case measure => (simp [intOf] <;> omega)

    · go_wp2_with fail
      go_ret
      exact ⟨rfl, hs.bel⟩

end Go.Proofs.Ytgemlndpmbeaeaa
