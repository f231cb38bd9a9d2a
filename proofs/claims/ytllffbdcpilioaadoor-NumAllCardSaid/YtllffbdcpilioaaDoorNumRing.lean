/-
  The walk of plaitlaw03.NumRing.
-/
import Derived.Test.YtllffbdcpilioaaDoorNumUn
set_option linter.unusedSimpArgs false
set_option linter.unusedVariables false
namespace Go.Proofs.YtllffbdcpilioaaDoor
open Go.RowKit Nm

theorem lit_0 : (0 : Int) = ((0#64).toNat : Int) := rfl
theorem lit_1 : (1 : Int) = ((1#64).toNat : Int) := rfl
theorem lit_2 : (2 : Int) = ((2#64).toNat : Int) := rfl
theorem lit_3 : (3 : Int) = ((3#64).toNat : Int) := rfl
theorem lit_m : (18446744073709551615 : Int) = ((18446744073709551615#64).toNat : Int) := rfl
theorem ne_false {X Y : B64} (e : X = Y) : ((X.toNat : Int) != Y.toNat) = false := by rw [e]; exact bne_self_eq_false _
theorem eq_true' {X Y : B64} (e : X = Y) : ((X.toNat : Int) == Y.toNat) = true := by rw [e]; exact beq_self_eq_true _

theorem r106_0 (x y z : B64) : (((bB 106 x y).toNat : Int) != ((bB 106 y x).toNat : Int)) = false := by
  refine ne_false ?_
  have a : ∀ x y, bB 106 x y = up (lo x + lo y) := fun _ _ => rfl
  have s : ∀ x y, bB 107 x y = up (lo x - lo y) := fun _ _ => rfl
  have m : ∀ x y, bB 108 x y = up (lo x * lo y) := fun _ _ => rfl
  have n : ∀ x y, bB 113 x y = up (lo x &&& lo y) := fun _ _ => rfl
  have r : ∀ x y, bB 114 x y = up (lo x ||| lo y) := fun _ _ => rfl
  have e : ∀ x y, bB 115 x y = up (lo x ^^^ lo y) := fun _ _ => rfl
  have l0 : lo 0#64 = 0 := rfl
  have l1 : lo 1#64 = 1 := rfl
  have lm : lo 18446744073709551615#64 = BitVec.allOnes 32 := rfl
  simp only [a, s, m, n, r, e, lo_up, l0, l1, lm]
  congr 1
  grind
theorem r106_1 (x y z : B64) : (((bB 107 (bB 106 x y) y).toNat : Int) != ((bB 106 x 0#64).toNat : Int)) = false := by
  refine ne_false ?_
  have a : ∀ x y, bB 106 x y = up (lo x + lo y) := fun _ _ => rfl
  have s : ∀ x y, bB 107 x y = up (lo x - lo y) := fun _ _ => rfl
  have m : ∀ x y, bB 108 x y = up (lo x * lo y) := fun _ _ => rfl
  have n : ∀ x y, bB 113 x y = up (lo x &&& lo y) := fun _ _ => rfl
  have r : ∀ x y, bB 114 x y = up (lo x ||| lo y) := fun _ _ => rfl
  have e : ∀ x y, bB 115 x y = up (lo x ^^^ lo y) := fun _ _ => rfl
  have l0 : lo 0#64 = 0 := rfl
  have l1 : lo 1#64 = 1 := rfl
  have lm : lo 18446744073709551615#64 = BitVec.allOnes 32 := rfl
  simp only [a, s, m, n, r, e, lo_up, l0, l1, lm]
  congr 1
  grind
theorem r106_2 (x y z : B64) : (((bB 108 x (bB 106 y z)).toNat : Int) != ((bB 106 (bB 108 x y) (bB 108 z x)).toNat : Int)) = false := by
  refine ne_false ?_
  have a : ∀ x y, bB 106 x y = up (lo x + lo y) := fun _ _ => rfl
  have s : ∀ x y, bB 107 x y = up (lo x - lo y) := fun _ _ => rfl
  have m : ∀ x y, bB 108 x y = up (lo x * lo y) := fun _ _ => rfl
  have n : ∀ x y, bB 113 x y = up (lo x &&& lo y) := fun _ _ => rfl
  have r : ∀ x y, bB 114 x y = up (lo x ||| lo y) := fun _ _ => rfl
  have e : ∀ x y, bB 115 x y = up (lo x ^^^ lo y) := fun _ _ => rfl
  have l0 : lo 0#64 = 0 := rfl
  have l1 : lo 1#64 = 1 := rfl
  have lm : lo 18446744073709551615#64 = BitVec.allOnes 32 := rfl
  simp only [a, s, m, n, r, e, lo_up, l0, l1, lm]
  congr 1
  grind
theorem r106_3 (x y z : B64) : (((bB 108 x (bB 108 y z)).toNat : Int) != ((bB 108 (bB 108 x y) z).toNat : Int)) = false := by
  refine ne_false ?_
  have a : ∀ x y, bB 106 x y = up (lo x + lo y) := fun _ _ => rfl
  have s : ∀ x y, bB 107 x y = up (lo x - lo y) := fun _ _ => rfl
  have m : ∀ x y, bB 108 x y = up (lo x * lo y) := fun _ _ => rfl
  have n : ∀ x y, bB 113 x y = up (lo x &&& lo y) := fun _ _ => rfl
  have r : ∀ x y, bB 114 x y = up (lo x ||| lo y) := fun _ _ => rfl
  have e : ∀ x y, bB 115 x y = up (lo x ^^^ lo y) := fun _ _ => rfl
  have l0 : lo 0#64 = 0 := rfl
  have l1 : lo 1#64 = 1 := rfl
  have lm : lo 18446744073709551615#64 = BitVec.allOnes 32 := rfl
  simp only [a, s, m, n, r, e, lo_up, l0, l1, lm]
  congr 1
  grind
theorem r106_4 (x y z : B64) : (((bB 106 (bB 113 x y) (bB 114 x y)).toNat : Int) != ((bB 106 x y).toNat : Int)) = false := by
  refine ne_false ?_
  have a : ∀ x y, bB 106 x y = up (lo x + lo y) := fun _ _ => rfl
  have s : ∀ x y, bB 107 x y = up (lo x - lo y) := fun _ _ => rfl
  have m : ∀ x y, bB 108 x y = up (lo x * lo y) := fun _ _ => rfl
  have n : ∀ x y, bB 113 x y = up (lo x &&& lo y) := fun _ _ => rfl
  have r : ∀ x y, bB 114 x y = up (lo x ||| lo y) := fun _ _ => rfl
  have e : ∀ x y, bB 115 x y = up (lo x ^^^ lo y) := fun _ _ => rfl
  have l0 : lo 0#64 = 0 := rfl
  have l1 : lo 1#64 = 1 := rfl
  have lm : lo 18446744073709551615#64 = BitVec.allOnes 32 := rfl
  simp only [a, s, m, n, r, e, lo_up, l0, l1, lm]
  congr 1
  exact and_add_or _ _
theorem r106_5 (x y z : B64) : (((bB 107 (bB 114 x y) (bB 113 x y)).toNat : Int) != ((bB 115 x y).toNat : Int)) = false := by
  refine ne_false ?_
  have a : ∀ x y, bB 106 x y = up (lo x + lo y) := fun _ _ => rfl
  have s : ∀ x y, bB 107 x y = up (lo x - lo y) := fun _ _ => rfl
  have m : ∀ x y, bB 108 x y = up (lo x * lo y) := fun _ _ => rfl
  have n : ∀ x y, bB 113 x y = up (lo x &&& lo y) := fun _ _ => rfl
  have r : ∀ x y, bB 114 x y = up (lo x ||| lo y) := fun _ _ => rfl
  have e : ∀ x y, bB 115 x y = up (lo x ^^^ lo y) := fun _ _ => rfl
  have l0 : lo 0#64 = 0 := rfl
  have l1 : lo 1#64 = 1 := rfl
  have lm : lo 18446744073709551615#64 = BitVec.allOnes 32 := rfl
  simp only [a, s, m, n, r, e, lo_up, l0, l1, lm]
  congr 1
  exact or_sub_and _ _
theorem r106_6 (x y z : B64) : (((bB 115 (bB 115 x y) y).toNat : Int) != ((bB 106 x 0#64).toNat : Int)) = false := by
  refine ne_false ?_
  have a : ∀ x y, bB 106 x y = up (lo x + lo y) := fun _ _ => rfl
  have s : ∀ x y, bB 107 x y = up (lo x - lo y) := fun _ _ => rfl
  have m : ∀ x y, bB 108 x y = up (lo x * lo y) := fun _ _ => rfl
  have n : ∀ x y, bB 113 x y = up (lo x &&& lo y) := fun _ _ => rfl
  have r : ∀ x y, bB 114 x y = up (lo x ||| lo y) := fun _ _ => rfl
  have e : ∀ x y, bB 115 x y = up (lo x ^^^ lo y) := fun _ _ => rfl
  have l0 : lo 0#64 = 0 := rfl
  have l1 : lo 1#64 = 1 := rfl
  have lm : lo 18446744073709551615#64 = BitVec.allOnes 32 := rfl
  simp only [a, s, m, n, r, e, lo_up, l0, l1, lm]
  congr 1
  rw [xor_back]; grind
theorem r106_7 (x y z : B64) : (((bB 107 x y).toNat : Int) != ((bB 106 (bB 106 x (bB 115 y 18446744073709551615#64)) 1#64).toNat : Int)) = false := by
  refine ne_false ?_
  have a : ∀ x y, bB 106 x y = up (lo x + lo y) := fun _ _ => rfl
  have s : ∀ x y, bB 107 x y = up (lo x - lo y) := fun _ _ => rfl
  have m : ∀ x y, bB 108 x y = up (lo x * lo y) := fun _ _ => rfl
  have n : ∀ x y, bB 113 x y = up (lo x &&& lo y) := fun _ _ => rfl
  have r : ∀ x y, bB 114 x y = up (lo x ||| lo y) := fun _ _ => rfl
  have e : ∀ x y, bB 115 x y = up (lo x ^^^ lo y) := fun _ _ => rfl
  have l0 : lo 0#64 = 0 := rfl
  have l1 : lo 1#64 = 1 := rfl
  have lm : lo 18446744073709551615#64 = BitVec.allOnes 32 := rfl
  simp only [a, s, m, n, r, e, lo_up, l0, l1, lm]
  congr 1
  exact sub_not _ _
theorem r124_0 (x y z : B64) : (((bB 124 x y).toNat : Int) != ((bB 124 y x).toNat : Int)) = false := by
  refine ne_false ?_
  have a : ∀ x y, bB 124 x y = x + y := fun _ _ => rfl
  have s : ∀ x y, bB 125 x y = x - y := fun _ _ => rfl
  have m : ∀ x y, bB 126 x y = x * y := fun _ _ => rfl
  have n : ∀ x y, bB 131 x y = x &&& y := fun _ _ => rfl
  have r : ∀ x y, bB 132 x y = x ||| y := fun _ _ => rfl
  have e : ∀ x y, bB 133 x y = x ^^^ y := fun _ _ => rfl
  simp only [a, s, m, n, r, e]
  grind
theorem r124_1 (x y z : B64) : (((bB 125 (bB 124 x y) y).toNat : Int) != ((bB 124 x 0#64).toNat : Int)) = false := by
  refine ne_false ?_
  have a : ∀ x y, bB 124 x y = x + y := fun _ _ => rfl
  have s : ∀ x y, bB 125 x y = x - y := fun _ _ => rfl
  have m : ∀ x y, bB 126 x y = x * y := fun _ _ => rfl
  have n : ∀ x y, bB 131 x y = x &&& y := fun _ _ => rfl
  have r : ∀ x y, bB 132 x y = x ||| y := fun _ _ => rfl
  have e : ∀ x y, bB 133 x y = x ^^^ y := fun _ _ => rfl
  simp only [a, s, m, n, r, e]
  grind
theorem r124_2 (x y z : B64) : (((bB 126 x (bB 124 y z)).toNat : Int) != ((bB 124 (bB 126 x y) (bB 126 z x)).toNat : Int)) = false := by
  refine ne_false ?_
  have a : ∀ x y, bB 124 x y = x + y := fun _ _ => rfl
  have s : ∀ x y, bB 125 x y = x - y := fun _ _ => rfl
  have m : ∀ x y, bB 126 x y = x * y := fun _ _ => rfl
  have n : ∀ x y, bB 131 x y = x &&& y := fun _ _ => rfl
  have r : ∀ x y, bB 132 x y = x ||| y := fun _ _ => rfl
  have e : ∀ x y, bB 133 x y = x ^^^ y := fun _ _ => rfl
  simp only [a, s, m, n, r, e]
  grind
theorem r124_3 (x y z : B64) : (((bB 126 x (bB 126 y z)).toNat : Int) != ((bB 126 (bB 126 x y) z).toNat : Int)) = false := by
  refine ne_false ?_
  have a : ∀ x y, bB 124 x y = x + y := fun _ _ => rfl
  have s : ∀ x y, bB 125 x y = x - y := fun _ _ => rfl
  have m : ∀ x y, bB 126 x y = x * y := fun _ _ => rfl
  have n : ∀ x y, bB 131 x y = x &&& y := fun _ _ => rfl
  have r : ∀ x y, bB 132 x y = x ||| y := fun _ _ => rfl
  have e : ∀ x y, bB 133 x y = x ^^^ y := fun _ _ => rfl
  simp only [a, s, m, n, r, e]
  grind
theorem r124_4 (x y z : B64) : (((bB 124 (bB 131 x y) (bB 132 x y)).toNat : Int) != ((bB 124 x y).toNat : Int)) = false := by
  refine ne_false ?_
  have a : ∀ x y, bB 124 x y = x + y := fun _ _ => rfl
  have s : ∀ x y, bB 125 x y = x - y := fun _ _ => rfl
  have m : ∀ x y, bB 126 x y = x * y := fun _ _ => rfl
  have n : ∀ x y, bB 131 x y = x &&& y := fun _ _ => rfl
  have r : ∀ x y, bB 132 x y = x ||| y := fun _ _ => rfl
  have e : ∀ x y, bB 133 x y = x ^^^ y := fun _ _ => rfl
  simp only [a, s, m, n, r, e]
  exact and_add_or _ _
theorem r124_5 (x y z : B64) : (((bB 125 (bB 132 x y) (bB 131 x y)).toNat : Int) != ((bB 133 x y).toNat : Int)) = false := by
  refine ne_false ?_
  have a : ∀ x y, bB 124 x y = x + y := fun _ _ => rfl
  have s : ∀ x y, bB 125 x y = x - y := fun _ _ => rfl
  have m : ∀ x y, bB 126 x y = x * y := fun _ _ => rfl
  have n : ∀ x y, bB 131 x y = x &&& y := fun _ _ => rfl
  have r : ∀ x y, bB 132 x y = x ||| y := fun _ _ => rfl
  have e : ∀ x y, bB 133 x y = x ^^^ y := fun _ _ => rfl
  simp only [a, s, m, n, r, e]
  exact or_sub_and _ _
theorem r124_6 (x y z : B64) : (((bB 133 (bB 133 x y) y).toNat : Int) != ((bB 124 x 0#64).toNat : Int)) = false := by
  refine ne_false ?_
  have a : ∀ x y, bB 124 x y = x + y := fun _ _ => rfl
  have s : ∀ x y, bB 125 x y = x - y := fun _ _ => rfl
  have m : ∀ x y, bB 126 x y = x * y := fun _ _ => rfl
  have n : ∀ x y, bB 131 x y = x &&& y := fun _ _ => rfl
  have r : ∀ x y, bB 132 x y = x ||| y := fun _ _ => rfl
  have e : ∀ x y, bB 133 x y = x ^^^ y := fun _ _ => rfl
  simp only [a, s, m, n, r, e]
  rw [xor_back]; grind
theorem r124_7 (x y z : B64) : (((bB 125 x y).toNat : Int) != ((bB 124 (bB 124 x (bB 133 y 18446744073709551615#64)) 1#64).toNat : Int)) = false := by
  refine ne_false ?_
  have a : ∀ x y, bB 124 x y = x + y := fun _ _ => rfl
  have s : ∀ x y, bB 125 x y = x - y := fun _ _ => rfl
  have m : ∀ x y, bB 126 x y = x * y := fun _ _ => rfl
  have n : ∀ x y, bB 131 x y = x &&& y := fun _ _ => rfl
  have r : ∀ x y, bB 132 x y = x ||| y := fun _ _ => rfl
  have e : ∀ x y, bB 133 x y = x ^^^ y := fun _ _ => rfl
  simp only [a, s, m, n, r, e]
  exact sub_not _ _
theorem mul3 (x : B64) : (((bB 126 x 3#64).toNat : Int) == IntKind.u64.wrap (IntKind.u64.wrap ((x.toNat : Int) + (x.toNat : Int)) + (x.toNat : Int))) = true := by
  have e : IntKind.u64.wrap (IntKind.u64.wrap ((x.toNat : Int) + (x.toNat : Int)) + (x.toNat : Int)) = (((x + x + x).toNat : Nat) : Int) := by
    rw [IntKind.wrap_u64, IntKind.wrap_u64, BitVec.toNat_add, BitVec.toNat_add]; omega
  rw [e]
  refine eq_true' ?_
  show x * 3#64 = _
  grind
theorem mul2 (x : B64) : (((bB 108 x 2#64).toNat : Int) == ((bB 116 x 1#64).toNat : Int)) = true := by
  refine eq_true' ?_
  show up (lo x * lo 2#64) = up (lo x <<< ((lo 1#64).toNat % 32))
  rw [show lo 2#64 = 2#32 from rfl, show (lo 1#64).toNat % 32 = 1 from rfl]
  congr 1
  rw [BitVec.shiftLeft_eq_mul_twoPow]; rfl

set_option maxHeartbeats 4000000 in
set_option maxRecDepth 100000 in
theorem ring_walk (x y z : B64) (w : World) : Calls Tryd.prog 9 #[.int .u64 (x.toNat : Int), .int .u64 (y.toNat : Int), .int .u64 (z.toNat : Int)] w fun e w' => e = .returned (.bool true) ∧ w' = w := by
  have g106_0 := r106_0 x y z
  have g106_1 := r106_1 x y z
  have g106_2 := r106_2 x y z
  have g106_3 := r106_3 x y z
  have g106_4 := r106_4 x y z
  have g106_5 := r106_5 x y z
  have g106_6 := r106_6 x y z
  have g106_7 := r106_7 x y z
  have g124_0 := r124_0 x y z
  have g124_1 := r124_1 x y z
  have g124_2 := r124_2 x y z
  have g124_3 := r124_3 x y z
  have g124_4 := r124_4 x y z
  have g124_5 := r124_5 x y z
  have g124_6 := r124_6 x y z
  have g124_7 := r124_7 x y z
  have g3 := mul3 x
  have g2 := mul2 x
  go_enter Tryd.func9, Tryd.ntmps9
  go_wp2_with (first | (go_at_call 10; refine (awake_any _).mono ?_; rintro e w' ⟨rfl, rfl⟩) | (go_at_call 15; (with_reducible refine (lbin_any _ _ _ _ _ _ rfl rfl (by decide)).mono ?_); rintro e w' ⟨rfl, rfl⟩) | (go_at_call 15; (with_reducible refine (lbin_any _ _ _ _ _ _ rfl lit_0 (by decide)).mono ?_); rintro e w' ⟨rfl, rfl⟩) | (go_at_call 15; (with_reducible refine (lbin_any _ _ _ _ _ _ rfl lit_1 (by decide)).mono ?_); rintro e w' ⟨rfl, rfl⟩) | (go_at_call 15; (with_reducible refine (lbin_any _ _ _ _ _ _ rfl lit_2 (by decide)).mono ?_); rintro e w' ⟨rfl, rfl⟩) | (go_at_call 15; (with_reducible refine (lbin_any _ _ _ _ _ _ rfl lit_3 (by decide)).mono ?_); rintro e w' ⟨rfl, rfl⟩) | (go_at_call 15; (with_reducible refine (lbin_any _ _ _ _ _ _ rfl lit_m (by decide)).mono ?_); rintro e w' ⟨rfl, rfl⟩))
  refine wp_loop_rounds 3 ?_
  rw [rounds_succ]
  go_wp2_with (first | (go_at_call 10; refine (awake_any _).mono ?_; rintro e w' ⟨rfl, rfl⟩) | (go_at_call 15; (with_reducible refine (lbin_any _ _ _ _ _ _ rfl rfl (by decide)).mono ?_); rintro e w' ⟨rfl, rfl⟩) | (go_at_call 15; (with_reducible refine (lbin_any _ _ _ _ _ _ rfl lit_0 (by decide)).mono ?_); rintro e w' ⟨rfl, rfl⟩) | (go_at_call 15; (with_reducible refine (lbin_any _ _ _ _ _ _ rfl lit_1 (by decide)).mono ?_); rintro e w' ⟨rfl, rfl⟩) | (go_at_call 15; (with_reducible refine (lbin_any _ _ _ _ _ _ rfl lit_2 (by decide)).mono ?_); rintro e w' ⟨rfl, rfl⟩) | (go_at_call 15; (with_reducible refine (lbin_any _ _ _ _ _ _ rfl lit_3 (by decide)).mono ?_); rintro e w' ⟨rfl, rfl⟩) | (go_at_call 15; (with_reducible refine (lbin_any _ _ _ _ _ _ rfl lit_m (by decide)).mono ?_); rintro e w' ⟨rfl, rfl⟩))
  rw [rounds_succ]
  go_wp2_with (first | (go_at_call 10; refine (awake_any _).mono ?_; rintro e w' ⟨rfl, rfl⟩) | (go_at_call 15; (with_reducible refine (lbin_any _ _ _ _ _ _ rfl rfl (by decide)).mono ?_); rintro e w' ⟨rfl, rfl⟩) | (go_at_call 15; (with_reducible refine (lbin_any _ _ _ _ _ _ rfl lit_0 (by decide)).mono ?_); rintro e w' ⟨rfl, rfl⟩) | (go_at_call 15; (with_reducible refine (lbin_any _ _ _ _ _ _ rfl lit_1 (by decide)).mono ?_); rintro e w' ⟨rfl, rfl⟩) | (go_at_call 15; (with_reducible refine (lbin_any _ _ _ _ _ _ rfl lit_2 (by decide)).mono ?_); rintro e w' ⟨rfl, rfl⟩) | (go_at_call 15; (with_reducible refine (lbin_any _ _ _ _ _ _ rfl lit_3 (by decide)).mono ?_); rintro e w' ⟨rfl, rfl⟩) | (go_at_call 15; (with_reducible refine (lbin_any _ _ _ _ _ _ rfl lit_m (by decide)).mono ?_); rintro e w' ⟨rfl, rfl⟩))
  rw [rounds_succ]
  go_wp2_with (first | (go_at_call 10; refine (awake_any _).mono ?_; rintro e w' ⟨rfl, rfl⟩) | (go_at_call 15; (with_reducible refine (lbin_any _ _ _ _ _ _ rfl rfl (by decide)).mono ?_); rintro e w' ⟨rfl, rfl⟩) | (go_at_call 15; (with_reducible refine (lbin_any _ _ _ _ _ _ rfl lit_0 (by decide)).mono ?_); rintro e w' ⟨rfl, rfl⟩) | (go_at_call 15; (with_reducible refine (lbin_any _ _ _ _ _ _ rfl lit_1 (by decide)).mono ?_); rintro e w' ⟨rfl, rfl⟩) | (go_at_call 15; (with_reducible refine (lbin_any _ _ _ _ _ _ rfl lit_2 (by decide)).mono ?_); rintro e w' ⟨rfl, rfl⟩) | (go_at_call 15; (with_reducible refine (lbin_any _ _ _ _ _ _ rfl lit_3 (by decide)).mono ?_); rintro e w' ⟨rfl, rfl⟩) | (go_at_call 15; (with_reducible refine (lbin_any _ _ _ _ _ _ rfl lit_m (by decide)).mono ?_); rintro e w' ⟨rfl, rfl⟩))
  go_ret
  exact ⟨rfl, rfl⟩

end Go.Proofs.YtllffbdcpilioaaDoor
