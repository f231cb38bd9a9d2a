/-
  compare.Test.
-/
import Derived.Test.YtcpfabkokgiepaaCmpC
import Derived.Test.YtcpfabkokgiepaaEq
set_option linter.unusedSimpArgs false
set_option linter.unusedVariables false
namespace Go.Proofs.Ytcpfabkokgiepaa
open Go.RowKit Pl
set_option linter.unusedVariables false

end Go.Proofs.Ytcpfabkokgiepaa
namespace Pl
/-- Bit i of the mask: is lane i below 0? -/
def mskR (w : Nat) (v : Vec) : Nat → Nat
  | 0 => 0
  | i + 1 => if sgn w (getN v w i) < 0 then mskR w v i ||| 2 ^ i else mskR w v i
/-- 1, where none of the first lanes is 0. -/
def allR (w : Nat) (v : Vec) : Nat → Nat
  | 0 => 1
  | i + 1 => if getN v w i = 0 then 0 else allR w v i
theorem mskR_lt (w : Nat) (v : Vec) : ∀ i, mskR w v i < 2 ^ i
  | 0 => Nat.one_pos
  | i + 1 => by
    have h := mskR_lt w v i
    unfold mskR
    split
    · exact Nat.or_lt_two_pow (Nat.lt_trans h (Nat.pow_lt_pow_right (by decide) (by omega))) (Nat.pow_lt_pow_right (by decide) (by omega))
    · exact Nat.lt_trans h (Nat.pow_lt_pow_right (by decide) (by omega))
end Pl
namespace Go.Proofs.Ytcpfabkokgiepaa
open Go.RowKit Pl
/-- World u is w0 but for new blocks; the first holds v. -/
structure H1 (w0 : World) (v : Vec) (u : World) : Prop where
  bel : Below w0.heap.size w0 u
  fst : u.heap[w0.heap.size]? = some (.cells (cells v) 45 (0, 0))
theorem H1.below {w0 u u1 : World} {v : Vec} (h : H1 w0 v u) (hb : Below u.heap.size u u1) : H1 w0 v u1 :=
  ⟨h.bel.trans (hb.mono (by have := block_lt h.fst; omega)), blk_keep h.fst hb⟩
theorem H1.drew {w0 u : World} {v : Vec} (h : H1 w0 v u) : H1 w0 v u.drew := ⟨h.bel.drew, h.fst⟩
theorem H1.start (v : Vec) (w : World) : H1 w v (w.alloc (.cells (cells v) 45)) := ⟨(Below.refl _ _).alloc (Nat.le_refl _) _, heap_alloc_new _ _⟩
theorem msk_step (w : Nat) (v : Vec) (i : Nat) (hi : i < 16) (h : sgn w (getN v w i) < 0) : bits .or .u32 (mskR w v i : Int) ((2 : Int) ^ i % 4294967296) = ((mskR w v (i + 1) : Nat) : Int) := by
  have h1 := mskR_lt w v i
  have h2 : 2 ^ i < 2 ^ 16 := Nat.pow_lt_pow_right (by decide) hi
  have e : (2 : Int) ^ i % 4294967296 = ((2 ^ i : Nat) : Int) := by
    rw [show (2 : Int) ^ i = ((2 ^ i : Nat) : Int) by simp]
    generalize 2 ^ i = p at *
    rw [show (2 : Nat) ^ 16 = 65536 from rfl] at h2
    omega
  rw [e, u32_or_nat _ _ (by omega) (by omega), mskR, if_pos h]


set_option maxRecDepth 100000 in
set_option maxHeartbeats 2000000 in
theorem test_w8 (op κ : Int) (v : Vec) (w : World) (hκ : IntKind.i64.wrap (op - 64768) = κ) (h1 : κ = 99 ∨ κ = 100) :
    Calls Try.prog 28 #[.int .i64 op, .agg (cells v)] w fun e w' => e = .returned (.tuple #[.int .u32 (if κ = 99 then (allR 8 v 16 : Int) else (mskR 8 v 16 : Int)), .int .i64 0]) ∧ Below w.heap.size w w' := by
  rcases h1 with rfl | rfl
  all_goals
    go_enter Try.func28, Try.ntmps28
    go_wp2_with (first | (go_at_call 50; ((with_reducible refine (lanes8 _).mono ?_); rintro e w' ⟨rfl, rfl⟩)))
    go_loopw [8, 9, 40] (fun m al j wr => ∃ i : Nat, i ≤ 16 ∧ j = .int .i64 i ∧ m = .int .u32 (mskR 8 v i : Int) ∧ al = .int .u32 (allR 8 v i : Int) ∧ H1 w v wr) (fun _ _ j _ => 16 - (intOf j).toNat)
    case atStart => exact ⟨0, Nat.zero_le _, rfl, rfl, rfl, H1.start v w⟩
    case round =>
      obtain ⟨i, hi, rfl, rfl, rfl, hs⟩ := hrel
      by_cases hlt : i < 16
      · by_cases hn : sgn 8 (getN v 8 i) < 0 <;> by_cases hz : getN v 8 i = 0
        · exfalso; rw [hz] at hn; exact absurd hn (by decide)
        · have em := Lib.hid (msk_step 8 v i (by omega) hn)
          have t1 : (((getN v 8 i : Nat) : Int) == 0) = false := by rw [beq_eq_false_iff_ne]; omega
          have ea := Lib.hid (show allR 8 v (i + 1) = allR 8 v i from if_neg hz)
          clear hz
          go_wp2_with (first | (with_reducible refine load_vec rfl _ rfl _ rfl _ hs.fst ?_) | (go_at_call 53; (with_reducible refine (signed8z v _ i _ rfl (by omega)).mono ?_); rintro e u ⟨rfl, hb⟩; replace hs := hs.below hb; clear hb) | (go_at_call 51; (with_reducible refine (get8z v _ i _ rfl (by omega)).mono ?_); rintro e u ⟨rfl, hb⟩; replace hs := hs.below hb; clear hb))
          go_roundw
          case rel => exact ⟨i + 1, by omega, by go_num, congrArg (Value.int IntKind.u32) em.out, by rw [ea.out], hs⟩
          case measure => (simp [intOf] <;> omega)
        · have em := Lib.hid (show mskR 8 v (i + 1) = mskR 8 v i from if_neg hn)
          have t1 : (((getN v 8 i : Nat) : Int) == 0) = true := by rw [beq_iff_eq]; omega
          have ea := Lib.hid (show allR 8 v (i + 1) = 0 from if_pos hz)
          clear hz
          go_wp2_with (first | (with_reducible refine load_vec rfl _ rfl _ rfl _ hs.fst ?_) | (go_at_call 53; (with_reducible refine (signed8z v _ i _ rfl (by omega)).mono ?_); rintro e u ⟨rfl, hb⟩; replace hs := hs.below hb; clear hb) | (go_at_call 51; (with_reducible refine (get8z v _ i _ rfl (by omega)).mono ?_); rintro e u ⟨rfl, hb⟩; replace hs := hs.below hb; clear hb))
          go_roundw
          case rel => exact ⟨i + 1, by omega, by go_num, by rw [em.out], by rw [ea.out]; rfl, hs⟩
          case measure => (simp [intOf] <;> omega)
        · have em := Lib.hid (show mskR 8 v (i + 1) = mskR 8 v i from if_neg hn)
          have t1 : (((getN v 8 i : Nat) : Int) == 0) = false := by rw [beq_eq_false_iff_ne]; omega
          have ea := Lib.hid (show allR 8 v (i + 1) = allR 8 v i from if_neg hz)
          clear hz
          go_wp2_with (first | (with_reducible refine load_vec rfl _ rfl _ rfl _ hs.fst ?_) | (go_at_call 53; (with_reducible refine (signed8z v _ i _ rfl (by omega)).mono ?_); rintro e u ⟨rfl, hb⟩; replace hs := hs.below hb; clear hb) | (go_at_call 51; (with_reducible refine (get8z v _ i _ rfl (by omega)).mono ?_); rintro e u ⟨rfl, hb⟩; replace hs := hs.below hb; clear hb))
          go_roundw
          case rel => exact ⟨i + 1, by omega, by go_num, by rw [em.out], by rw [ea.out], hs⟩
          case measure => (simp [intOf] <;> omega)
      · obtain rfl : i = 16 := by omega
        go_wp2_with fail
        go_ret2
        exact ⟨rfl, hs.bel⟩


set_option maxRecDepth 100000 in
set_option maxHeartbeats 2000000 in
theorem test_w16 (op κ : Int) (v : Vec) (w : World) (hκ : IntKind.i64.wrap (op - 64768) = κ) (h1 : κ = 131 ∨ κ = 132) :
    Calls Try.prog 28 #[.int .i64 op, .agg (cells v)] w fun e w' => e = .returned (.tuple #[.int .u32 (if κ = 131 then (allR 16 v 8 : Int) else (mskR 16 v 8 : Int)), .int .i64 0]) ∧ Below w.heap.size w w' := by
  rcases h1 with rfl | rfl
  all_goals
    go_enter Try.func28, Try.ntmps28
    go_wp2_with (first | (go_at_call 50; ((with_reducible refine (lanes16 _).mono ?_); rintro e w' ⟨rfl, rfl⟩)))
    go_loopw [8, 9, 40] (fun m al j wr => ∃ i : Nat, i ≤ 8 ∧ j = .int .i64 i ∧ m = .int .u32 (mskR 16 v i : Int) ∧ al = .int .u32 (allR 16 v i : Int) ∧ H1 w v wr) (fun _ _ j _ => 8 - (intOf j).toNat)
    case atStart => exact ⟨0, Nat.zero_le _, rfl, rfl, rfl, H1.start v w⟩
    case round =>
      obtain ⟨i, hi, rfl, rfl, rfl, hs⟩ := hrel
      by_cases hlt : i < 8
      · by_cases hn : sgn 16 (getN v 16 i) < 0 <;> by_cases hz : getN v 16 i = 0
        · exfalso; rw [hz] at hn; exact absurd hn (by decide)
        · have em := Lib.hid (msk_step 16 v i (by omega) hn)
          have t1 : (((getN v 16 i : Nat) : Int) == 0) = false := by rw [beq_eq_false_iff_ne]; omega
          have ea := Lib.hid (show allR 16 v (i + 1) = allR 16 v i from if_neg hz)
          clear hz
          go_wp2_with (first | (with_reducible refine load_vec rfl _ rfl _ rfl _ hs.fst ?_) | (go_at_call 53; (with_reducible refine (signed16z v _ i _ rfl (by omega)).mono ?_); rintro e u ⟨rfl, hb⟩; replace hs := hs.below hb; clear hb) | (go_at_call 51; (with_reducible refine (get16z v _ i _ rfl (by omega)).mono ?_); rintro e u ⟨rfl, hb⟩; replace hs := hs.below hb; clear hb))
          go_roundw
          case rel => exact ⟨i + 1, by omega, by go_num, congrArg (Value.int IntKind.u32) em.out, by rw [ea.out], hs⟩
          case measure => (simp [intOf] <;> omega)
        · have em := Lib.hid (show mskR 16 v (i + 1) = mskR 16 v i from if_neg hn)
          have t1 : (((getN v 16 i : Nat) : Int) == 0) = true := by rw [beq_iff_eq]; omega
          have ea := Lib.hid (show allR 16 v (i + 1) = 0 from if_pos hz)
          clear hz
          go_wp2_with (first | (with_reducible refine load_vec rfl _ rfl _ rfl _ hs.fst ?_) | (go_at_call 53; (with_reducible refine (signed16z v _ i _ rfl (by omega)).mono ?_); rintro e u ⟨rfl, hb⟩; replace hs := hs.below hb; clear hb) | (go_at_call 51; (with_reducible refine (get16z v _ i _ rfl (by omega)).mono ?_); rintro e u ⟨rfl, hb⟩; replace hs := hs.below hb; clear hb))
          go_roundw
          case rel => exact ⟨i + 1, by omega, by go_num, by rw [em.out], by rw [ea.out]; rfl, hs⟩
          case measure => (simp [intOf] <;> omega)
        · have em := Lib.hid (show mskR 16 v (i + 1) = mskR 16 v i from if_neg hn)
          have t1 : (((getN v 16 i : Nat) : Int) == 0) = false := by rw [beq_eq_false_iff_ne]; omega
          have ea := Lib.hid (show allR 16 v (i + 1) = allR 16 v i from if_neg hz)
          clear hz
          go_wp2_with (first | (with_reducible refine load_vec rfl _ rfl _ rfl _ hs.fst ?_) | (go_at_call 53; (with_reducible refine (signed16z v _ i _ rfl (by omega)).mono ?_); rintro e u ⟨rfl, hb⟩; replace hs := hs.below hb; clear hb) | (go_at_call 51; (with_reducible refine (get16z v _ i _ rfl (by omega)).mono ?_); rintro e u ⟨rfl, hb⟩; replace hs := hs.below hb; clear hb))
          go_roundw
          case rel => exact ⟨i + 1, by omega, by go_num, by rw [em.out], by rw [ea.out], hs⟩
          case measure => (simp [intOf] <;> omega)
      · obtain rfl : i = 8 := by omega
        go_wp2_with fail
        go_ret2
        exact ⟨rfl, hs.bel⟩


set_option maxRecDepth 100000 in
set_option maxHeartbeats 2000000 in
theorem test_w32 (op κ : Int) (v : Vec) (w : World) (hκ : IntKind.i64.wrap (op - 64768) = κ) (h1 : κ = 163 ∨ κ = 164) :
    Calls Try.prog 28 #[.int .i64 op, .agg (cells v)] w fun e w' => e = .returned (.tuple #[.int .u32 (if κ = 163 then (allR 32 v 4 : Int) else (mskR 32 v 4 : Int)), .int .i64 0]) ∧ Below w.heap.size w w' := by
  rcases h1 with rfl | rfl
  all_goals
    go_enter Try.func28, Try.ntmps28
    go_wp2_with (first | (go_at_call 50; ((with_reducible refine (lanes32 _).mono ?_); rintro e w' ⟨rfl, rfl⟩)))
    go_loopw [8, 9, 40] (fun m al j wr => ∃ i : Nat, i ≤ 4 ∧ j = .int .i64 i ∧ m = .int .u32 (mskR 32 v i : Int) ∧ al = .int .u32 (allR 32 v i : Int) ∧ H1 w v wr) (fun _ _ j _ => 4 - (intOf j).toNat)
    case atStart => exact ⟨0, Nat.zero_le _, rfl, rfl, rfl, H1.start v w⟩
    case round =>
      obtain ⟨i, hi, rfl, rfl, rfl, hs⟩ := hrel
      by_cases hlt : i < 4
      · by_cases hn : sgn 32 (getN v 32 i) < 0 <;> by_cases hz : getN v 32 i = 0
        · exfalso; rw [hz] at hn; exact absurd hn (by decide)
        · have em := Lib.hid (msk_step 32 v i (by omega) hn)
          have t1 : (((getN v 32 i : Nat) : Int) == 0) = false := by rw [beq_eq_false_iff_ne]; omega
          have ea := Lib.hid (show allR 32 v (i + 1) = allR 32 v i from if_neg hz)
          clear hz
          go_wp2_with (first | (with_reducible refine load_vec rfl _ rfl _ rfl _ hs.fst ?_) | (go_at_call 53; (with_reducible refine (signed32z v _ i _ rfl (by omega)).mono ?_); rintro e u ⟨rfl, hb⟩; replace hs := hs.below hb; clear hb) | (go_at_call 51; (with_reducible refine (get32z v _ i _ rfl (by omega)).mono ?_); rintro e u ⟨rfl, hb⟩; replace hs := hs.below hb; clear hb))
          go_roundw
          case rel => exact ⟨i + 1, by omega, by go_num, congrArg (Value.int IntKind.u32) em.out, by rw [ea.out], hs⟩
          case measure => (simp [intOf] <;> omega)
        · have em := Lib.hid (show mskR 32 v (i + 1) = mskR 32 v i from if_neg hn)
          have t1 : (((getN v 32 i : Nat) : Int) == 0) = true := by rw [beq_iff_eq]; omega
          have ea := Lib.hid (show allR 32 v (i + 1) = 0 from if_pos hz)
          clear hz
          go_wp2_with (first | (with_reducible refine load_vec rfl _ rfl _ rfl _ hs.fst ?_) | (go_at_call 53; (with_reducible refine (signed32z v _ i _ rfl (by omega)).mono ?_); rintro e u ⟨rfl, hb⟩; replace hs := hs.below hb; clear hb) | (go_at_call 51; (with_reducible refine (get32z v _ i _ rfl (by omega)).mono ?_); rintro e u ⟨rfl, hb⟩; replace hs := hs.below hb; clear hb))
          go_roundw
          case rel => exact ⟨i + 1, by omega, by go_num, by rw [em.out], by rw [ea.out]; rfl, hs⟩
          case measure => (simp [intOf] <;> omega)
        · have em := Lib.hid (show mskR 32 v (i + 1) = mskR 32 v i from if_neg hn)
          have t1 : (((getN v 32 i : Nat) : Int) == 0) = false := by rw [beq_eq_false_iff_ne]; omega
          have ea := Lib.hid (show allR 32 v (i + 1) = allR 32 v i from if_neg hz)
          clear hz
          go_wp2_with (first | (with_reducible refine load_vec rfl _ rfl _ rfl _ hs.fst ?_) | (go_at_call 53; (with_reducible refine (signed32z v _ i _ rfl (by omega)).mono ?_); rintro e u ⟨rfl, hb⟩; replace hs := hs.below hb; clear hb) | (go_at_call 51; (with_reducible refine (get32z v _ i _ rfl (by omega)).mono ?_); rintro e u ⟨rfl, hb⟩; replace hs := hs.below hb; clear hb))
          go_roundw
          case rel => exact ⟨i + 1, by omega, by go_num, by rw [em.out], by rw [ea.out], hs⟩
          case measure => (simp [intOf] <;> omega)
      · obtain rfl : i = 4 := by omega
        go_wp2_with fail
        go_ret2
        exact ⟨rfl, hs.bel⟩


set_option maxRecDepth 100000 in
set_option maxHeartbeats 2000000 in
theorem test_w64 (op κ : Int) (v : Vec) (w : World) (hκ : IntKind.i64.wrap (op - 64768) = κ) (h1 : κ = 195 ∨ κ = 196) :
    Calls Try.prog 28 #[.int .i64 op, .agg (cells v)] w fun e w' => e = .returned (.tuple #[.int .u32 (if κ = 195 then (allR 64 v 2 : Int) else (mskR 64 v 2 : Int)), .int .i64 0]) ∧ Below w.heap.size w w' := by
  rcases h1 with rfl | rfl
  all_goals
    go_enter Try.func28, Try.ntmps28
    go_wp2_with (first | (go_at_call 50; ((with_reducible refine (lanes64 _).mono ?_); rintro e w' ⟨rfl, rfl⟩)))
    go_loopw [8, 9, 40] (fun m al j wr => ∃ i : Nat, i ≤ 2 ∧ j = .int .i64 i ∧ m = .int .u32 (mskR 64 v i : Int) ∧ al = .int .u32 (allR 64 v i : Int) ∧ H1 w v wr) (fun _ _ j _ => 2 - (intOf j).toNat)
    case atStart => exact ⟨0, Nat.zero_le _, rfl, rfl, rfl, H1.start v w⟩
    case round =>
      obtain ⟨i, hi, rfl, rfl, rfl, hs⟩ := hrel
      by_cases hlt : i < 2
      · by_cases hn : sgn 64 (getN v 64 i) < 0 <;> by_cases hz : getN v 64 i = 0
        · exfalso; rw [hz] at hn; exact absurd hn (by decide)
        · have em := Lib.hid (msk_step 64 v i (by omega) hn)
          have t1 : (((getN v 64 i : Nat) : Int) == 0) = false := by rw [beq_eq_false_iff_ne]; omega
          have ea := Lib.hid (show allR 64 v (i + 1) = allR 64 v i from if_neg hz)
          clear hz
          go_wp2_with (first | (with_reducible refine load_vec rfl _ rfl _ rfl _ hs.fst ?_) | (go_at_call 53; (with_reducible refine (signed64z v _ i _ rfl (by omega)).mono ?_); rintro e u ⟨rfl, hb⟩; replace hs := hs.below hb; clear hb) | (go_at_call 51; (with_reducible refine (get64z v _ i _ rfl (by omega)).mono ?_); rintro e u ⟨rfl, hb⟩; replace hs := hs.below hb; clear hb))
          go_roundw
          case rel => exact ⟨i + 1, by omega, by go_num, congrArg (Value.int IntKind.u32) em.out, by rw [ea.out], hs⟩
          case measure => (simp [intOf] <;> omega)
        · have em := Lib.hid (show mskR 64 v (i + 1) = mskR 64 v i from if_neg hn)
          have t1 : (((getN v 64 i : Nat) : Int) == 0) = true := by rw [beq_iff_eq]; omega
          have ea := Lib.hid (show allR 64 v (i + 1) = 0 from if_pos hz)
          clear hz
          go_wp2_with (first | (with_reducible refine load_vec rfl _ rfl _ rfl _ hs.fst ?_) | (go_at_call 53; (with_reducible refine (signed64z v _ i _ rfl (by omega)).mono ?_); rintro e u ⟨rfl, hb⟩; replace hs := hs.below hb; clear hb) | (go_at_call 51; (with_reducible refine (get64z v _ i _ rfl (by omega)).mono ?_); rintro e u ⟨rfl, hb⟩; replace hs := hs.below hb; clear hb))
          go_roundw
          case rel => exact ⟨i + 1, by omega, by go_num, by rw [em.out], by rw [ea.out]; rfl, hs⟩
          case measure => (simp [intOf] <;> omega)
        · have em := Lib.hid (show mskR 64 v (i + 1) = mskR 64 v i from if_neg hn)
          have t1 : (((getN v 64 i : Nat) : Int) == 0) = false := by rw [beq_eq_false_iff_ne]; omega
          have ea := Lib.hid (show allR 64 v (i + 1) = allR 64 v i from if_neg hz)
          clear hz
          go_wp2_with (first | (with_reducible refine load_vec rfl _ rfl _ rfl _ hs.fst ?_) | (go_at_call 53; (with_reducible refine (signed64z v _ i _ rfl (by omega)).mono ?_); rintro e u ⟨rfl, hb⟩; replace hs := hs.below hb; clear hb) | (go_at_call 51; (with_reducible refine (get64z v _ i _ rfl (by omega)).mono ?_); rintro e u ⟨rfl, hb⟩; replace hs := hs.below hb; clear hb))
          go_roundw
          case rel => exact ⟨i + 1, by omega, by go_num, by rw [em.out], by rw [ea.out], hs⟩
          case measure => (simp [intOf] <;> omega)
      · obtain rfl : i = 2 := by omega
        go_wp2_with fail
        go_ret2
        exact ⟨rfl, hs.bel⟩


theorem ret_u32p {a b : Int} (h : a = b) (e : Int) : Ending.returned (.tuple #[.int .u32 a, .int .i64 e]) = .returned (.tuple #[.int .u32 b, .int .i64 e]) := by rw [h]
theorem test_any1 (v : Vec) (w : World) :
    Calls Try.prog 28 #[.int .i64 64851, .agg (cells v)] w fun e w' => e = .returned (.tuple #[.int .u32 (if v = 0 then 0 else 1), .int .i64 0]) ∧ Below w.heap.size w w' := by
  by_cases hv : v = 0
  · have hE := equal_vec v 0
    rw [decide_eq_true hv, cells_zero] at hE
    rw [if_pos hv]
    clear hv
    go_enter Try.func28, Try.ntmps28
    go_wp2_with (with_reducible refine load_vec rfl _ rfl _ rfl v (heap_alloc_new _ _) ?_)
    go_ret2
    exact ⟨rfl, (Below.refl _ _).alloc (Nat.le_refl _) _⟩
  · have hE := equal_vec v 0
    rw [decide_eq_false hv, cells_zero] at hE
    rw [if_neg hv]
    clear hv
    go_enter Try.func28, Try.ntmps28
    go_wp2_with (with_reducible refine load_vec rfl _ rfl _ rfl v (heap_alloc_new _ _) ?_)
    go_ret2
    exact ⟨rfl, (Below.refl _ _).alloc (Nat.le_refl _) _⟩
theorem test_none (op κ : Int) (v : Vec) (w : World) (hκ : IntKind.i64.wrap (op - 64768) = κ) (h0 : κ ≠ 83) (h : κ < 99 ∨ 196 < κ ∨ 99 ≤ κ ∧ κ ≤ 196 ∧ κ % 32 ≠ 3 ∧ κ % 32 ≠ 4) :
    Calls Try.prog 28 #[.int .i64 op, .agg (cells v)] w fun e w' => e = .returned (.tuple #[.int .u32 0, .int .i64 1]) ∧ Below w.heap.size w w' := by
  have t0 : (κ == 83) = false := beq_eq_false_iff_ne.2 h0
  clear h0
  rcases h with h | h | ⟨h1, h2, h3, h4⟩
  · go_enter Try.func28, Try.ntmps28
    go_wp2_with fail
    go_ret2
    exact ⟨rfl, (Below.refl _ _).alloc (Nat.le_refl _) _⟩
  · go_enter Try.func28, Try.ntmps28
    go_wp2_with fail
    go_ret2
    exact ⟨rfl, (Below.refl _ _).alloc (Nat.le_refl _) _⟩
  · have t3 : (κ % 32 != 3) = true := by simpa using h3
    have t4 : (κ % 32 != 4) = true := by simpa using h4
    clear h3 h4
    go_enter Try.func28, Try.ntmps28
    go_wp2_with fail
    go_ret2
    exact ⟨rfl, (Below.refl _ _).alloc (Nat.le_refl _) _⟩
end Go.Proofs.Ytcpfabkokgiepaa
namespace Pl
/-- Tests of a vector: the result and the error's number. -/
def testV (op : Int) (v : Vec) : Int × Int :=
  if op = 64851 then (if v = 0 then 0 else 1, 0)
  else if op = 64867 then ((allR 8 v 16 : Int), 0) else if op = 64868 then ((mskR 8 v 16 : Int), 0)
  else if op = 64899 then ((allR 16 v 8 : Int), 0) else if op = 64900 then ((mskR 16 v 8 : Int), 0)
  else if op = 64931 then ((allR 32 v 4 : Int), 0) else if op = 64932 then ((mskR 32 v 4 : Int), 0)
  else if op = 64963 then ((allR 64 v 2 : Int), 0) else if op = 64964 then ((mskR 64 v 2 : Int), 0)
  else (0, 1)
end Pl
namespace Go.Proofs.Ytcpfabkokgiepaa
open Go.RowKit Pl
theorem test_any (op : Int) (v : Vec) (w : World) (ho : -9223372036854775808 ≤ op ∧ op ≤ 9223372036854775807) :
    Calls Try.prog 28 #[.int .i64 op, .agg (cells v)] w fun e w' => e = .returned (.tuple #[.int .u32 (testV op v).1, .int .i64 (testV op v).2]) ∧ Below w.heap.size w w' := by
  unfold testV
  split
  · rename_i h; subst h; exact test_any1 v w
  split
  · rename_i h; subst h; exact test_w8 64867 99 v w (IntWalk.i64_in _ (by decide)) (by decide)
  split
  · rename_i h; subst h; exact test_w8 64868 100 v w (IntWalk.i64_in _ (by decide)) (by decide)
  split
  · rename_i h; subst h; exact test_w16 64899 131 v w (IntWalk.i64_in _ (by decide)) (by decide)
  split
  · rename_i h; subst h; exact test_w16 64900 132 v w (IntWalk.i64_in _ (by decide)) (by decide)
  split
  · rename_i h; subst h; exact test_w32 64931 163 v w (IntWalk.i64_in _ (by decide)) (by decide)
  split
  · rename_i h; subst h; exact test_w32 64932 164 v w (IntWalk.i64_in _ (by decide)) (by decide)
  split
  · rename_i h; subst h; exact test_w64 64963 195 v w (IntWalk.i64_in _ (by decide)) (by decide)
  split
  · rename_i h; subst h; exact test_w64 64964 196 v w (IntWalk.i64_in _ (by decide)) (by decide)
  · exact test_none op _ v w rfl (by rw [IntKind.wrap_i64]; omega) (by rw [IntKind.wrap_i64]; omega)

end Go.Proofs.Ytcpfabkokgiepaa
