/-
  Texts CmpRT, CmpRA.
-/
import Derived.Test.YtcpfabkokgiepaaQ49
import Derived.Test.YtcpfabkokgiepaaQ54
import Derived.Test.YtcpfabkokgiepaaQ55
import Derived.Test.YtcpfabkokgiepaaQ07
import Derived.Test.YtcpfabkokgiepaaQ24
set_option linter.unusedSimpArgs false
set_option linter.unusedVariables false
set_option maxHeartbeats 8000000
open Pl
section
namespace Pl
theorem msk_down (w : Nat) (v : Vec) (n k : Nat) (h : k < n) : pV w v n / 2 ^ k = 2 * (pV w v n / 2 ^ (k + 1)) + (if sgn w (mT v w k) < 0 then 1 else 0) := by
 have hb := mskR_bit w v n k h
 rw [Nat.testBit_eq_decide_div_mod_eq] at hb
 rw [Nat.pow_succ, ← Nat.div_div_eq_div_mul]
 generalize pV w v n / 2 ^ k = m at *
 by_cases hs : sgn w (mT v w k) < 0
 ·rw [decide_eq_true hs, decide_eq_true_eq] at hb
  rw [if_pos hs]; omega
 ·rw [decide_eq_false hs, decide_eq_false_iff_not] at hb
  rw [if_neg hs]; omega
theorem top_bit (x : Nat) (n : Nat) (h : x < 2 ^ (n + 1)) : x / 2 ^ n = if x.testBit n = true then 1 else 0 := by
 rw [Nat.testBit_eq_decide_div_mod_eq]
 have : x / 2 ^ n < 2 := by rw [Nat.div_lt_iff_lt_mul (Nat.two_pow_pos _), Nat.mul_comm, ← Nat.pow_succ]; exact h
 generalize x / 2 ^ n = q at *
 by_cases hq : q % 2 = 1
 ·rw [decide_eq_true hq]; simp; omega
 ·rw [decide_eq_false hq]; simp; omega
theorem sgn_top (w x : Nat) (hw : w = 8 ∨ w = 16 ∨ w = 32 ∨ w = 64) (h : x < 2 ^ w) : x / 2 ^ (w - 1) = if sgn w x < 0 then 1 else 0 := by
 rcases hw with rfl | rfl | rfl | rfl <;> (unfold sgn; simp at h ⊢; split <;> split <;> omega)
theorem top_byte (w : Nat) (hw : w = 8 ∨ w = 16 ∨ w = 32 ∨ w = 64) (v : Vec) (i k : Nat) (hk : 8 * k + 8 = w * i + w) : mT v 8 k / 128 = if sgn w (mT v w i) < 0 then 1 else 0 := by
 rw [← sgn_top w _ hw (mL v w i)]
 have e1 := top_bit (mT v 8 k) 7 (mL v 8 k)
 obtain ⟨m, rfl⟩ : ∃ m, w = m + 1 := ⟨w - 1, by omega⟩
 have e2 := top_bit (mT v (m + 1) i) m (mL v (m + 1) i)
 rw [show (128 : Nat) = 2 ^ 7 from rfl, e1, show m + 1 - 1 = m by omega, e2]
 unfold mT
 rw [mA, mA, decide_eq_true (show 7 < 8 by decide), decide_eq_true (show m < m + 1 by omega), show 8 * k + 7 = (m + 1) * i + m by omega]
theorem all_step {P : Nat → Prop} {i : Nat} (h : ∀ j, j < i → P j) (hi : P i) : ∀ j, j < i + 1 → P j := fun j hj => by
 by_cases e : j = i
 ·rw [e]; exact hi
 ·exact h j (by omega)
theorem bytes_zero (v : Vec) (h : ∀ i, i < 16 → mT v 8 i = 0) : v = 0 :=
 rL 8 16 (by decide) (by decide) fun i hi => by rw [h i hi]; simp [mT, tW]
end Pl
namespace Go.Proofs.Ytcpfabkokgiepaa
open Go.RowKit Pl
set_option maxRecDepth 100000 in
theorem rtest_any1 (v : Vec) (w : World) :
 Calls Try.prog 44 #[.int .i64 64851, .agg (mY v)] w fun e w' => e = .returned (.tuple #[.int .u32 (if v = 0 then 0 else 1), .int .i64 0]) ∧ Below w.heap.size w w' := by
 obtain ⟨Z, hZ⟩ : ∃ z : Int, z = if v = 0 then 0 else 1 := ⟨_, rfl⟩
 rw [← hZ]
 have HZZ := Lib.hid hZ
 clear hZ
 have hs := H1.start v w
 go_enter Try.func44, Try.ntmps44
 go_wp2_with fail
 obtain ⟨W, hW⟩ : ∃ W, W = w.alloc (.cells (mY v) 45) := ⟨_, rfl⟩
 rw [← hW] at hs ⊢
 clear hW
 go_loopw [6] (fun iv wr => ∃ i : Nat, i ≤ 16 ∧ iv = .int .i64 i ∧ (∀ j, j < i → mT v 8 j = 0) ∧ W = wr) (fun iv _ => 16 - (intOf iv).toNat)
 case atStart => exact ⟨0, Nat.zero_le _, rfl, fun j h => absurd h (by omega), rfl⟩
 case round =>
  obtain ⟨i, hi, rfl, hz, rfl⟩ := hrel
  have HZ := Lib.hid hz
  clear hz
  by_cases hlt : i < 16
  ·have hc : W.cell? ⟨w.heap.size, i, none⟩ = some (.int .u8 ((mT v 8 i : Nat) : Int)) := by rw [cell_of_row W w.heap.size i _ _ _ hs.fst, getElem?_cells _ _ hlt]; rfl
   by_cases h0 : mT v 8 i = 0
   ·rw [h0] at hc
    go_wp2_with fail
    go_roundw
    case rel => first | exact ⟨i + 1, by omega, by go_num, all_step HZ.out h0, by first | trivial | rfl⟩ | ((repeat apply Exists.intro); exact ⟨⟨i + 1, by omega, by go_num, all_step HZ.out h0, by first | trivial | rfl⟩, rfl⟩)
    case measure => exact xL
   ·have hne : (((mT v 8 i : Nat) : Int) != 0) = true := bne_iff_ne.2 (by omega)
    have hv : v ≠ 0 := fun h => h0 (by rw [h]; simp [mT, tW])
    have HV := Lib.hid hv
    clear hv
    go_wp2_with fail
    go_ret2
    exact ⟨ret_u32p (show (1 : Int) = Z from (HZZ.out.trans (if_neg HV.out)).symm) 0, hs.bel⟩
  ·obtain rfl : i = 16 := by omega
   go_wp2_with fail
   go_ret2
   exact ⟨ret_u32p (show (0 : Int) = Z from (HZZ.out.trans (if_pos (bytes_zero v HZ.out))).symm) 0, hs.bel⟩
set_option maxRecDepth 100000 in
theorem rtest_all8 (v : Vec) (w : World) :
 Calls Try.prog 44 #[.int .i64 64867, .agg (mY v)] w fun e w' => e = .returned (.tuple #[.int .u32 ((r6 8 v 16 : Nat) : Int), .int .i64 0]) ∧ Below w.heap.size w w' := by
 have hs := H1.start v w
 go_enter Try.func44, Try.ntmps44
 go_wp2_with fail
 obtain ⟨W, hW⟩ : ∃ W, W = w.alloc (.cells (mY v) 45) := ⟨_, rfl⟩
 rw [← hW] at hs ⊢
 clear hW
 go_loopw [7, 8] (fun wv bv wr => ∃ m : Nat, m ≤ 0 ∧ bv = .int .i64 ((99 + 32 * m : Nat) : Int) ∧ wv = .int .i64 ((8 * 2 ^ m : Nat) : Int) ∧ W = wr) (fun _ bv _ => (227 - intOf bv).toNat)
 case atStart => exact qL
 case round =>
  obtain ⟨m, hm, rfl, rfl, rfl⟩ := hrel
  obtain rfl : m = 0 := by omega
  ·as_aux_lemma =>
   go_wp2_with fail
   go_loopw [9] (fun iv wr => ∃ i : Nat, i ≤ 16 ∧ iv = .int .i64 i ∧ (∀ j, j < i → mT v 8 j ≠ 0) ∧ H1 w v wr) (fun iv _ => 16 - (intOf iv).toNat)
   case atStart => exact j7
   case round =>
    clear hs
    obtain ⟨i, hi, rfl, hz, hs⟩ := hrel
    have HZ := Lib.hid hz
    clear hz
    by_cases hlt : i < 16
    ·have G := fun W => fC v i i W rfl hlt
     by_cases h0 : mT v 8 i = 0
     ·rw [h0] at G
      have HG := Lib.hid G
      clear G
      have ha : r6 8 v 16 = 0 := by rw [fF, if_neg (fun h => h i hlt h0)]
      exact yK
     ·have hne : (((mT v 8 i : Nat) : Int) == 0) = false := by rw [beq_eq_false_iff_ne]; omega
      exact wM
    ·obtain rfl : i = 16 := by omega
     exact qC
set_option maxRecDepth 100000 in
theorem rtest_msk8 (v : Vec) (w : World) :
 Calls Try.prog 44 #[.int .i64 64868, .agg (mY v)] w fun e w' => e = .returned (.tuple #[.int .u32 ((pV 8 v 16 : Nat) : Int), .int .i64 0]) ∧ Below w.heap.size w w' := by
 have hs := H1.start v w
 go_enter Try.func44, Try.ntmps44
 go_wp2_with fail
 obtain ⟨W, hW⟩ : ∃ W, W = w.alloc (.cells (mY v) 45) := ⟨_, rfl⟩
 rw [← hW] at hs ⊢
 clear hW
 go_loopw [7, 8] (fun wv bv wr => ∃ m : Nat, m ≤ 0 ∧ bv = .int .i64 ((99 + 32 * m : Nat) : Int) ∧ wv = .int .i64 ((8 * 2 ^ m : Nat) : Int) ∧ W = wr) (fun _ bv _ => (227 - intOf bv).toNat)
 case atStart => exact qL
 case round =>
  obtain ⟨m, hm, rfl, rfl, rfl⟩ := hrel
  obtain rfl : m = 0 := by omega
  ·as_aux_lemma =>
   go_wp2_with fail
   go_loopw [10, 11] (fun nv iv wr => ∃ k : Nat, k ≤ 16 ∧ iv = .int .i64 ((k : Int) - 1) ∧ nv = .int .u32 ((pV 8 v 16 / 2 ^ k : Nat) : Int) ∧ W = wr) (fun _ iv _ => (intOf iv + 1).toNat)
   case atStart => exact ⟨16, Nat.le_refl _, rfl, by rw [Nat.div_eq_of_lt (rE 8 v 16)]; rfl, rfl⟩
   case round =>
    obtain ⟨k, hk, rfl, rfl, rfl⟩ := hrel
    by_cases hlt : 0 < k
    ·obtain ⟨i, rfl⟩ : ∃ i, k = i + 1 := ⟨k - 1, by omega⟩
     have hd := msk_down 8 v 16 i (by omega)
     have ht := top_byte 8 (by decide) v i (i) (by omega)
     rw [← ht] at hd
     clear ht
     have hml : pV 8 v 16 / 2 ^ (i + 1) < 32768 := by
      have h1 := rE 8 v 16
      have h2 : pV 8 v 16 / 2 ^ (i + 1) ≤ pV 8 v 16 / 2 := Nat.div_le_div_left (by rw [Nat.pow_succ]; have := Nat.one_le_two_pow (n := i); omega) (by decide)
      rw [show (2 : Nat) ^ 16 = 65536 from rfl] at h1
      omega
     have hb8 : mT v 8 (i) < 256 := mL v 8 _
     obtain ⟨B, hB⟩ : ∃ B, B = mT v 8 (i) := ⟨_, rfl⟩
     have hc : W.cell? ⟨w.heap.size, i, none⟩ = some (.int .u8 (B : Int)) := by rw [cell_of_row W w.heap.size _ _ _ _ hs.fst, getElem?_cells _ _ (by omega), hB]; rfl
     rw [← hB] at hd hb8
     obtain ⟨M, hM⟩ : ∃ M, M = pV 8 v 16 / 2 ^ (i + 1) := ⟨_, rfl⟩
     obtain ⟨M2, hM2⟩ : ∃ M, M = pV 8 v 16 / 2 ^ i := ⟨_, rfl⟩
     rw [← hM] at hd hml ⊢
     rw [← hM2] at hd
     have HM2 := Lib.hid hM2
     clear hM hM2 hB
     have q0 : (((i + 1 : Nat) : Int) - 1) = i := by omega
     have q1 : ((i : Int) + 1) * 8 / 8 - 1 = ((i : Nat) : Int) := by omega
     have q2 : IntKind.i64.wrap ((i : Int) + 1) = (i : Int) + 1 := IntWalk.i64_in _ (by omega)
     have q3 : IntKind.i64.wrap (((i : Int) + 1) * 8) = ((i : Int) + 1) * 8 := IntWalk.i64_in _ (by omega)
     have q4 : IntKind.i64.wrap (((i : Int) + 1) * 8 / 8 - 1) = ((i : Nat) : Int) := by rw [IntWalk.i64_in _ (by omega)]; omega
     have q5 : IntKind.u32.wrap (2 * (M : Int)) = 2 * (M : Int) := IntWalk.u32_in _ (by omega)
     have q6 : IntKind.u32.wrap ((B : Int) / 128) = (B : Int) / 128 := IntWalk.u32_in _ (by omega)
     have q7 : IntKind.u32.wrap (2 * (M : Int) + (B : Int) / 128) = (M2 : Int) := by rw [IntWalk.u32_in _ (by omega)]; omega
     have q8 : IntKind.u8.wrap ((B : Int) / 128) = (B : Int) / 128 := IntWalk.u8_in _ (by omega)
     have q9 : IntKind.i64.wrap ((i : Int) + 1 - 1) = (i : Int) := by rw [IntWalk.i64_in _ (by omega)]; omega
     have qa : (i : Int) + 1 - 1 = (i : Int) := by omega
     go_wp2_with fail
     go_roundw
     case rel => exact nQ
     case measure => first | (simp only [intOf]; omega) | (simp [intOf] <;> omega)
    ·exact gG
set_option maxRecDepth 100000 in
theorem rtest_all16 (v : Vec) (w : World) :
 Calls Try.prog 44 #[.int .i64 64899, .agg (mY v)] w fun e w' => e = .returned (.tuple #[.int .u32 ((r6 16 v 8 : Nat) : Int), .int .i64 0]) ∧ Below w.heap.size w w' := by
 have hs := H1.start v w
 go_enter Try.func44, Try.ntmps44
 go_wp2_with fail
 obtain ⟨W, hW⟩ : ∃ W, W = w.alloc (.cells (mY v) 45) := ⟨_, rfl⟩
 rw [← hW] at hs ⊢
 clear hW
 go_loopw [7, 8] (fun wv bv wr => ∃ m : Nat, m ≤ 1 ∧ bv = .int .i64 ((99 + 32 * m : Nat) : Int) ∧ wv = .int .i64 ((8 * 2 ^ m : Nat) : Int) ∧ W = wr) (fun _ bv _ => (227 - intOf bv).toNat)
 case atStart => exact qL
 case round =>
  obtain ⟨m, hm, rfl, rfl, rfl⟩ := hrel
  obtain rfl | rfl : m = 0 ∨ m = 1 := by omega
  ·exact n3
  ·as_aux_lemma =>
   go_wp2_with fail
   go_loopw [9] (fun iv wr => ∃ i : Nat, i ≤ 8 ∧ iv = .int .i64 i ∧ (∀ j, j < i → mT v 16 j ≠ 0) ∧ H1 w v wr) (fun iv _ => 8 - (intOf iv).toNat)
   case atStart => exact j7
   case round =>
    clear hs
    obtain ⟨i, hi, rfl, hz, hs⟩ := hrel
    have HZ := Lib.hid hz
    clear hz
    by_cases hlt : i < 8
    ·have G := fun W => vA v i i W rfl hlt
     by_cases h0 : mT v 16 i = 0
     ·rw [h0] at G
      have HG := Lib.hid G
      clear G
      have ha : r6 16 v 8 = 0 := by rw [fF, if_neg (fun h => h i hlt h0)]
      exact yK
     ·have hne : (((mT v 16 i : Nat) : Int) == 0) = false := by rw [beq_eq_false_iff_ne]; omega
      exact wM
    ·obtain rfl : i = 8 := by omega
     exact qC
set_option maxRecDepth 100000 in
theorem rtest_msk16 (v : Vec) (w : World) :
 Calls Try.prog 44 #[.int .i64 64900, .agg (mY v)] w fun e w' => e = .returned (.tuple #[.int .u32 ((pV 16 v 8 : Nat) : Int), .int .i64 0]) ∧ Below w.heap.size w w' := by
 have hs := H1.start v w
 go_enter Try.func44, Try.ntmps44
 go_wp2_with fail
 obtain ⟨W, hW⟩ : ∃ W, W = w.alloc (.cells (mY v) 45) := ⟨_, rfl⟩
 rw [← hW] at hs ⊢
 clear hW
 go_loopw [7, 8] (fun wv bv wr => ∃ m : Nat, m ≤ 1 ∧ bv = .int .i64 ((99 + 32 * m : Nat) : Int) ∧ wv = .int .i64 ((8 * 2 ^ m : Nat) : Int) ∧ W = wr) (fun _ bv _ => (227 - intOf bv).toNat)
 case atStart => exact qL
 case round =>
  obtain ⟨m, hm, rfl, rfl, rfl⟩ := hrel
  obtain rfl | rfl : m = 0 ∨ m = 1 := by omega
  ·exact n3
  ·as_aux_lemma =>
   go_wp2_with fail
   go_loopw [10, 11] (fun nv iv wr => ∃ k : Nat, k ≤ 8 ∧ iv = .int .i64 ((k : Int) - 1) ∧ nv = .int .u32 ((pV 16 v 8 / 2 ^ k : Nat) : Int) ∧ W = wr) (fun _ iv _ => (intOf iv + 1).toNat)
   case atStart => exact ⟨8, Nat.le_refl _, rfl, by rw [Nat.div_eq_of_lt (rE 16 v 8)]; rfl, rfl⟩
   case round =>
    obtain ⟨k, hk, rfl, rfl, rfl⟩ := hrel
    by_cases hlt : 0 < k
    ·obtain ⟨i, rfl⟩ : ∃ i, k = i + 1 := ⟨k - 1, by omega⟩
     have hd := msk_down 16 v 8 i (by omega)
     have ht := top_byte 16 (by decide) v i (i * 2 + 1) (by omega)
     rw [← ht] at hd
     clear ht
     have hml : pV 16 v 8 / 2 ^ (i + 1) < 128 := by
      have h1 := rE 16 v 8
      have h2 : pV 16 v 8 / 2 ^ (i + 1) ≤ pV 16 v 8 / 2 := Nat.div_le_div_left (by rw [Nat.pow_succ]; have := Nat.one_le_two_pow (n := i); omega) (by decide)
      rw [show (2 : Nat) ^ 8 = 256 from rfl] at h1
      omega
     have hb8 : mT v 8 (i * 2 + 1) < 256 := mL v 8 _
     obtain ⟨B, hB⟩ : ∃ B, B = mT v 8 (i * 2 + 1) := ⟨_, rfl⟩
     have hc : W.cell? ⟨w.heap.size, i * 2 + 1, none⟩ = some (.int .u8 (B : Int)) := by rw [cell_of_row W w.heap.size _ _ _ _ hs.fst, getElem?_cells _ _ (by omega), hB]; rfl
     rw [← hB] at hd hb8
     obtain ⟨M, hM⟩ : ∃ M, M = pV 16 v 8 / 2 ^ (i + 1) := ⟨_, rfl⟩
     obtain ⟨M2, hM2⟩ : ∃ M, M = pV 16 v 8 / 2 ^ i := ⟨_, rfl⟩
     rw [← hM] at hd hml ⊢
     rw [← hM2] at hd
     have HM2 := Lib.hid hM2
     clear hM hM2 hB
     have q0 : (((i + 1 : Nat) : Int) - 1) = i := by omega
     have q1 : ((i : Int) + 1) * 16 / 8 - 1 = ((i * 2 + 1 : Nat) : Int) := by omega
     have q2 : IntKind.i64.wrap ((i : Int) + 1) = (i : Int) + 1 := IntWalk.i64_in _ (by omega)
     have q3 : IntKind.i64.wrap (((i : Int) + 1) * 16) = ((i : Int) + 1) * 16 := IntWalk.i64_in _ (by omega)
     have q4 : IntKind.i64.wrap (((i : Int) + 1) * 16 / 8 - 1) = ((i * 2 + 1 : Nat) : Int) := by rw [IntWalk.i64_in _ (by omega)]; omega
     exact y9
    ·exact gG
set_option maxRecDepth 100000 in
theorem rtest_all32 (v : Vec) (w : World) :
 Calls Try.prog 44 #[.int .i64 64931, .agg (mY v)] w fun e w' => e = .returned (.tuple #[.int .u32 ((r6 32 v 4 : Nat) : Int), .int .i64 0]) ∧ Below w.heap.size w w' := by
 have hs := H1.start v w
 go_enter Try.func44, Try.ntmps44
 go_wp2_with fail
 obtain ⟨W, hW⟩ : ∃ W, W = w.alloc (.cells (mY v) 45) := ⟨_, rfl⟩
 rw [← hW] at hs ⊢
 clear hW
 go_loopw [7, 8] (fun wv bv wr => ∃ m : Nat, m ≤ 2 ∧ bv = .int .i64 ((99 + 32 * m : Nat) : Int) ∧ wv = .int .i64 ((8 * 2 ^ m : Nat) : Int) ∧ W = wr) (fun _ bv _ => (227 - intOf bv).toNat)
 case atStart => exact qL
 case round =>
  obtain ⟨m, hm, rfl, rfl, rfl⟩ := hrel
  obtain rfl | rfl | rfl : m = 0 ∨ m = 1 ∨ m = 2 := by omega
  ·exact n3
  ·exact n5
  ·as_aux_lemma =>
   go_wp2_with fail
   go_loopw [9] (fun iv wr => ∃ i : Nat, i ≤ 4 ∧ iv = .int .i64 i ∧ (∀ j, j < i → mT v 32 j ≠ 0) ∧ H1 w v wr) (fun iv _ => 4 - (intOf iv).toNat)
   case atStart => exact j7
   case round =>
    clear hs
    obtain ⟨i, hi, rfl, hz, hs⟩ := hrel
    have HZ := Lib.hid hz
    clear hz
    by_cases hlt : i < 4
    ·have G := fun W => vL v i i W rfl hlt
     by_cases h0 : mT v 32 i = 0
     ·rw [h0] at G
      have HG := Lib.hid G
      clear G
      have ha : r6 32 v 4 = 0 := by rw [fF, if_neg (fun h => h i hlt h0)]
      exact yK
     ·have hne : (((mT v 32 i : Nat) : Int) == 0) = false := by rw [beq_eq_false_iff_ne]; omega
      exact wM
    ·obtain rfl : i = 4 := by omega
     exact qC
set_option maxRecDepth 100000 in
theorem rtest_msk32 (v : Vec) (w : World) :
 Calls Try.prog 44 #[.int .i64 64932, .agg (mY v)] w fun e w' => e = .returned (.tuple #[.int .u32 ((pV 32 v 4 : Nat) : Int), .int .i64 0]) ∧ Below w.heap.size w w' := by
 have hs := H1.start v w
 go_enter Try.func44, Try.ntmps44
 go_wp2_with fail
 obtain ⟨W, hW⟩ : ∃ W, W = w.alloc (.cells (mY v) 45) := ⟨_, rfl⟩
 rw [← hW] at hs ⊢
 clear hW
 go_loopw [7, 8] (fun wv bv wr => ∃ m : Nat, m ≤ 2 ∧ bv = .int .i64 ((99 + 32 * m : Nat) : Int) ∧ wv = .int .i64 ((8 * 2 ^ m : Nat) : Int) ∧ W = wr) (fun _ bv _ => (227 - intOf bv).toNat)
 case atStart => exact qL
 case round =>
  obtain ⟨m, hm, rfl, rfl, rfl⟩ := hrel
  obtain rfl | rfl | rfl : m = 0 ∨ m = 1 ∨ m = 2 := by omega
  ·exact n3
  ·exact n5
  ·as_aux_lemma =>
   go_wp2_with fail
   go_loopw [10, 11] (fun nv iv wr => ∃ k : Nat, k ≤ 4 ∧ iv = .int .i64 ((k : Int) - 1) ∧ nv = .int .u32 ((pV 32 v 4 / 2 ^ k : Nat) : Int) ∧ W = wr) (fun _ iv _ => (intOf iv + 1).toNat)
   case atStart => exact ⟨4, Nat.le_refl _, rfl, by rw [Nat.div_eq_of_lt (rE 32 v 4)]; rfl, rfl⟩
   case round =>
    obtain ⟨k, hk, rfl, rfl, rfl⟩ := hrel
    by_cases hlt : 0 < k
    ·obtain ⟨i, rfl⟩ : ∃ i, k = i + 1 := ⟨k - 1, by omega⟩
     have hd := msk_down 32 v 4 i (by omega)
     have ht := top_byte 32 (by decide) v i (i * 4 + 3) (by omega)
     rw [← ht] at hd
     clear ht
     have hml : pV 32 v 4 / 2 ^ (i + 1) < 8 := by
      have h1 := rE 32 v 4
      have h2 : pV 32 v 4 / 2 ^ (i + 1) ≤ pV 32 v 4 / 2 := Nat.div_le_div_left (by rw [Nat.pow_succ]; have := Nat.one_le_two_pow (n := i); omega) (by decide)
      rw [show (2 : Nat) ^ 4 = 16 from rfl] at h1
      omega
     have hb8 : mT v 8 (i * 4 + 3) < 256 := mL v 8 _
     obtain ⟨B, hB⟩ : ∃ B, B = mT v 8 (i * 4 + 3) := ⟨_, rfl⟩
     have hc : W.cell? ⟨w.heap.size, i * 4 + 3, none⟩ = some (.int .u8 (B : Int)) := by rw [cell_of_row W w.heap.size _ _ _ _ hs.fst, getElem?_cells _ _ (by omega), hB]; rfl
     rw [← hB] at hd hb8
     obtain ⟨M, hM⟩ : ∃ M, M = pV 32 v 4 / 2 ^ (i + 1) := ⟨_, rfl⟩
     obtain ⟨M2, hM2⟩ : ∃ M, M = pV 32 v 4 / 2 ^ i := ⟨_, rfl⟩
     rw [← hM] at hd hml ⊢
     rw [← hM2] at hd
     have HM2 := Lib.hid hM2
     clear hM hM2 hB
     have q0 : (((i + 1 : Nat) : Int) - 1) = i := by omega
     have q1 : ((i : Int) + 1) * 32 / 8 - 1 = ((i * 4 + 3 : Nat) : Int) := by omega
     have q2 : IntKind.i64.wrap ((i : Int) + 1) = (i : Int) + 1 := IntWalk.i64_in _ (by omega)
     have q3 : IntKind.i64.wrap (((i : Int) + 1) * 32) = ((i : Int) + 1) * 32 := IntWalk.i64_in _ (by omega)
     have q4 : IntKind.i64.wrap (((i : Int) + 1) * 32 / 8 - 1) = ((i * 4 + 3 : Nat) : Int) := by rw [IntWalk.i64_in _ (by omega)]; omega
     exact y9
    ·exact gG
set_option maxRecDepth 100000 in
theorem rtest_all64 (v : Vec) (w : World) :
 Calls Try.prog 44 #[.int .i64 64963, .agg (mY v)] w fun e w' => e = .returned (.tuple #[.int .u32 ((r6 64 v 2 : Nat) : Int), .int .i64 0]) ∧ Below w.heap.size w w' := by
 have hs := H1.start v w
 go_enter Try.func44, Try.ntmps44
 go_wp2_with fail
 obtain ⟨W, hW⟩ : ∃ W, W = w.alloc (.cells (mY v) 45) := ⟨_, rfl⟩
 rw [← hW] at hs ⊢
 clear hW
 go_loopw [7, 8] (fun wv bv wr => ∃ m : Nat, m ≤ 3 ∧ bv = .int .i64 ((99 + 32 * m : Nat) : Int) ∧ wv = .int .i64 ((8 * 2 ^ m : Nat) : Int) ∧ W = wr) (fun _ bv _ => (227 - intOf bv).toNat)
 case atStart => exact qL
 case round =>
  obtain ⟨m, hm, rfl, rfl, rfl⟩ := hrel
  obtain rfl | rfl | rfl | rfl : m = 0 ∨ m = 1 ∨ m = 2 ∨ m = 3 := by omega
  ·exact n3
  ·exact n5
  ·exact nP
  ·as_aux_lemma =>
   go_wp2_with fail
   go_loopw [9] (fun iv wr => ∃ i : Nat, i ≤ 2 ∧ iv = .int .i64 i ∧ (∀ j, j < i → mT v 64 j ≠ 0) ∧ H1 w v wr) (fun iv _ => 2 - (intOf iv).toNat)
   case atStart => exact j7
   case round =>
    clear hs
    obtain ⟨i, hi, rfl, hz, hs⟩ := hrel
    have HZ := Lib.hid hz
    clear hz
    by_cases hlt : i < 2
    ·have G := fun W => vU v i i W rfl hlt
     by_cases h0 : mT v 64 i = 0
     ·rw [h0] at G
      have HG := Lib.hid G
      clear G
      have ha : r6 64 v 2 = 0 := by rw [fF, if_neg (fun h => h i hlt h0)]
      exact yK
     ·have hne : (((mT v 64 i : Nat) : Int) == 0) = false := by rw [beq_eq_false_iff_ne]; omega
      exact wM
    ·obtain rfl : i = 2 := by omega
     exact qC
set_option maxRecDepth 100000 in
theorem rtest_msk64 (v : Vec) (w : World) :
 Calls Try.prog 44 #[.int .i64 64964, .agg (mY v)] w fun e w' => e = .returned (.tuple #[.int .u32 ((pV 64 v 2 : Nat) : Int), .int .i64 0]) ∧ Below w.heap.size w w' := by
 have hs := H1.start v w
 go_enter Try.func44, Try.ntmps44
 go_wp2_with fail
 obtain ⟨W, hW⟩ : ∃ W, W = w.alloc (.cells (mY v) 45) := ⟨_, rfl⟩
 rw [← hW] at hs ⊢
 clear hW
 go_loopw [7, 8] (fun wv bv wr => ∃ m : Nat, m ≤ 3 ∧ bv = .int .i64 ((99 + 32 * m : Nat) : Int) ∧ wv = .int .i64 ((8 * 2 ^ m : Nat) : Int) ∧ W = wr) (fun _ bv _ => (227 - intOf bv).toNat)
 case atStart => exact qL
 case round =>
  obtain ⟨m, hm, rfl, rfl, rfl⟩ := hrel
  obtain rfl | rfl | rfl | rfl : m = 0 ∨ m = 1 ∨ m = 2 ∨ m = 3 := by omega
  ·exact n3
  ·exact n5
  ·exact nP
  ·as_aux_lemma =>
   go_wp2_with fail
   go_loopw [10, 11] (fun nv iv wr => ∃ k : Nat, k ≤ 2 ∧ iv = .int .i64 ((k : Int) - 1) ∧ nv = .int .u32 ((pV 64 v 2 / 2 ^ k : Nat) : Int) ∧ W = wr) (fun _ iv _ => (intOf iv + 1).toNat)
   case atStart => exact ⟨2, Nat.le_refl _, rfl, by rw [Nat.div_eq_of_lt (rE 64 v 2)]; rfl, rfl⟩
   case round =>
    obtain ⟨k, hk, rfl, rfl, rfl⟩ := hrel
    by_cases hlt : 0 < k
    ·obtain ⟨i, rfl⟩ : ∃ i, k = i + 1 := ⟨k - 1, by omega⟩
     have hd := msk_down 64 v 2 i (by omega)
     have ht := top_byte 64 (by decide) v i (i * 8 + 7) (by omega)
     rw [← ht] at hd
     clear ht
     have hml : pV 64 v 2 / 2 ^ (i + 1) < 2 := by
      have h1 := rE 64 v 2
      have h2 : pV 64 v 2 / 2 ^ (i + 1) ≤ pV 64 v 2 / 2 := Nat.div_le_div_left (by rw [Nat.pow_succ]; have := Nat.one_le_two_pow (n := i); omega) (by decide)
      rw [show (2 : Nat) ^ 2 = 4 from rfl] at h1
      omega
     have hb8 : mT v 8 (i * 8 + 7) < 256 := mL v 8 _
     obtain ⟨B, hB⟩ : ∃ B, B = mT v 8 (i * 8 + 7) := ⟨_, rfl⟩
     have hc : W.cell? ⟨w.heap.size, i * 8 + 7, none⟩ = some (.int .u8 (B : Int)) := by rw [cell_of_row W w.heap.size _ _ _ _ hs.fst, getElem?_cells _ _ (by omega), hB]; rfl
     rw [← hB] at hd hb8
     obtain ⟨M, hM⟩ : ∃ M, M = pV 64 v 2 / 2 ^ (i + 1) := ⟨_, rfl⟩
     obtain ⟨M2, hM2⟩ : ∃ M, M = pV 64 v 2 / 2 ^ i := ⟨_, rfl⟩
     rw [← hM] at hd hml ⊢
     rw [← hM2] at hd
     have HM2 := Lib.hid hM2
     clear hM hM2 hB
     have q0 : (((i + 1 : Nat) : Int) - 1) = i := by omega
     have q1 : ((i : Int) + 1) * 64 / 8 - 1 = ((i * 8 + 7 : Nat) : Int) := by omega
     have q2 : IntKind.i64.wrap ((i : Int) + 1) = (i : Int) + 1 := IntWalk.i64_in _ (by omega)
     have q3 : IntKind.i64.wrap (((i : Int) + 1) * 64) = ((i : Int) + 1) * 64 := IntWalk.i64_in _ (by omega)
     have q4 : IntKind.i64.wrap (((i : Int) + 1) * 64 / 8 - 1) = ((i * 8 + 7 : Nat) : Int) := by rw [IntWalk.i64_in _ (by omega)]; omega
     exact y9
    ·exact gG
set_option maxRecDepth 100000 in
theorem rtest_none (op : Int) (h1 : op ≠ 64851) (h2 : op ≠ 64867) (h3 : op ≠ 64868) (h4 : op ≠ 64899) (h5 : op ≠ 64900) (h6 : op ≠ 64931) (h7 : op ≠ 64932) (h8 : op ≠ 64963) (h9 : op ≠ 64964) (v : Vec) (w : World) :
 Calls Try.prog 44 #[.int .i64 op, .agg (mY v)] w fun e w' => e = .returned (.tuple #[.int .u32 0, .int .i64 1]) ∧ Below w.heap.size w w' := by
 have hs := H1.start v w
 go_enter Try.func44, Try.ntmps44
 go_wp2_with fail
 obtain ⟨W, hW⟩ : ∃ W, W = w.alloc (.cells (mY v) 45) := ⟨_, rfl⟩
 rw [← hW] at hs ⊢
 clear hW
 go_loopw [7, 8] (fun wv bv wr => ∃ m : Nat, m ≤ 4 ∧ bv = .int .i64 ((99 + 32 * m : Nat) : Int) ∧ wv = .int .i64 ((8 * 2 ^ m : Nat) : Int) ∧ W = wr) (fun _ bv _ => (227 - intOf bv).toNat)
 case atStart => exact qL
 case round =>
  obtain ⟨m, hm, rfl, rfl, rfl⟩ := hrel
  obtain rfl | rfl | rfl | rfl | rfl : m = 0 ∨ m = 1 ∨ m = 2 ∨ m = 3 ∨ m = 4 := by omega
  ·exact n3
  ·exact n5
  ·exact nP
  ·as_aux_lemma =>
   go_wp2_with fail
   go_roundw
   case rel => first | exact ⟨4, by decide, rfl, rfl, (by first | trivial | rfl)⟩ | ((repeat apply Exists.intro); exact ⟨⟨4, by decide, rfl, rfl, (by first | trivial | rfl)⟩, rfl⟩)
   case measure => exact xL
  ·as_aux_lemma =>
   go_wp2_with fail
   go_ret2
   exact ⟨rfl, hs.bel⟩
theorem rtest_any (op : Int) (v : Vec) (w : World) :
 Calls Try.prog 44 #[.int .i64 op, .agg (mY v)] w fun e w' => e = .returned (.tuple #[.int .u32 (uH op v).1, .int .i64 (uH op v).2]) ∧ Below w.heap.size w w' := by
 unfold uH
 split
 ·rename_i h; subst h; exact rtest_any1 v w
 split
 ·rename_i h; subst h; exact rtest_all8 v w
 split
 ·rename_i h; subst h; exact rtest_msk8 v w
 split
 ·rename_i h; subst h; exact rtest_all16 v w
 split
 ·rename_i h; subst h; exact rtest_msk16 v w
 split
 ·rename_i h; subst h; exact rtest_all32 v w
 split
 ·rename_i h; subst h; exact rtest_msk32 v w
 split
 ·rename_i h; subst h; exact rtest_all64 v w
 split
 ·rename_i h; subst h; exact rtest_msk64 v w
 ·exact rtest_none op (by assumption) (by assumption) (by assumption) (by assumption) (by assumption) (by assumption) (by assumption) (by assumption) (by assumption) v w
end Go.Proofs.Ytcpfabkokgiepaa
end
section
namespace Go.Proofs.Ytcpfabkokgiepaa
open Go.RowKit Pl
theorem store_zero {ops : Array Oper} {rest : List Oper} {o : Oper} {a : Act} {w : World} {Q : Exit → Act → World → Prop} (hgd : o.guard = none) (x y : Operand) (ho : o.op = .store 45 x y)
 (g : Nat) (hx : a.eval x = .pointer (some ⟨g, 0, none⟩)) (hy : a.eval y = .agg #[.int .u8 0, .int .u8 0, .int .u8 0, .int .u8 0, .int .u8 0, .int .u8 0, .int .u8 0, .int .u8 0, .int .u8 0, .int .u8 0, .int .u8 0, .int .u8 0, .int .u8 0, .int .u8 0, .int .u8 0, .int .u8 0]) (u : Vec) (hg : w.heap[g]? = some (.cells (mY u) 45 (0, 0)))
 (h : ∀ w', Sets w g 0 w' → wpList Try.prog ops Q rest (a.put o.dst undef) w') : wpList Try.prog ops Q (o :: rest) a w :=
 mK hgd x y ho g 0 hx (hy.trans (by rw [mU])) u hg h
set_option maxRecDepth 100000 in
theorem rcmp_none (op κ : Int) (a b : Vec) (w : World) (hκ : IntKind.i64.wrap (op - 64768) = κ) (h : κ < 35 ∨ 65 ≤ κ ∧ κ < 214 ∨ 220 ≤ κ) :
 Calls Try.prog 80 #[.int .i64 op, .agg (mY a), .agg (mY b)] w fun e w' => e = .returned (.tuple #[.agg (mY 0), .int .i64 1]) ∧ Below w.heap.size w w' := by
 rcases h with h | ⟨h, h2⟩ | h
 ·exact wK
 ·exact wK
 ·exact wK
theorem rcmp_any (op : Int) (a b : Vec) (w : World) (ho : -9223372036854775808 ≤ op ∧ op ≤ 9223372036854775807) :
 Calls Try.prog 80 #[.int .i64 op, .agg (mY a), .agg (mY b)] w fun e w' => e = .returned (.tuple #[.agg (mY (d9 op a b).1), .int .i64 (d9 op a b).2]) ∧ Below w.heap.size w w' := by
 unfold d9
 split
 ·rename_i h
  obtain ⟨c, hc, rfl⟩ : ∃ c : Nat, c < 10 ∧ op = 64803 + (c : Int) := ⟨(op - 64803).toNat, by omega, by omega⟩
  rw [show (64803 : Int) + (c : Int) - 64803 = c by omega]
  exact rcmp_row0 c hc a b w
 split
 ·rename_i h
  obtain ⟨c, hc, rfl⟩ : ∃ c : Nat, c < 10 ∧ op = 64813 + (c : Int) := ⟨(op - 64813).toNat, by omega, by omega⟩
  rw [show (64813 : Int) + (c : Int) - 64813 = c by omega]
  exact rcmp_row1 c hc a b w
 split
 ·rename_i h
  obtain ⟨c, hc, rfl⟩ : ∃ c : Nat, c < 10 ∧ op = 64823 + (c : Int) := ⟨(op - 64823).toNat, by omega, by omega⟩
  rw [show (64823 : Int) + (c : Int) - 64823 = c by omega]
  exact rcmp_row2 c hc a b w
 split
 ·rename_i h; subst h; exact rcmp_64 0 0 (by decide) a b w
 split
 ·rename_i h; subst h; exact rcmp_64 1 1 (by decide) a b w
 split
 ·rename_i h; subst h; exact rcmp_64 2 2 (by decide) a b w
 split
 ·rename_i h; subst h; exact rcmp_64 4 3 (by decide) a b w
 split
 ·rename_i h; subst h; exact rcmp_64 6 4 (by decide) a b w
 split
 ·rename_i h; subst h; exact rcmp_64 8 5 (by decide) a b w
 ·refine rcmp_none op _ a b w rfl ?_
  rw [IntKind.wrap_i64] at *
  try unfold wrap64
  omega
end Go.Proofs.Ytcpfabkokgiepaa
end
