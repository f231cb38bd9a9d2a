/-
  Texts VmL, VmE, VmF, VmRS, VmS, VmX.
-/
import Derived.Test.YtmfmokblmipagaaGreatR03
import Derived.Test.YtmfmokblmipagaaGreatR14
set_option linter.unusedSimpArgs false
set_option linter.unusedVariables false
set_option maxHeartbeats 8000000
open Pl
section
namespace Go.Proofs.YtmfmokblmipagaaGreat
open Go.RowKit Pl
theorem store_zero {ops : Array Oper} {rest : List Oper} {o : Oper} {a : Act} {w : World} {Q : Exit → Act → World → Prop} (hgd : o.guard = none) (x y : Operand) (ho : o.op = .store 28 x y)
 (g : Nat) (hx : a.eval x = .pointer (some ⟨g, 0, none⟩)) (hy : a.eval y = .agg #[.int .u8 0, .int .u8 0, .int .u8 0, .int .u8 0, .int .u8 0, .int .u8 0, .int .u8 0, .int .u8 0, .int .u8 0, .int .u8 0, .int .u8 0, .int .u8 0, .int .u8 0, .int .u8 0, .int .u8 0, .int .u8 0]) (u : Vec) (hg : w.heap[g]? = some (.cells (cells u) 28 (0, 0)))
 (h : ∀ w', Sets w g 0 w' → wpList Tryz.prog ops Q rest (a.put o.dst undef) w') : wpList Tryz.prog ops Q (o :: rest) a w :=
 store_vec hgd x y ho g 0 hx (hy.trans (by rw [cells_zero])) u hg h
end Go.Proofs.YtmfmokblmipagaaGreat
end
section
namespace Go.Proofs.YtmfmokblmipagaaGreat
open Go.RowKit Pl
theorem kappa (op : Int) (hr : -9223372036854775808 ≤ op ∧ op ≤ 9223372036854775807) (h : ¬ (64768 ≤ op ∧ op ≤ 64779 ∨ 64852 ≤ op ∧ op ≤ 64861)) : ∃ κ, IntKind.i64.wrap (op - 64768) = κ ∧ (κ < 0 ∨ 12 ≤ κ ∧ κ < 84 ∨ 94 ≤ κ) := by
 refine ⟨_, rfl, ?_⟩
 by_cases h1 : -9223372036854775808 ≤ op - 64768
 ·rw [IntWalk.i64_in _ (by omega)]
  omega
 ·right; right
  have e : IntKind.i64.wrap (op - 64768) = op - 64768 + 18446744073709551616 := by
   simp only [IntKind.wrap, IntKind.bits, IntKind.signed]
   simp
   omega
  rw [e]
  omega
theorem vsize_none (op : Int) (w : World) (hr : -9223372036854775808 ≤ op ∧ op ≤ 9223372036854775807) (h : ¬ (64768 ≤ op ∧ op ≤ 64779 ∨ 64852 ≤ op ∧ op ≤ 64861)) : Calls Tryz.prog 13 #[.int .i64 op] w fun e w' => e = .returned (.int .i64 0) ∧ w' = w := by
 obtain ⟨κ, hκ, h1 | ⟨h1, h2⟩ | h1⟩ := kappa op hr h
 all_goals
  clear h hr
  go_enter Tryz.func13, Tryz.ntmps13
  go_wp2
  go_ret
  exact ⟨rfl, rfl⟩
def vszN (op : Int) : Int := if 64768 ≤ op ∧ op ≤ 64779 then [16, 8, 8, 8, 8, 8, 8, 1, 2, 4, 8, 16].getD (op - 64768).toNat 0 else if 64852 ≤ op ∧ op ≤ 64861 then [1, 2, 4, 8, 1, 2, 4, 8, 4, 8].getD (op - 64852).toNat 0 else 0
theorem vops (op : Int) (h : 64768 ≤ op ∧ op ≤ 64779 ∨ 64852 ≤ op ∧ op ≤ 64861) : op = 64768 ∨ op = 64769 ∨ op = 64770 ∨ op = 64771 ∨ op = 64772 ∨ op = 64773 ∨ op = 64774 ∨ op = 64775 ∨ op = 64776 ∨ op = 64777 ∨ op = 64778 ∨ op = 64779 ∨ op = 64852 ∨ op = 64853 ∨ op = 64854 ∨ op = 64855 ∨ op = 64856 ∨ op = 64857 ∨ op = 64858 ∨ op = 64859 ∨ op = 64860 ∨ op = 64861 := by omega
theorem vsize_any (op : Int) (w : World) (hr : -9223372036854775808 ≤ op ∧ op ≤ 9223372036854775807) : Calls Tryz.prog 13 #[.int .i64 op] w fun e w' => e = .returned (.int .i64 (vszN op)) ∧ w' = w := by
 by_cases h : 64768 ≤ op ∧ op ≤ 64779 ∨ 64852 ≤ op ∧ op ≤ 64861
 ·rcases vops op h with rfl | rfl | rfl | rfl | rfl | rfl | rfl | rfl | rfl | rfl | rfl | rfl | rfl | rfl | rfl | rfl | rfl | rfl | rfl | rfl | rfl | rfl
  ·exact vsize_00 w
  ·exact vsize_01 w
  ·exact vsize_02 w
  ·exact vsize_03 w
  ·exact vsize_04 w
  ·exact vsize_05 w
  ·exact vsize_06 w
  ·exact vsize_07 w
  ·exact vsize_08 w
  ·exact vsize_09 w
  ·exact vsize_0a w
  ·exact vsize_0b w
  ·exact vsize_54 w
  ·exact vsize_55 w
  ·exact vsize_56 w
  ·exact vsize_57 w
  ·exact vsize_58 w
  ·exact vsize_59 w
  ·exact vsize_5a w
  ·exact vsize_5b w
  ·exact vsize_5c w
  ·exact vsize_5d w
 ·have := vsize_none op w hr h
  rw [show vszN op = 0 by unfold vszN; rw [if_neg (by omega), if_neg (by omega)]]
  exact this
end Go.Proofs.YtmfmokblmipagaaGreat
end
section
namespace Go.Proofs.YtmfmokblmipagaaGreat
open Go.RowKit Pl
set_option maxHeartbeats 4000000
def vst (op : Int) : Bool := decide (op = 64779 ∨ 64856 ≤ op ∧ op ≤ 64859)
def vln (op : Int) : Prop := 64852 ≤ op ∧ op ≤ 64859
def VBad (op b lo : Int) (s : Bool) : Prop := ¬ (64768 ≤ op ∧ op ≤ 64779 ∨ 64852 ≤ op ∧ op ≤ 64861) ∨ vst op ≠ s ∨ b < 0 ∨ 4294967296 ≤ b ∨ (vln op ∧ 16 / vszN op ≤ lo)
end Go.Proofs.YtmfmokblmipagaaGreat
end
section
namespace Go.Proofs.YtmfmokblmipagaaGreat
open Go.RowKit Pl
theorem i64_test {a : Int} {b : Int} (h : a ≠ b) : (a == b) = false := by rw [beq_eq_false_iff_ne]; exact h
def Hit (κ : Int) (t : Nat) : Prop := κ = 7 + t ∨ κ = 84 + t ∨ κ = 88 + t ∨ 2 ≤ t ∧ κ = 90 + t
theorem ret_i64k {a b : Int} (h : a = b) : Ending.returned (.int .i64 a) = .returned (.int .i64 b) := by rw [h]
set_option maxRecDepth 100000 in
theorem rsz_core (op κ R : Int) (w : World) (hκ : IntKind.i64.wrap (op - 64768) = κ) (h0 : κ = 0 ∨ κ = 11 → R = 16) (h1 : 1 ≤ κ ∧ κ ≤ 6 → R = 8) (h2 : ∀ i : Nat, i < 4 → Hit κ i → R = 2 ^ i)
 (h3 : ¬ (κ = 0 ∨ κ = 11) → ¬ (1 ≤ κ ∧ κ ≤ 6) → (∀ i : Nat, i < 4 → ¬ Hit κ i) → R = 0) :
 Calls Tryz.prog 5 #[.int .i64 op] w fun e w' => e = .returned (.int .i64 R) ∧ w' = w := by
 have H2 := Lib.hid h2
 have H3 := Lib.hid h3
 clear h2 h3
 by_cases a : κ = 0
 ·have HR := Lib.hid (h0 (.inl a))
  have q : (κ == 0) = true := by rw [beq_iff_eq]; exact a
  clear h0 h1 a
  go_enter Tryz.func5, Tryz.ntmps5
  go_wp2
  go_ret
  exact ⟨ret_i64k HR.out.symm, rfl⟩
 have qa : (κ == 0) = false := i64_test a
 by_cases b : κ = 11
 ·have HR := Lib.hid (h0 (.inr b))
  have q : (κ == 11) = true := by rw [beq_iff_eq]; exact b
  clear h0 h1 a b
  go_enter Tryz.func5, Tryz.ntmps5
  go_wp2
  go_ret
  exact ⟨ret_i64k HR.out.symm, rfl⟩
 have qb : (κ == 11) = false := i64_test b
 by_cases c : 1 ≤ κ ∧ κ ≤ 6
 ·have HR := Lib.hid (h1 c)
  obtain ⟨c1, c2⟩ := c
  clear h0 h1 a b
  go_enter Tryz.func5, Tryz.ntmps5
  go_wp2
  go_ret
  exact ⟨ret_i64k HR.out.symm, rfl⟩
 replace H3 := Lib.hid (fun h => H3.out (by omega) c h)
 clear h0 h1 a b
 have hc : κ < 1 ∨ 6 < κ := by omega
 have HC := Lib.hid hc
 clear hc c
 go_enter Tryz.func5, Tryz.ntmps5
 rcases HC.out with hc | hc
 all_goals
  go_wp2_with fail
  go_loopw [4] (fun iv wr => ∃ i : Nat, i ≤ 4 ∧ iv = .int .i64 i ∧ (∀ t, t < i → ¬ Hit κ t) ∧ w = wr) (fun iv _ => (4 - intOf iv).toNat)
  case atStart => exact ⟨0, Nat.zero_le _, rfl, fun t h => absurd h (by omega), rfl⟩
  case round =>
   obtain ⟨i, hi, rfl, hz, rfl⟩ := hrel
   have HZ := Lib.hid hz
   clear hz
   rcases (show i = 0 ∨ i = 1 ∨ i = 2 ∨ i = 3 ∨ i = 4 by omega) with rfl | rfl | rfl | rfl | rfl
   ·go_wp2_with fail
    go_loopw [5, 6] (fun nv jv wr => ∃ j : Nat, j ≤ 0 ∧ nv = .int .i64 ((2 ^ j : Nat) : Int) ∧ jv = .int .i64 j ∧ w = wr) (fun _ jv _ => (0 - intOf jv).toNat)
    case atStart => exact ⟨0, Nat.zero_le _, rfl, rfl, rfl⟩
    case round =>
     obtain ⟨j, hj, rfl, rfl, rfl⟩ := hrel
     rcases (show j = 0 by omega) with rfl
     ·skip
      by_cases p0 : κ = 7
      ·have HR := Lib.hid (H2.out 0 (by decide) (by unfold Hit; omega))
       have q0 : (κ == 7) = true := by rw [beq_iff_eq]; exact p0
       clear p0
       go_wp2
       go_ret
       exact ⟨ret_i64k HR.out.symm, rfl⟩
      have q0 : (κ == 7) = false := i64_test p0
      by_cases p1 : κ = 84
      ·have HR := Lib.hid (H2.out 0 (by decide) (by unfold Hit; omega))
       have q1 : (κ == 84) = true := by rw [beq_iff_eq]; exact p1
       clear p1
       go_wp2
       go_ret
       exact ⟨ret_i64k HR.out.symm, rfl⟩
      have q1 : (κ == 84) = false := i64_test p1
      by_cases p2 : κ = 88
      ·have HR := Lib.hid (H2.out 0 (by decide) (by unfold Hit; omega))
       have q2 : (κ == 88) = true := by rw [beq_iff_eq]; exact p2
       clear p2
       go_wp2
       go_ret
       exact ⟨ret_i64k HR.out.symm, rfl⟩
      have q2 : (κ == 88) = false := i64_test p2
      have HN := Lib.hid (show ¬ Hit κ 0 by unfold Hit; omega)
      clear p0 p1 p2
      go_wp2_with fail
      go_roundw
      case rel => first | exact ⟨1, by decide, rfl, fun t ht => (by by_cases e : t = 0; (rw [e]; exact HN.out); exact HZ.out t (by omega)), by first | trivial | rfl⟩ | ((repeat apply Exists.intro); exact ⟨⟨1, by decide, rfl, fun t ht => (by by_cases e : t = 0; (rw [e]; exact HN.out); exact HZ.out t (by omega)), by first | trivial | rfl⟩, rfl⟩)
      case measure => (simp [intOf] <;> omega)
   ·go_wp2_with fail
    go_loopw [5, 6] (fun nv jv wr => ∃ j : Nat, j ≤ 1 ∧ nv = .int .i64 ((2 ^ j : Nat) : Int) ∧ jv = .int .i64 j ∧ w = wr) (fun _ jv _ => (1 - intOf jv).toNat)
    case atStart => exact ⟨0, Nat.zero_le _, rfl, rfl, rfl⟩
    case round =>
     obtain ⟨j, hj, rfl, rfl, rfl⟩ := hrel
     rcases (show j = 0 ∨ j = 1 by omega) with rfl | rfl
     ·go_wp2_with fail
      go_roundw
      case rel => exact ⟨1, by decide, by first | rfl | go_num | trivial, by first | rfl | go_num | trivial, by first | rfl | go_num | trivial⟩
      case measure => (simp [intOf] <;> omega)
     ·skip
      by_cases p0 : κ = 8
      ·have HR := Lib.hid (H2.out 1 (by decide) (by unfold Hit; omega))
       have q0 : (κ == 8) = true := by rw [beq_iff_eq]; exact p0
       clear p0
       go_wp2
       go_ret
       exact ⟨ret_i64k HR.out.symm, rfl⟩
      have q0 : (κ == 8) = false := i64_test p0
      by_cases p1 : κ = 85
      ·have HR := Lib.hid (H2.out 1 (by decide) (by unfold Hit; omega))
       have q1 : (κ == 85) = true := by rw [beq_iff_eq]; exact p1
       clear p1
       go_wp2
       go_ret
       exact ⟨ret_i64k HR.out.symm, rfl⟩
      have q1 : (κ == 85) = false := i64_test p1
      by_cases p2 : κ = 89
      ·have HR := Lib.hid (H2.out 1 (by decide) (by unfold Hit; omega))
       have q2 : (κ == 89) = true := by rw [beq_iff_eq]; exact p2
       clear p2
       go_wp2
       go_ret
       exact ⟨ret_i64k HR.out.symm, rfl⟩
      have q2 : (κ == 89) = false := i64_test p2
      have HN := Lib.hid (show ¬ Hit κ 1 by unfold Hit; omega)
      clear p0 p1 p2
      go_wp2_with fail
      go_roundw
      case rel => first | exact ⟨2, by decide, rfl, fun t ht => (by by_cases e : t = 1; (rw [e]; exact HN.out); exact HZ.out t (by omega)), by first | trivial | rfl⟩ | ((repeat apply Exists.intro); exact ⟨⟨2, by decide, rfl, fun t ht => (by by_cases e : t = 1; (rw [e]; exact HN.out); exact HZ.out t (by omega)), by first | trivial | rfl⟩, rfl⟩)
      case measure => (simp [intOf] <;> omega)
   ·go_wp2_with fail
    go_loopw [5, 6] (fun nv jv wr => ∃ j : Nat, j ≤ 2 ∧ nv = .int .i64 ((2 ^ j : Nat) : Int) ∧ jv = .int .i64 j ∧ w = wr) (fun _ jv _ => (2 - intOf jv).toNat)
    case atStart => exact ⟨0, Nat.zero_le _, rfl, rfl, rfl⟩
    case round =>
     obtain ⟨j, hj, rfl, rfl, rfl⟩ := hrel
     rcases (show j = 0 ∨ j = 1 ∨ j = 2 by omega) with rfl | rfl | rfl
     ·go_wp2_with fail
      go_roundw
      case rel => exact ⟨1, by decide, by first | rfl | go_num | trivial, by first | rfl | go_num | trivial, by first | rfl | go_num | trivial⟩
      case measure => (simp [intOf] <;> omega)
     ·go_wp2_with fail
      go_roundw
      case rel => exact ⟨2, by decide, by first | rfl | go_num | trivial, by first | rfl | go_num | trivial, by first | rfl | go_num | trivial⟩
      case measure => (simp [intOf] <;> omega)
     ·skip
      by_cases p0 : κ = 9
      ·have HR := Lib.hid (H2.out 2 (by decide) (by unfold Hit; omega))
       have q0 : (κ == 9) = true := by rw [beq_iff_eq]; exact p0
       clear p0
       go_wp2
       go_ret
       exact ⟨ret_i64k HR.out.symm, rfl⟩
      have q0 : (κ == 9) = false := i64_test p0
      by_cases p1 : κ = 86
      ·have HR := Lib.hid (H2.out 2 (by decide) (by unfold Hit; omega))
       have q1 : (κ == 86) = true := by rw [beq_iff_eq]; exact p1
       clear p1
       go_wp2
       go_ret
       exact ⟨ret_i64k HR.out.symm, rfl⟩
      have q1 : (κ == 86) = false := i64_test p1
      by_cases p2 : κ = 90
      ·have HR := Lib.hid (H2.out 2 (by decide) (by unfold Hit; omega))
       have q2 : (κ == 90) = true := by rw [beq_iff_eq]; exact p2
       clear p2
       go_wp2
       go_ret
       exact ⟨ret_i64k HR.out.symm, rfl⟩
      have q2 : (κ == 90) = false := i64_test p2
      by_cases p3 : κ = 92
      ·have HR := Lib.hid (H2.out 2 (by decide) (by unfold Hit; omega))
       have q3 : (κ == 92) = true := by rw [beq_iff_eq]; exact p3
       clear p3
       go_wp2
       go_ret
       exact ⟨ret_i64k HR.out.symm, rfl⟩
      have q3 : (κ == 92) = false := i64_test p3
      have HN := Lib.hid (show ¬ Hit κ 2 by unfold Hit; omega)
      clear p0 p1 p2 p3
      go_wp2_with fail
      go_roundw
      case rel => first | exact ⟨3, by decide, rfl, fun t ht => (by by_cases e : t = 2; (rw [e]; exact HN.out); exact HZ.out t (by omega)), by first | trivial | rfl⟩ | ((repeat apply Exists.intro); exact ⟨⟨3, by decide, rfl, fun t ht => (by by_cases e : t = 2; (rw [e]; exact HN.out); exact HZ.out t (by omega)), by first | trivial | rfl⟩, rfl⟩)
      case measure => (simp [intOf] <;> omega)
   ·go_wp2_with fail
    go_loopw [5, 6] (fun nv jv wr => ∃ j : Nat, j ≤ 3 ∧ nv = .int .i64 ((2 ^ j : Nat) : Int) ∧ jv = .int .i64 j ∧ w = wr) (fun _ jv _ => (3 - intOf jv).toNat)
    case atStart => exact ⟨0, Nat.zero_le _, rfl, rfl, rfl⟩
    case round =>
     obtain ⟨j, hj, rfl, rfl, rfl⟩ := hrel
     rcases (show j = 0 ∨ j = 1 ∨ j = 2 ∨ j = 3 by omega) with rfl | rfl | rfl | rfl
     ·go_wp2_with fail
      go_roundw
      case rel => exact ⟨1, by decide, by first | rfl | go_num | trivial, by first | rfl | go_num | trivial, by first | rfl | go_num | trivial⟩
      case measure => (simp [intOf] <;> omega)
     ·go_wp2_with fail
      go_roundw
      case rel => exact ⟨2, by decide, by first | rfl | go_num | trivial, by first | rfl | go_num | trivial, by first | rfl | go_num | trivial⟩
      case measure => (simp [intOf] <;> omega)
     ·go_wp2_with fail
      go_roundw
      case rel => exact ⟨3, by decide, by first | rfl | go_num | trivial, by first | rfl | go_num | trivial, by first | rfl | go_num | trivial⟩
      case measure => (simp [intOf] <;> omega)
     ·skip
      by_cases p0 : κ = 10
      ·have HR := Lib.hid (H2.out 3 (by decide) (by unfold Hit; omega))
       have q0 : (κ == 10) = true := by rw [beq_iff_eq]; exact p0
       clear p0
       go_wp2
       go_ret
       exact ⟨ret_i64k HR.out.symm, rfl⟩
      have q0 : (κ == 10) = false := i64_test p0
      by_cases p1 : κ = 87
      ·have HR := Lib.hid (H2.out 3 (by decide) (by unfold Hit; omega))
       have q1 : (κ == 87) = true := by rw [beq_iff_eq]; exact p1
       clear p1
       go_wp2
       go_ret
       exact ⟨ret_i64k HR.out.symm, rfl⟩
      have q1 : (κ == 87) = false := i64_test p1
      by_cases p2 : κ = 91
      ·have HR := Lib.hid (H2.out 3 (by decide) (by unfold Hit; omega))
       have q2 : (κ == 91) = true := by rw [beq_iff_eq]; exact p2
       clear p2
       go_wp2
       go_ret
       exact ⟨ret_i64k HR.out.symm, rfl⟩
      have q2 : (κ == 91) = false := i64_test p2
      by_cases p3 : κ = 93
      ·have HR := Lib.hid (H2.out 3 (by decide) (by unfold Hit; omega))
       have q3 : (κ == 93) = true := by rw [beq_iff_eq]; exact p3
       clear p3
       go_wp2
       go_ret
       exact ⟨ret_i64k HR.out.symm, rfl⟩
      have q3 : (κ == 93) = false := i64_test p3
      have HN := Lib.hid (show ¬ Hit κ 3 by unfold Hit; omega)
      clear p0 p1 p2 p3
      go_wp2_with fail
      go_roundw
      case rel => first | exact ⟨4, by decide, rfl, fun t ht => (by by_cases e : t = 3; (rw [e]; exact HN.out); exact HZ.out t (by omega)), by first | trivial | rfl⟩ | ((repeat apply Exists.intro); exact ⟨⟨4, by decide, rfl, fun t ht => (by by_cases e : t = 3; (rw [e]; exact HN.out); exact HZ.out t (by omega)), by first | trivial | rfl⟩, rfl⟩)
      case measure => (simp [intOf] <;> omega)
   ·go_wp2
    go_ret
    exact ⟨ret_i64k (H3.out HZ.out).symm, rfl⟩
theorem rsz_any (op : Int) (w : World) (hr : -9223372036854775808 ≤ op ∧ op ≤ 9223372036854775807) : Calls Tryz.prog 5 #[.int .i64 op] w fun e w' => e = .returned (.int .i64 (vszN op)) ∧ w' = w := by
 by_cases h : 64768 ≤ op ∧ op ≤ 64779 ∨ 64852 ≤ op ∧ op ≤ 64861
 ·rcases vops op h with rfl | rfl | rfl | rfl | rfl | rfl | rfl | rfl | rfl | rfl | rfl | rfl | rfl | rfl | rfl | rfl | rfl | rfl | rfl | rfl | rfl | rfl
  ·exact rsz_core 64768 0 16 w rfl (by omega) (by omega) (by intro i hi h; unfold Hit at h; rcases (show i = 0 ∨ i = 1 ∨ i = 2 ∨ i = 3 by omega) with rfl | rfl | rfl | rfl <;> first | rfl | (exfalso; omega)) (by intro h h' k; first | (exfalso; omega) | exact absurd (show Hit _ 0 by unfold Hit; omega) (k 0 (by decide)) | exact absurd (show Hit _ 1 by unfold Hit; omega) (k 1 (by decide)) | exact absurd (show Hit _ 2 by unfold Hit; omega) (k 2 (by decide)) | exact absurd (show Hit _ 3 by unfold Hit; omega) (k 3 (by decide)))
  ·exact rsz_core 64769 1 8 w rfl (by omega) (by omega) (by intro i hi h; unfold Hit at h; rcases (show i = 0 ∨ i = 1 ∨ i = 2 ∨ i = 3 by omega) with rfl | rfl | rfl | rfl <;> first | rfl | (exfalso; omega)) (by intro h h' k; first | (exfalso; omega) | exact absurd (show Hit _ 0 by unfold Hit; omega) (k 0 (by decide)) | exact absurd (show Hit _ 1 by unfold Hit; omega) (k 1 (by decide)) | exact absurd (show Hit _ 2 by unfold Hit; omega) (k 2 (by decide)) | exact absurd (show Hit _ 3 by unfold Hit; omega) (k 3 (by decide)))
  ·exact rsz_core 64770 2 8 w rfl (by omega) (by omega) (by intro i hi h; unfold Hit at h; rcases (show i = 0 ∨ i = 1 ∨ i = 2 ∨ i = 3 by omega) with rfl | rfl | rfl | rfl <;> first | rfl | (exfalso; omega)) (by intro h h' k; first | (exfalso; omega) | exact absurd (show Hit _ 0 by unfold Hit; omega) (k 0 (by decide)) | exact absurd (show Hit _ 1 by unfold Hit; omega) (k 1 (by decide)) | exact absurd (show Hit _ 2 by unfold Hit; omega) (k 2 (by decide)) | exact absurd (show Hit _ 3 by unfold Hit; omega) (k 3 (by decide)))
  ·exact rsz_core 64771 3 8 w rfl (by omega) (by omega) (by intro i hi h; unfold Hit at h; rcases (show i = 0 ∨ i = 1 ∨ i = 2 ∨ i = 3 by omega) with rfl | rfl | rfl | rfl <;> first | rfl | (exfalso; omega)) (by intro h h' k; first | (exfalso; omega) | exact absurd (show Hit _ 0 by unfold Hit; omega) (k 0 (by decide)) | exact absurd (show Hit _ 1 by unfold Hit; omega) (k 1 (by decide)) | exact absurd (show Hit _ 2 by unfold Hit; omega) (k 2 (by decide)) | exact absurd (show Hit _ 3 by unfold Hit; omega) (k 3 (by decide)))
  ·exact rsz_core 64772 4 8 w rfl (by omega) (by omega) (by intro i hi h; unfold Hit at h; rcases (show i = 0 ∨ i = 1 ∨ i = 2 ∨ i = 3 by omega) with rfl | rfl | rfl | rfl <;> first | rfl | (exfalso; omega)) (by intro h h' k; first | (exfalso; omega) | exact absurd (show Hit _ 0 by unfold Hit; omega) (k 0 (by decide)) | exact absurd (show Hit _ 1 by unfold Hit; omega) (k 1 (by decide)) | exact absurd (show Hit _ 2 by unfold Hit; omega) (k 2 (by decide)) | exact absurd (show Hit _ 3 by unfold Hit; omega) (k 3 (by decide)))
  ·exact rsz_core 64773 5 8 w rfl (by omega) (by omega) (by intro i hi h; unfold Hit at h; rcases (show i = 0 ∨ i = 1 ∨ i = 2 ∨ i = 3 by omega) with rfl | rfl | rfl | rfl <;> first | rfl | (exfalso; omega)) (by intro h h' k; first | (exfalso; omega) | exact absurd (show Hit _ 0 by unfold Hit; omega) (k 0 (by decide)) | exact absurd (show Hit _ 1 by unfold Hit; omega) (k 1 (by decide)) | exact absurd (show Hit _ 2 by unfold Hit; omega) (k 2 (by decide)) | exact absurd (show Hit _ 3 by unfold Hit; omega) (k 3 (by decide)))
  ·exact rsz_core 64774 6 8 w rfl (by omega) (by omega) (by intro i hi h; unfold Hit at h; rcases (show i = 0 ∨ i = 1 ∨ i = 2 ∨ i = 3 by omega) with rfl | rfl | rfl | rfl <;> first | rfl | (exfalso; omega)) (by intro h h' k; first | (exfalso; omega) | exact absurd (show Hit _ 0 by unfold Hit; omega) (k 0 (by decide)) | exact absurd (show Hit _ 1 by unfold Hit; omega) (k 1 (by decide)) | exact absurd (show Hit _ 2 by unfold Hit; omega) (k 2 (by decide)) | exact absurd (show Hit _ 3 by unfold Hit; omega) (k 3 (by decide)))
  ·exact rsz_core 64775 7 1 w rfl (by omega) (by omega) (by intro i hi h; unfold Hit at h; rcases (show i = 0 ∨ i = 1 ∨ i = 2 ∨ i = 3 by omega) with rfl | rfl | rfl | rfl <;> first | rfl | (exfalso; omega)) (by intro h h' k; first | (exfalso; omega) | exact absurd (show Hit _ 0 by unfold Hit; omega) (k 0 (by decide)) | exact absurd (show Hit _ 1 by unfold Hit; omega) (k 1 (by decide)) | exact absurd (show Hit _ 2 by unfold Hit; omega) (k 2 (by decide)) | exact absurd (show Hit _ 3 by unfold Hit; omega) (k 3 (by decide)))
  ·exact rsz_core 64776 8 2 w rfl (by omega) (by omega) (by intro i hi h; unfold Hit at h; rcases (show i = 0 ∨ i = 1 ∨ i = 2 ∨ i = 3 by omega) with rfl | rfl | rfl | rfl <;> first | rfl | (exfalso; omega)) (by intro h h' k; first | (exfalso; omega) | exact absurd (show Hit _ 0 by unfold Hit; omega) (k 0 (by decide)) | exact absurd (show Hit _ 1 by unfold Hit; omega) (k 1 (by decide)) | exact absurd (show Hit _ 2 by unfold Hit; omega) (k 2 (by decide)) | exact absurd (show Hit _ 3 by unfold Hit; omega) (k 3 (by decide)))
  ·exact rsz_core 64777 9 4 w rfl (by omega) (by omega) (by intro i hi h; unfold Hit at h; rcases (show i = 0 ∨ i = 1 ∨ i = 2 ∨ i = 3 by omega) with rfl | rfl | rfl | rfl <;> first | rfl | (exfalso; omega)) (by intro h h' k; first | (exfalso; omega) | exact absurd (show Hit _ 0 by unfold Hit; omega) (k 0 (by decide)) | exact absurd (show Hit _ 1 by unfold Hit; omega) (k 1 (by decide)) | exact absurd (show Hit _ 2 by unfold Hit; omega) (k 2 (by decide)) | exact absurd (show Hit _ 3 by unfold Hit; omega) (k 3 (by decide)))
  ·exact rsz_core 64778 10 8 w rfl (by omega) (by omega) (by intro i hi h; unfold Hit at h; rcases (show i = 0 ∨ i = 1 ∨ i = 2 ∨ i = 3 by omega) with rfl | rfl | rfl | rfl <;> first | rfl | (exfalso; omega)) (by intro h h' k; first | (exfalso; omega) | exact absurd (show Hit _ 0 by unfold Hit; omega) (k 0 (by decide)) | exact absurd (show Hit _ 1 by unfold Hit; omega) (k 1 (by decide)) | exact absurd (show Hit _ 2 by unfold Hit; omega) (k 2 (by decide)) | exact absurd (show Hit _ 3 by unfold Hit; omega) (k 3 (by decide)))
  ·exact rsz_core 64779 11 16 w rfl (by omega) (by omega) (by intro i hi h; unfold Hit at h; rcases (show i = 0 ∨ i = 1 ∨ i = 2 ∨ i = 3 by omega) with rfl | rfl | rfl | rfl <;> first | rfl | (exfalso; omega)) (by intro h h' k; first | (exfalso; omega) | exact absurd (show Hit _ 0 by unfold Hit; omega) (k 0 (by decide)) | exact absurd (show Hit _ 1 by unfold Hit; omega) (k 1 (by decide)) | exact absurd (show Hit _ 2 by unfold Hit; omega) (k 2 (by decide)) | exact absurd (show Hit _ 3 by unfold Hit; omega) (k 3 (by decide)))
  ·exact rsz_core 64852 84 1 w rfl (by omega) (by omega) (by intro i hi h; unfold Hit at h; rcases (show i = 0 ∨ i = 1 ∨ i = 2 ∨ i = 3 by omega) with rfl | rfl | rfl | rfl <;> first | rfl | (exfalso; omega)) (by intro h h' k; first | (exfalso; omega) | exact absurd (show Hit _ 0 by unfold Hit; omega) (k 0 (by decide)) | exact absurd (show Hit _ 1 by unfold Hit; omega) (k 1 (by decide)) | exact absurd (show Hit _ 2 by unfold Hit; omega) (k 2 (by decide)) | exact absurd (show Hit _ 3 by unfold Hit; omega) (k 3 (by decide)))
  ·exact rsz_core 64853 85 2 w rfl (by omega) (by omega) (by intro i hi h; unfold Hit at h; rcases (show i = 0 ∨ i = 1 ∨ i = 2 ∨ i = 3 by omega) with rfl | rfl | rfl | rfl <;> first | rfl | (exfalso; omega)) (by intro h h' k; first | (exfalso; omega) | exact absurd (show Hit _ 0 by unfold Hit; omega) (k 0 (by decide)) | exact absurd (show Hit _ 1 by unfold Hit; omega) (k 1 (by decide)) | exact absurd (show Hit _ 2 by unfold Hit; omega) (k 2 (by decide)) | exact absurd (show Hit _ 3 by unfold Hit; omega) (k 3 (by decide)))
  ·exact rsz_core 64854 86 4 w rfl (by omega) (by omega) (by intro i hi h; unfold Hit at h; rcases (show i = 0 ∨ i = 1 ∨ i = 2 ∨ i = 3 by omega) with rfl | rfl | rfl | rfl <;> first | rfl | (exfalso; omega)) (by intro h h' k; first | (exfalso; omega) | exact absurd (show Hit _ 0 by unfold Hit; omega) (k 0 (by decide)) | exact absurd (show Hit _ 1 by unfold Hit; omega) (k 1 (by decide)) | exact absurd (show Hit _ 2 by unfold Hit; omega) (k 2 (by decide)) | exact absurd (show Hit _ 3 by unfold Hit; omega) (k 3 (by decide)))
  ·exact rsz_core 64855 87 8 w rfl (by omega) (by omega) (by intro i hi h; unfold Hit at h; rcases (show i = 0 ∨ i = 1 ∨ i = 2 ∨ i = 3 by omega) with rfl | rfl | rfl | rfl <;> first | rfl | (exfalso; omega)) (by intro h h' k; first | (exfalso; omega) | exact absurd (show Hit _ 0 by unfold Hit; omega) (k 0 (by decide)) | exact absurd (show Hit _ 1 by unfold Hit; omega) (k 1 (by decide)) | exact absurd (show Hit _ 2 by unfold Hit; omega) (k 2 (by decide)) | exact absurd (show Hit _ 3 by unfold Hit; omega) (k 3 (by decide)))
  ·exact rsz_core 64856 88 1 w rfl (by omega) (by omega) (by intro i hi h; unfold Hit at h; rcases (show i = 0 ∨ i = 1 ∨ i = 2 ∨ i = 3 by omega) with rfl | rfl | rfl | rfl <;> first | rfl | (exfalso; omega)) (by intro h h' k; first | (exfalso; omega) | exact absurd (show Hit _ 0 by unfold Hit; omega) (k 0 (by decide)) | exact absurd (show Hit _ 1 by unfold Hit; omega) (k 1 (by decide)) | exact absurd (show Hit _ 2 by unfold Hit; omega) (k 2 (by decide)) | exact absurd (show Hit _ 3 by unfold Hit; omega) (k 3 (by decide)))
  ·exact rsz_core 64857 89 2 w rfl (by omega) (by omega) (by intro i hi h; unfold Hit at h; rcases (show i = 0 ∨ i = 1 ∨ i = 2 ∨ i = 3 by omega) with rfl | rfl | rfl | rfl <;> first | rfl | (exfalso; omega)) (by intro h h' k; first | (exfalso; omega) | exact absurd (show Hit _ 0 by unfold Hit; omega) (k 0 (by decide)) | exact absurd (show Hit _ 1 by unfold Hit; omega) (k 1 (by decide)) | exact absurd (show Hit _ 2 by unfold Hit; omega) (k 2 (by decide)) | exact absurd (show Hit _ 3 by unfold Hit; omega) (k 3 (by decide)))
  ·exact rsz_core 64858 90 4 w rfl (by omega) (by omega) (by intro i hi h; unfold Hit at h; rcases (show i = 0 ∨ i = 1 ∨ i = 2 ∨ i = 3 by omega) with rfl | rfl | rfl | rfl <;> first | rfl | (exfalso; omega)) (by intro h h' k; first | (exfalso; omega) | exact absurd (show Hit _ 0 by unfold Hit; omega) (k 0 (by decide)) | exact absurd (show Hit _ 1 by unfold Hit; omega) (k 1 (by decide)) | exact absurd (show Hit _ 2 by unfold Hit; omega) (k 2 (by decide)) | exact absurd (show Hit _ 3 by unfold Hit; omega) (k 3 (by decide)))
  ·exact rsz_core 64859 91 8 w rfl (by omega) (by omega) (by intro i hi h; unfold Hit at h; rcases (show i = 0 ∨ i = 1 ∨ i = 2 ∨ i = 3 by omega) with rfl | rfl | rfl | rfl <;> first | rfl | (exfalso; omega)) (by intro h h' k; first | (exfalso; omega) | exact absurd (show Hit _ 0 by unfold Hit; omega) (k 0 (by decide)) | exact absurd (show Hit _ 1 by unfold Hit; omega) (k 1 (by decide)) | exact absurd (show Hit _ 2 by unfold Hit; omega) (k 2 (by decide)) | exact absurd (show Hit _ 3 by unfold Hit; omega) (k 3 (by decide)))
  ·exact rsz_core 64860 92 4 w rfl (by omega) (by omega) (by intro i hi h; unfold Hit at h; rcases (show i = 0 ∨ i = 1 ∨ i = 2 ∨ i = 3 by omega) with rfl | rfl | rfl | rfl <;> first | rfl | (exfalso; omega)) (by intro h h' k; first | (exfalso; omega) | exact absurd (show Hit _ 0 by unfold Hit; omega) (k 0 (by decide)) | exact absurd (show Hit _ 1 by unfold Hit; omega) (k 1 (by decide)) | exact absurd (show Hit _ 2 by unfold Hit; omega) (k 2 (by decide)) | exact absurd (show Hit _ 3 by unfold Hit; omega) (k 3 (by decide)))
  ·exact rsz_core 64861 93 8 w rfl (by omega) (by omega) (by intro i hi h; unfold Hit at h; rcases (show i = 0 ∨ i = 1 ∨ i = 2 ∨ i = 3 by omega) with rfl | rfl | rfl | rfl <;> first | rfl | (exfalso; omega)) (by intro h h' k; first | (exfalso; omega) | exact absurd (show Hit _ 0 by unfold Hit; omega) (k 0 (by decide)) | exact absurd (show Hit _ 1 by unfold Hit; omega) (k 1 (by decide)) | exact absurd (show Hit _ 2 by unfold Hit; omega) (k 2 (by decide)) | exact absurd (show Hit _ 3 by unfold Hit; omega) (k 3 (by decide)))
 ·have e : vszN op = 0 := by unfold vszN; rw [if_neg (by omega), if_neg (by omega)]
  rw [e]
  obtain ⟨κ, hκ, hx⟩ := kappa op hr h
  refine rsz_core op κ 0 w hκ (fun _ => by omega) (fun _ => by omega) (fun i hi hh => ?_) (fun _ _ _ => rfl)
  unfold Hit at hh
  omega
theorem rst_any (op : Int) (w : World) : Calls Tryz.prog 17 #[.int .i64 op] w fun e w' => e = .returned (.bool (vst op)) ∧ w' = w := by
 by_cases a : op = 64779
 ·have hv : vst op = true := by unfold vst; rw [decide_eq_true (.inl a)]
  rw [hv]
  have q : (op == 64779) = true := by rw [beq_iff_eq]; exact a
  clear a hv
  go_enter Tryz.func17, Tryz.ntmps17
  go_wp2
  go_ret
  exact ⟨rfl, rfl⟩
 have q : (op == 64779) = false := i64_test a
 rcases (show op < 64856 ∨ 64859 < op ∨ (64856 ≤ op ∧ op ≤ 64859) by omega) with b | b | ⟨b, c⟩
 ·have hv : vst op = false := by unfold vst; rw [decide_eq_false (by omega)]
  rw [hv]
  clear a hv
  go_enter Tryz.func17, Tryz.ntmps17
  go_wp2
  go_ret
  exact ⟨rfl, rfl⟩
 ·have hv : vst op = false := by unfold vst; rw [decide_eq_false (by omega)]
  rw [hv]
  have q3 : decide (op ≤ 64859) = false := decide_eq_false (by omega)
  clear a hv
  go_enter Tryz.func17, Tryz.ntmps17
  go_wp2
  go_ret
  exact ⟨rfl, rfl⟩
 ·have hv : vst op = true := by unfold vst; rw [decide_eq_true (.inr ⟨b, c⟩)]
  rw [hv]
  clear a hv
  go_enter Tryz.func17, Tryz.ntmps17
  go_wp2
  go_ret
  exact ⟨rfl, rfl⟩
end Go.Proofs.YtmfmokblmipagaaGreat
end
section
namespace Go.Proofs.YtmfmokblmipagaaGreat
open Go.RowKit Pl
def lowV (x : Nat) : Vec := buildOn 0 64 (fun i => [x].getD i 0) 1
def spreadV (x w : Nat) (s : Bool) : Vec := buildOn 0 (2 * w) (fun i => if s then u64 (sgn w (getN (lowV x) w i)) else getN (lowV x) w i) (64 / w)
end Go.Proofs.YtmfmokblmipagaaGreat
end
section
namespace Go.Proofs.YtmfmokblmipagaaGreat
open Go.RowKit Pl
end Go.Proofs.YtmfmokblmipagaaGreat
end
