/-
  plaitlaw03.one; the walk of NumAll.
-/
import Derived.Test.YtllffbdcpilioaaDoorNumRC
import Derived.Test.YtllffbdcpilioaaDoorNumRD
set_option linter.unusedSimpArgs false
set_option linter.unusedVariables false
namespace Go.Proofs.YtllffbdcpilioaaDoor
open Go.RowKit _root_.Nm
set_option linter.unusedVariables false

theorem cell_lt {w : World} {a : Addr} {v : Value} (h : w.cell? a = some v) : a.block < w.heap.size := by
  by_cases hl : a.block < w.heap.size
  · exact hl
  · rw [World.cell?, Array.getElem?_eq_none (by omega)] at h
    cases h
theorem Tab32.below {w u : World} (h : Tab32 w) (hb : Below w.heap.size w u) : Tab32 u := fun k hk => by
  have h1 := h k hk
  rw [hb.cell (cell_lt h1)]
  exact h1
theorem Tab64.below {w u : World} (h : Tab64 w) (hb : Below w.heap.size w u) : Tab64 u := fun k hk => by
  have h1 := h k hk
  rw [hb.cell (cell_lt h1)]
  exact h1
structure NW (w0 u : World) : Prop where
  bel : Below w0.heap.size w0 u
  t32 : Tab32 u
  t64 : Tab64 u
theorem NW.below {w0 u v : World} (h : NW w0 u) (hb : Below u.heap.size u v) : NW w0 v := ⟨h.bel.trans (hb.mono h.bel.size), h.t32.below hb, h.t64.below hb⟩
set_option maxHeartbeats 2000000 in
theorem one_any (op : Int) (x y : B64) (w : World) (ho : -9223372036854775808 ≤ op ∧ op ≤ 9223372036854775807) (hT : Tab32 w) (hT2 : Tab64 w) :
    Calls Tryd.prog 13 #[.int .i64 op, .int .u64 (x.toNat : Int), .int .u64 (y.toNat : Int)] w fun e w' => e = .returned (.bool true) ∧ Below w.heap.size w w' := by
  have hs : NW w w := ⟨Below.refl _ _, hT, hT2⟩
  clear hT hT2
  have H1 : ∀ W, Tab32 W → Tab64 W → Calls Tryd.prog 18 #[.int .i64 op, .int .u64 (x.toNat : Int)] W fun e w' => e = .returned (.tuple #[.int .u64 ((unB op x).1.toNat : Int), .int .i64 (unB op x).2]) ∧ Below W.heap.size W w' := fun W h1 h2 => pun_any op x W h1 h2
  have H2 : ∀ W, Calls Tryd.prog 19 #[.int .i64 op, .int .u64 (x.toNat : Int)] W fun e w' => e = .returned (.tuple #[.int .u64 ((unB op x).1.toNat : Int), .int .i64 (unB op x).2]) ∧ Below W.heap.size W w' := fun W => run_any op x W
  have H3 : ∀ W, Calls Tryd.prog 14 #[.int .i64 op, .int .u64 (x.toNat : Int), .int .u64 (y.toNat : Int)] W fun e w' => e = .returned (.tuple #[.int .u64 ((binB op x y).1.toNat : Int), .int .i64 (binB op x y).2]) ∧ w' = W := fun W => bin_any op x y W ho
  have H4 : ∀ W, Calls Tryd.prog 20 #[.int .i64 op, .int .u64 (x.toNat : Int), .int .u64 (y.toNat : Int)] W fun e w' => e = .returned (.tuple #[.int .u64 ((binB op x y).1.toNat : Int), .int .i64 (binB op x y).2]) ∧ Below W.heap.size W w' := fun W => rbin_any op x y W
  have H5 : ∀ W, Calls Tryd.prog 11 #[.int .i64 op] W fun e w' => e = .returned (.int .i64 (arN op)) ∧ w' = W := fun W => arity_any op W
  have H6 : ∀ W, Calls Tryd.prog 12 #[.int .i64 op] W fun e w' => e = .returned (.int .i64 (arN op)) ∧ Below W.heap.size W w' := fun W => rarity_k op W
  generalize ((unB op x).1.toNat : Int) = z1 at *
  generalize (unB op x).2 = z2 at *
  generalize ((binB op x y).1.toNat : Int) = z3 at *
  generalize (binB op x y).2 = z4 at *
  generalize arN op = z5 at *
  generalize (x.toNat : Int) = X at *
  generalize (y.toNat : Int) = Y at *
  replace H1 := Lib.hid H1
  replace H2 := Lib.hid H2
  replace H3 := Lib.hid H3
  replace H4 := Lib.hid H4
  replace H5 := Lib.hid H5
  replace H6 := Lib.hid H6
  clear ho
  go_enter Tryd.func13, Tryd.ntmps13
  go_wp2_with (first | (go_at_call 18; (with_reducible refine (H1.out _ hs.t32 hs.t64).mono ?_); rintro e u ⟨rfl, hb⟩; replace hs := hs.below hb; clear hb) | (go_at_call 19; (with_reducible refine (H2.out _).mono ?_); rintro e u ⟨rfl, hb⟩; replace hs := hs.below hb; clear hb) | (go_at_call 14; (with_reducible refine (H3.out _).mono ?_); rintro e u ⟨rfl, h0⟩; obtain rfl := h0.symm; clear h0) | (go_at_call 20; (with_reducible refine (H4.out _).mono ?_); rintro e u ⟨rfl, hb⟩; replace hs := hs.below hb; clear hb) | (go_at_call 11; (with_reducible refine (H5.out _).mono ?_); rintro e u ⟨rfl, h0⟩; obtain rfl := h0.symm; clear h0) | (go_at_call 12; (with_reducible refine (H6.out _).mono ?_); rintro e u ⟨rfl, hb⟩; replace hs := hs.below hb; clear hb))
  go_ret
  exact ⟨rfl, hs.bel⟩
set_option maxHeartbeats 2000000 in
theorem all_walk (op : Int) (x y : B64) (w : World) (ho : -9223372036854775808 ≤ op ∧ op ≤ 9223372036854775807) (hT : Tab32 w) (hT2 : Tab64 w) :
    Calls Tryd.prog 3 #[.int .i64 op, .int .u64 (x.toNat : Int), .int .u64 (y.toNat : Int)] w fun e w' => e = .returned (.bool true) ∧ Below w.heap.size w w' := by
  have hs : NW w w := ⟨Below.refl _ _, hT, hT2⟩
  clear hT hT2
  have H1 : ∀ (op : Int) (W : World), (-9223372036854775808 ≤ op ∧ op ≤ 9223372036854775807) → Tab32 W → Tab64 W → Calls Tryd.prog 13 #[.int .i64 op, .int .u64 (x.toNat : Int), .int .u64 (y.toNat : Int)] W fun e w' => e = .returned (.bool true) ∧ Below W.heap.size W w' := fun op W h h1 h2 => one_any op x y W h h1 h2
  have H5 : ∀ W, Calls Tryd.prog 11 #[.int .i64 op] W fun e w' => e = .returned (.int .i64 (arN op)) ∧ w' = W := fun W => arity_any op W
  have H6 : ∀ W, Calls Tryd.prog 12 #[.int .i64 op] W fun e w' => e = .returned (.int .i64 (arN op)) ∧ Below W.heap.size W w' := fun W => rarity_k op W
  generalize arN op = z5 at *
  generalize (x.toNat : Int) = X at *
  generalize (y.toNat : Int) = Y at *
  replace H1 := Lib.hid H1
  replace H5 := Lib.hid H5
  replace H6 := Lib.hid H6
  have HO := Lib.hid ho
  clear ho
  go_enter Tryd.func3, Tryd.ntmps3
  go_wp2_with (first | (go_at_call 10; (with_reducible refine (awake_any _).mono ?_); rintro e u ⟨rfl, h0⟩; obtain rfl := h0.symm; clear h0) | (go_at_call 11; (with_reducible refine (H5.out _).mono ?_); rintro e u ⟨rfl, h0⟩; obtain rfl := h0.symm; clear h0) | (go_at_call 12; (with_reducible refine (H6.out _).mono ?_); rintro e u ⟨rfl, hb⟩; replace hs := hs.below hb; clear hb))
  go_loopw [7] (fun kv wr => ∃ k : Nat, k ≤ 129 ∧ kv = .int .i64 (69 + (k : Int)) ∧ NW w wr) (fun kv _ => (198 - intOf kv).toNat)
  case atStart => exact ⟨0, Nat.zero_le _, rfl, hs⟩
  case round =>
    clear hs
    obtain ⟨k, hk, rfl, hs⟩ := hrel
    by_cases hlt : k < 129
    · go_wp2_with ((go_at_call 13; (with_reducible refine (H1.out _ _ ⟨by omega, by omega⟩ hs.t32 hs.t64).mono ?_); rintro e u ⟨rfl, hb⟩; replace hs := hs.below hb; clear hb))
      go_roundw
      case rel => first | exact ⟨k + 1, by omega, by go_num, hs⟩ | ((repeat apply Exists.intro); exact ⟨⟨k + 1, by omega, by go_num, hs⟩, rfl⟩)
      case measure => (simp [intOf] <;> omega)
    · obtain rfl : k = 129 := by omega
      go_wp2_with ((go_at_call 13; (with_reducible refine (H1.out _ _ HO.out hs.t32 hs.t64).mono ?_); rintro e u ⟨rfl, hb⟩; replace hs := hs.below hb; clear hb))
      go_ret
      exact ⟨rfl, hs.bel⟩
end Go.Proofs.YtllffbdcpilioaaDoor
