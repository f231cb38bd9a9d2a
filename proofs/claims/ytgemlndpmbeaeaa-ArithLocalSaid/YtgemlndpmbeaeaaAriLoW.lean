/-
  ArithLocal: every opcode.
-/
import Derived.Test.YtgemlndpmbeaeaaAriLo8
import Derived.Test.YtgemlndpmbeaeaaAriLo16
import Derived.Test.YtgemlndpmbeaeaaAriLo32
import Derived.Test.YtgemlndpmbeaeaaAriLo64
set_option linter.unusedSimpArgs false
set_option linter.unusedVariables false
namespace Go.Proofs.Ytgemlndpmbeaeaa
open Go.RowKit Pl

theorem swap_get (w i : Nat) (a x : Vec) (h : i < 128 / w) : getN (setN x w i (getN a w i)) w i = getN a w i := by
  rw [getN_setN_same _ _ _ _ h]; exact Nat.mod_eq_of_lt (getN_lt a w i)
theorem loc_B (w k : Nat) (a x : Vec) (i : Nat) (h : i < 128 / w) : getN (vb w k (setN x w i (getN a w i)) (setN a w i (getN x w i))) w i = getN (vb w k a x) w i := by
  rw [g_vb _ _ _ _ _ h, g_vb _ _ _ _ _ h]
  unfold laneR
  rw [swap_get w i a x h, swap_get w i x a h]
theorem loc_U (w k : Nat) (a x : Vec) (i : Nat) (h : i < 128 / w) : getN (vu3 w k (setN x w i (getN a w i))) w i = getN (vu3 w k a) w i := by
  unfold vu3
  rw [getN_buildOn _ _ _ _ _ (Nat.le_refl _), getN_buildOn _ _ _ _ _ (Nat.le_refl _), if_pos h, if_pos h]
  unfold unR3 unR
  rw [swap_get w i a x h]
theorem loc_S (w k p : Nat) (a x : Vec) (i : Nat) (h : i < 128 / w) : getN (vs w k p (setN x w i (getN a w i))) w i = getN (vs w k p a) w i := by
  unfold vs
  rw [getN_buildOn _ _ _ _ _ (Nat.le_refl _), getN_buildOn _ _ _ _ _ (Nat.le_refl _), if_pos h, if_pos h]
  unfold shR
  rw [swap_get w i a x h]
set_option maxRecDepth 100000 in
set_option maxHeartbeats 1000000 in
theorem local_zero (op : Int) (U j : Nat) (a x : Vec) (w : World) (hU : IntKind.u64.wrap op = (U : Int)) (hj : U % 128 = j)
    (HW : ∀ W, Calls Try.prog 21 #[.int .i64 (64864 + (j : Int))] W fun e w' => e = .returned (.int .i64 0) ∧ Below W.heap.size W w') :
    Calls Try.prog 9 #[.int .i64 op, .agg (cells a), .agg (cells x)] w fun e w' => e = .returned (.bool true) ∧ Below w.heap.size w w' := by
  have hs := HL.two w a x
  have hj2 : j < 128 := by omega
  have hjj : (U : Int) % 128 = (j : Int) := by omega
  have hjt : (U : Int).tmod 128 = (j : Int) := by rw [Int.tmod_eq_emod_of_nonneg (Int.natCast_nonneg _)]; exact hjj
  have h1 : IntKind.i64.wrap (j : Int) = j := IntWalk.i64_in _ (by omega)
  have h2 : IntKind.i64.wrap (64864 + (j : Int)) = 64864 + (j : Int) := IntWalk.i64_in _ (by omega)
  have h3 : IntKind.u64.wrap (j : Int) = j := IntWalk.u64_in _ (by omega)
  have KW := Lib.hid HW
  clear HW
  go_enter Try.func9, Try.ntmps9
  go_wp2_with (first | (go_at_call 11; (with_reducible refine (awake_any _).mono ?_); rintro e u ⟨rfl, hb⟩; replace hs := hs.below hb; clear hb) | (go_at_call 21; (with_reducible refine (KW.out _).mono ?_); rintro e u ⟨rfl, hb⟩; replace hs := hs.below hb; clear hb))
  go_ret
  exact ⟨rfl, hs.bel⟩

theorem local_at_0 (op : Int) (U : Nat) (a x : Vec) (w : World) (hU : IntKind.u64.wrap op = (U : Int)) (hj : U % 128 = 0) :
    Calls Try.prog 9 #[.int .i64 op, .agg (cells a), .agg (cells x)] w fun e w' => e = .returned (.bool true) ∧ Below w.heap.size w w' :=
  local_8_U op U 0 a x w (fun _ _ => 0) (fun p => vu3 8 0 p) (fun _ _ => 0) hU hj (fun W => same_below (width_any 64864 8 0 W kind_64864)) (fun p q W => bin_no 64864 8 0 p q W kind_64864 (by decide)) (fun p W => un_8_0 p W) (fun p n W hn => sh_no 64864 8 0 p n W kind_64864 (by decide)) (fun i h => loc_U 8 0 a x i h)
theorem local_at_1 (op : Int) (U : Nat) (a x : Vec) (w : World) (hU : IntKind.u64.wrap op = (U : Int)) (hj : U % 128 = 1) :
    Calls Try.prog 9 #[.int .i64 op, .agg (cells a), .agg (cells x)] w fun e w' => e = .returned (.bool true) ∧ Below w.heap.size w w' :=
  local_8_U op U 1 a x w (fun _ _ => 0) (fun p => vu3 8 1 p) (fun _ _ => 0) hU hj (fun W => same_below (width_any 64865 8 1 W kind_64865)) (fun p q W => bin_no 64865 8 1 p q W kind_64865 (by decide)) (fun p W => un_8_1 p W) (fun p n W hn => sh_no 64865 8 1 p n W kind_64865 (by decide)) (fun i h => loc_U 8 1 a x i h)
theorem local_at_2 (op : Int) (U : Nat) (a x : Vec) (w : World) (hU : IntKind.u64.wrap op = (U : Int)) (hj : U % 128 = 2) :
    Calls Try.prog 9 #[.int .i64 op, .agg (cells a), .agg (cells x)] w fun e w' => e = .returned (.bool true) ∧ Below w.heap.size w w' :=
  local_8_U op U 2 a x w (fun _ _ => 0) (fun p => vu3 8 2 p) (fun _ _ => 0) hU hj (fun W => same_below (width_any 64866 8 2 W kind_64866)) (fun p q W => bin_no 64866 8 2 p q W kind_64866 (by decide)) (fun p W => un_8_2 p W) (fun p n W hn => sh_no 64866 8 2 p n W kind_64866 (by decide)) (fun i h => loc_U 8 2 a x i h)
theorem local_at_3 (op : Int) (U : Nat) (a x : Vec) (w : World) (hU : IntKind.u64.wrap op = (U : Int)) (hj : U % 128 = 3) :
    Calls Try.prog 9 #[.int .i64 op, .agg (cells a), .agg (cells x)] w fun e w' => e = .returned (.bool true) ∧ Below w.heap.size w w' :=
  local_zero op U 3 a x w hU hj (fun W => same_below (width_any 64867 0 0 W kind_64867))
theorem local_at_4 (op : Int) (U : Nat) (a x : Vec) (w : World) (hU : IntKind.u64.wrap op = (U : Int)) (hj : U % 128 = 4) :
    Calls Try.prog 9 #[.int .i64 op, .agg (cells a), .agg (cells x)] w fun e w' => e = .returned (.bool true) ∧ Below w.heap.size w w' :=
  local_zero op U 4 a x w hU hj (fun W => same_below (width_any 64868 0 0 W kind_64868))
theorem local_at_5 (op : Int) (U : Nat) (a x : Vec) (w : World) (hU : IntKind.u64.wrap op = (U : Int)) (hj : U % 128 = 5) :
    Calls Try.prog 9 #[.int .i64 op, .agg (cells a), .agg (cells x)] w fun e w' => e = .returned (.bool true) ∧ Below w.heap.size w w' :=
  local_zero op U 5 a x w hU hj (fun W => same_below (width_any 64869 0 0 W kind_64869))
theorem local_at_6 (op : Int) (U : Nat) (a x : Vec) (w : World) (hU : IntKind.u64.wrap op = (U : Int)) (hj : U % 128 = 6) :
    Calls Try.prog 9 #[.int .i64 op, .agg (cells a), .agg (cells x)] w fun e w' => e = .returned (.bool true) ∧ Below w.heap.size w w' :=
  local_zero op U 6 a x w hU hj (fun W => same_below (width_any 64870 0 0 W kind_64870))
theorem local_at_7 (op : Int) (U : Nat) (a x : Vec) (w : World) (hU : IntKind.u64.wrap op = (U : Int)) (hj : U % 128 = 7) :
    Calls Try.prog 9 #[.int .i64 op, .agg (cells a), .agg (cells x)] w fun e w' => e = .returned (.bool true) ∧ Below w.heap.size w w' :=
  local_zero op U 7 a x w hU hj (fun W => same_below (width_any 64871 0 0 W kind_64871))
theorem local_at_8 (op : Int) (U : Nat) (a x : Vec) (w : World) (hU : IntKind.u64.wrap op = (U : Int)) (hj : U % 128 = 8) :
    Calls Try.prog 9 #[.int .i64 op, .agg (cells a), .agg (cells x)] w fun e w' => e = .returned (.bool true) ∧ Below w.heap.size w w' :=
  local_zero op U 8 a x w hU hj (fun W => same_below (width_any 64872 0 0 W kind_64872))
theorem local_at_9 (op : Int) (U : Nat) (a x : Vec) (w : World) (hU : IntKind.u64.wrap op = (U : Int)) (hj : U % 128 = 9) :
    Calls Try.prog 9 #[.int .i64 op, .agg (cells a), .agg (cells x)] w fun e w' => e = .returned (.bool true) ∧ Below w.heap.size w w' :=
  local_zero op U 9 a x w hU hj (fun W => same_below (width_any 64873 0 0 W kind_64873))
theorem local_at_10 (op : Int) (U : Nat) (a x : Vec) (w : World) (hU : IntKind.u64.wrap op = (U : Int)) (hj : U % 128 = 10) :
    Calls Try.prog 9 #[.int .i64 op, .agg (cells a), .agg (cells x)] w fun e w' => e = .returned (.bool true) ∧ Below w.heap.size w w' :=
  local_zero op U 10 a x w hU hj (fun W => same_below (width_any 64874 0 0 W kind_64874))
theorem local_at_11 (op : Int) (U : Nat) (a x : Vec) (w : World) (hU : IntKind.u64.wrap op = (U : Int)) (hj : U % 128 = 11) :
    Calls Try.prog 9 #[.int .i64 op, .agg (cells a), .agg (cells x)] w fun e w' => e = .returned (.bool true) ∧ Below w.heap.size w w' :=
  local_8_S op U 11 a x w (fun _ _ => 0) (fun _ => 0) (fun p n => vs 8 11 (n % 8) p) hU hj (fun W => same_below (width_any 64875 8 11 W kind_64875)) (fun p q W => bin_no 64875 8 11 p q W kind_64875 (by decide)) (fun p W => un_no 64875 8 11 p W kind_64875 (by decide)) (fun p n W hn => sh_8_11 p n (n % 8) W rfl (by omega)) (fun n i h => loc_S 8 11 (n % 8) a x i h)
theorem local_at_12 (op : Int) (U : Nat) (a x : Vec) (w : World) (hU : IntKind.u64.wrap op = (U : Int)) (hj : U % 128 = 12) :
    Calls Try.prog 9 #[.int .i64 op, .agg (cells a), .agg (cells x)] w fun e w' => e = .returned (.bool true) ∧ Below w.heap.size w w' :=
  local_8_S op U 12 a x w (fun _ _ => 0) (fun _ => 0) (fun p n => vs 8 12 (n % 8) p) hU hj (fun W => same_below (width_any 64876 8 12 W kind_64876)) (fun p q W => bin_no 64876 8 12 p q W kind_64876 (by decide)) (fun p W => un_no 64876 8 12 p W kind_64876 (by decide)) (fun p n W hn => sh_8_12 p n (n % 8) W rfl (by omega)) (fun n i h => loc_S 8 12 (n % 8) a x i h)
theorem local_at_13 (op : Int) (U : Nat) (a x : Vec) (w : World) (hU : IntKind.u64.wrap op = (U : Int)) (hj : U % 128 = 13) :
    Calls Try.prog 9 #[.int .i64 op, .agg (cells a), .agg (cells x)] w fun e w' => e = .returned (.bool true) ∧ Below w.heap.size w w' :=
  local_8_S op U 13 a x w (fun _ _ => 0) (fun _ => 0) (fun p n => vs 8 13 (n % 8) p) hU hj (fun W => same_below (width_any 64877 8 13 W kind_64877)) (fun p q W => bin_no 64877 8 13 p q W kind_64877 (by decide)) (fun p W => un_no 64877 8 13 p W kind_64877 (by decide)) (fun p n W hn => sh_8_13 p n (n % 8) W rfl (by omega)) (fun n i h => loc_S 8 13 (n % 8) a x i h)
theorem local_at_14 (op : Int) (U : Nat) (a x : Vec) (w : World) (hU : IntKind.u64.wrap op = (U : Int)) (hj : U % 128 = 14) :
    Calls Try.prog 9 #[.int .i64 op, .agg (cells a), .agg (cells x)] w fun e w' => e = .returned (.bool true) ∧ Below w.heap.size w w' :=
  local_8_B op U 14 a x w (fun p q => vb 8 14 p q) (fun _ => 0) (fun _ _ => 0) hU hj (fun W => same_below (width_any 64878 8 14 W kind_64878)) (fun p q W => bin_8_14 p q W) (fun p W => un_no 64878 8 14 p W kind_64878 (by decide)) (fun p n W hn => sh_no 64878 8 14 p n W kind_64878 (by decide)) (fun i h => loc_B 8 14 a x i h)
theorem local_at_15 (op : Int) (U : Nat) (a x : Vec) (w : World) (hU : IntKind.u64.wrap op = (U : Int)) (hj : U % 128 = 15) :
    Calls Try.prog 9 #[.int .i64 op, .agg (cells a), .agg (cells x)] w fun e w' => e = .returned (.bool true) ∧ Below w.heap.size w w' :=
  local_8_B op U 15 a x w (fun p q => vb 8 15 p q) (fun _ => 0) (fun _ _ => 0) hU hj (fun W => same_below (width_any 64879 8 15 W kind_64879)) (fun p q W => bin_8_15 p q W) (fun p W => un_no 64879 8 15 p W kind_64879 (by decide)) (fun p n W hn => sh_no 64879 8 15 p n W kind_64879 (by decide)) (fun i h => loc_B 8 15 a x i h)
theorem local_at_16 (op : Int) (U : Nat) (a x : Vec) (w : World) (hU : IntKind.u64.wrap op = (U : Int)) (hj : U % 128 = 16) :
    Calls Try.prog 9 #[.int .i64 op, .agg (cells a), .agg (cells x)] w fun e w' => e = .returned (.bool true) ∧ Below w.heap.size w w' :=
  local_8_B op U 16 a x w (fun p q => vb 8 16 p q) (fun _ => 0) (fun _ _ => 0) hU hj (fun W => same_below (width_any 64880 8 16 W kind_64880)) (fun p q W => bin_8_16 p q W) (fun p W => un_no 64880 8 16 p W kind_64880 (by decide)) (fun p n W hn => sh_no 64880 8 16 p n W kind_64880 (by decide)) (fun i h => loc_B 8 16 a x i h)
theorem local_at_17 (op : Int) (U : Nat) (a x : Vec) (w : World) (hU : IntKind.u64.wrap op = (U : Int)) (hj : U % 128 = 17) :
    Calls Try.prog 9 #[.int .i64 op, .agg (cells a), .agg (cells x)] w fun e w' => e = .returned (.bool true) ∧ Below w.heap.size w w' :=
  local_8_B op U 17 a x w (fun p q => vb 8 17 p q) (fun _ => 0) (fun _ _ => 0) hU hj (fun W => same_below (width_any 64881 8 17 W kind_64881)) (fun p q W => bin_8_17 p q W) (fun p W => un_no 64881 8 17 p W kind_64881 (by decide)) (fun p n W hn => sh_no 64881 8 17 p n W kind_64881 (by decide)) (fun i h => loc_B 8 17 a x i h)
theorem local_at_18 (op : Int) (U : Nat) (a x : Vec) (w : World) (hU : IntKind.u64.wrap op = (U : Int)) (hj : U % 128 = 18) :
    Calls Try.prog 9 #[.int .i64 op, .agg (cells a), .agg (cells x)] w fun e w' => e = .returned (.bool true) ∧ Below w.heap.size w w' :=
  local_8_B op U 18 a x w (fun p q => vb 8 18 p q) (fun _ => 0) (fun _ _ => 0) hU hj (fun W => same_below (width_any 64882 8 18 W kind_64882)) (fun p q W => bin_8_18 p q W) (fun p W => un_no 64882 8 18 p W kind_64882 (by decide)) (fun p n W hn => sh_no 64882 8 18 p n W kind_64882 (by decide)) (fun i h => loc_B 8 18 a x i h)
theorem local_at_19 (op : Int) (U : Nat) (a x : Vec) (w : World) (hU : IntKind.u64.wrap op = (U : Int)) (hj : U % 128 = 19) :
    Calls Try.prog 9 #[.int .i64 op, .agg (cells a), .agg (cells x)] w fun e w' => e = .returned (.bool true) ∧ Below w.heap.size w w' :=
  local_8_B op U 19 a x w (fun p q => vb 8 19 p q) (fun _ => 0) (fun _ _ => 0) hU hj (fun W => same_below (width_any 64883 8 19 W kind_64883)) (fun p q W => bin_8_19 p q W) (fun p W => un_no 64883 8 19 p W kind_64883 (by decide)) (fun p n W hn => sh_no 64883 8 19 p n W kind_64883 (by decide)) (fun i h => loc_B 8 19 a x i h)
theorem local_at_20 (op : Int) (U : Nat) (a x : Vec) (w : World) (hU : IntKind.u64.wrap op = (U : Int)) (hj : U % 128 = 20) :
    Calls Try.prog 9 #[.int .i64 op, .agg (cells a), .agg (cells x)] w fun e w' => e = .returned (.bool true) ∧ Below w.heap.size w w' :=
  local_zero op U 20 a x w hU hj (fun W => same_below (width_any 64884 0 0 W kind_64884))
theorem local_at_21 (op : Int) (U : Nat) (a x : Vec) (w : World) (hU : IntKind.u64.wrap op = (U : Int)) (hj : U % 128 = 21) :
    Calls Try.prog 9 #[.int .i64 op, .agg (cells a), .agg (cells x)] w fun e w' => e = .returned (.bool true) ∧ Below w.heap.size w w' :=
  local_zero op U 21 a x w hU hj (fun W => same_below (width_any 64885 0 0 W kind_64885))
theorem local_at_22 (op : Int) (U : Nat) (a x : Vec) (w : World) (hU : IntKind.u64.wrap op = (U : Int)) (hj : U % 128 = 22) :
    Calls Try.prog 9 #[.int .i64 op, .agg (cells a), .agg (cells x)] w fun e w' => e = .returned (.bool true) ∧ Below w.heap.size w w' :=
  local_8_B op U 22 a x w (fun p q => vb 8 22 p q) (fun _ => 0) (fun _ _ => 0) hU hj (fun W => same_below (width_any 64886 8 22 W kind_64886)) (fun p q W => bin_8_22 p q W) (fun p W => un_no 64886 8 22 p W kind_64886 (by decide)) (fun p n W hn => sh_no 64886 8 22 p n W kind_64886 (by decide)) (fun i h => loc_B 8 22 a x i h)
theorem local_at_23 (op : Int) (U : Nat) (a x : Vec) (w : World) (hU : IntKind.u64.wrap op = (U : Int)) (hj : U % 128 = 23) :
    Calls Try.prog 9 #[.int .i64 op, .agg (cells a), .agg (cells x)] w fun e w' => e = .returned (.bool true) ∧ Below w.heap.size w w' :=
  local_8_B op U 23 a x w (fun p q => vb 8 23 p q) (fun _ => 0) (fun _ _ => 0) hU hj (fun W => same_below (width_any 64887 8 23 W kind_64887)) (fun p q W => bin_8_23 p q W) (fun p W => un_no 64887 8 23 p W kind_64887 (by decide)) (fun p n W hn => sh_no 64887 8 23 p n W kind_64887 (by decide)) (fun i h => loc_B 8 23 a x i h)
theorem local_at_24 (op : Int) (U : Nat) (a x : Vec) (w : World) (hU : IntKind.u64.wrap op = (U : Int)) (hj : U % 128 = 24) :
    Calls Try.prog 9 #[.int .i64 op, .agg (cells a), .agg (cells x)] w fun e w' => e = .returned (.bool true) ∧ Below w.heap.size w w' :=
  local_8_B op U 24 a x w (fun p q => vb 8 24 p q) (fun _ => 0) (fun _ _ => 0) hU hj (fun W => same_below (width_any 64888 8 24 W kind_64888)) (fun p q W => bin_8_24 p q W) (fun p W => un_no 64888 8 24 p W kind_64888 (by decide)) (fun p n W hn => sh_no 64888 8 24 p n W kind_64888 (by decide)) (fun i h => loc_B 8 24 a x i h)
theorem local_at_25 (op : Int) (U : Nat) (a x : Vec) (w : World) (hU : IntKind.u64.wrap op = (U : Int)) (hj : U % 128 = 25) :
    Calls Try.prog 9 #[.int .i64 op, .agg (cells a), .agg (cells x)] w fun e w' => e = .returned (.bool true) ∧ Below w.heap.size w w' :=
  local_8_B op U 25 a x w (fun p q => vb 8 25 p q) (fun _ => 0) (fun _ _ => 0) hU hj (fun W => same_below (width_any 64889 8 25 W kind_64889)) (fun p q W => bin_8_25 p q W) (fun p W => un_no 64889 8 25 p W kind_64889 (by decide)) (fun p n W hn => sh_no 64889 8 25 p n W kind_64889 (by decide)) (fun i h => loc_B 8 25 a x i h)
theorem local_at_26 (op : Int) (U : Nat) (a x : Vec) (w : World) (hU : IntKind.u64.wrap op = (U : Int)) (hj : U % 128 = 26) :
    Calls Try.prog 9 #[.int .i64 op, .agg (cells a), .agg (cells x)] w fun e w' => e = .returned (.bool true) ∧ Below w.heap.size w w' :=
  local_zero op U 26 a x w hU hj (fun W => same_below (width_any 64890 0 0 W kind_64890))
theorem local_at_27 (op : Int) (U : Nat) (a x : Vec) (w : World) (hU : IntKind.u64.wrap op = (U : Int)) (hj : U % 128 = 27) :
    Calls Try.prog 9 #[.int .i64 op, .agg (cells a), .agg (cells x)] w fun e w' => e = .returned (.bool true) ∧ Below w.heap.size w w' :=
  local_8_B op U 27 a x w (fun p q => vb 8 27 p q) (fun _ => 0) (fun _ _ => 0) hU hj (fun W => same_below (width_any 64891 8 27 W kind_64891)) (fun p q W => bin_8_27 p q W) (fun p W => un_no 64891 8 27 p W kind_64891 (by decide)) (fun p n W hn => sh_no 64891 8 27 p n W kind_64891 (by decide)) (fun i h => loc_B 8 27 a x i h)
theorem local_at_28 (op : Int) (U : Nat) (a x : Vec) (w : World) (hU : IntKind.u64.wrap op = (U : Int)) (hj : U % 128 = 28) :
    Calls Try.prog 9 #[.int .i64 op, .agg (cells a), .agg (cells x)] w fun e w' => e = .returned (.bool true) ∧ Below w.heap.size w w' :=
  local_zero op U 28 a x w hU hj (fun W => same_below (width_any 64892 0 0 W kind_64892))
theorem local_at_29 (op : Int) (U : Nat) (a x : Vec) (w : World) (hU : IntKind.u64.wrap op = (U : Int)) (hj : U % 128 = 29) :
    Calls Try.prog 9 #[.int .i64 op, .agg (cells a), .agg (cells x)] w fun e w' => e = .returned (.bool true) ∧ Below w.heap.size w w' :=
  local_zero op U 29 a x w hU hj (fun W => same_below (width_any 64893 0 0 W kind_64893))
theorem local_at_30 (op : Int) (U : Nat) (a x : Vec) (w : World) (hU : IntKind.u64.wrap op = (U : Int)) (hj : U % 128 = 30) :
    Calls Try.prog 9 #[.int .i64 op, .agg (cells a), .agg (cells x)] w fun e w' => e = .returned (.bool true) ∧ Below w.heap.size w w' :=
  local_zero op U 30 a x w hU hj (fun W => same_below (width_any 64894 0 0 W kind_64894))
theorem local_at_31 (op : Int) (U : Nat) (a x : Vec) (w : World) (hU : IntKind.u64.wrap op = (U : Int)) (hj : U % 128 = 31) :
    Calls Try.prog 9 #[.int .i64 op, .agg (cells a), .agg (cells x)] w fun e w' => e = .returned (.bool true) ∧ Below w.heap.size w w' :=
  local_zero op U 31 a x w hU hj (fun W => same_below (width_any 64895 0 0 W kind_64895))
theorem local_at_32 (op : Int) (U : Nat) (a x : Vec) (w : World) (hU : IntKind.u64.wrap op = (U : Int)) (hj : U % 128 = 32) :
    Calls Try.prog 9 #[.int .i64 op, .agg (cells a), .agg (cells x)] w fun e w' => e = .returned (.bool true) ∧ Below w.heap.size w w' :=
  local_16_U op U 32 a x w (fun _ _ => 0) (fun p => vu3 16 0 p) (fun _ _ => 0) hU hj (fun W => same_below (width_any 64896 16 0 W kind_64896)) (fun p q W => bin_no 64896 16 0 p q W kind_64896 (by decide)) (fun p W => un_16_0 p W) (fun p n W hn => sh_no 64896 16 0 p n W kind_64896 (by decide)) (fun i h => loc_U 16 0 a x i h)
theorem local_at_33 (op : Int) (U : Nat) (a x : Vec) (w : World) (hU : IntKind.u64.wrap op = (U : Int)) (hj : U % 128 = 33) :
    Calls Try.prog 9 #[.int .i64 op, .agg (cells a), .agg (cells x)] w fun e w' => e = .returned (.bool true) ∧ Below w.heap.size w w' :=
  local_16_U op U 33 a x w (fun _ _ => 0) (fun p => vu3 16 1 p) (fun _ _ => 0) hU hj (fun W => same_below (width_any 64897 16 1 W kind_64897)) (fun p q W => bin_no 64897 16 1 p q W kind_64897 (by decide)) (fun p W => un_16_1 p W) (fun p n W hn => sh_no 64897 16 1 p n W kind_64897 (by decide)) (fun i h => loc_U 16 1 a x i h)
theorem local_at_34 (op : Int) (U : Nat) (a x : Vec) (w : World) (hU : IntKind.u64.wrap op = (U : Int)) (hj : U % 128 = 34) :
    Calls Try.prog 9 #[.int .i64 op, .agg (cells a), .agg (cells x)] w fun e w' => e = .returned (.bool true) ∧ Below w.heap.size w w' :=
  local_zero op U 34 a x w hU hj (fun W => same_below (width_any 64898 0 0 W kind_64898))
theorem local_at_35 (op : Int) (U : Nat) (a x : Vec) (w : World) (hU : IntKind.u64.wrap op = (U : Int)) (hj : U % 128 = 35) :
    Calls Try.prog 9 #[.int .i64 op, .agg (cells a), .agg (cells x)] w fun e w' => e = .returned (.bool true) ∧ Below w.heap.size w w' :=
  local_zero op U 35 a x w hU hj (fun W => same_below (width_any 64899 0 0 W kind_64899))
theorem local_at_36 (op : Int) (U : Nat) (a x : Vec) (w : World) (hU : IntKind.u64.wrap op = (U : Int)) (hj : U % 128 = 36) :
    Calls Try.prog 9 #[.int .i64 op, .agg (cells a), .agg (cells x)] w fun e w' => e = .returned (.bool true) ∧ Below w.heap.size w w' :=
  local_zero op U 36 a x w hU hj (fun W => same_below (width_any 64900 0 0 W kind_64900))
theorem local_at_37 (op : Int) (U : Nat) (a x : Vec) (w : World) (hU : IntKind.u64.wrap op = (U : Int)) (hj : U % 128 = 37) :
    Calls Try.prog 9 #[.int .i64 op, .agg (cells a), .agg (cells x)] w fun e w' => e = .returned (.bool true) ∧ Below w.heap.size w w' :=
  local_zero op U 37 a x w hU hj (fun W => same_below (width_any 64901 0 0 W kind_64901))
theorem local_at_38 (op : Int) (U : Nat) (a x : Vec) (w : World) (hU : IntKind.u64.wrap op = (U : Int)) (hj : U % 128 = 38) :
    Calls Try.prog 9 #[.int .i64 op, .agg (cells a), .agg (cells x)] w fun e w' => e = .returned (.bool true) ∧ Below w.heap.size w w' :=
  local_zero op U 38 a x w hU hj (fun W => same_below (width_any 64902 0 0 W kind_64902))
theorem local_at_39 (op : Int) (U : Nat) (a x : Vec) (w : World) (hU : IntKind.u64.wrap op = (U : Int)) (hj : U % 128 = 39) :
    Calls Try.prog 9 #[.int .i64 op, .agg (cells a), .agg (cells x)] w fun e w' => e = .returned (.bool true) ∧ Below w.heap.size w w' :=
  local_zero op U 39 a x w hU hj (fun W => same_below (width_any 64903 0 0 W kind_64903))
theorem local_at_40 (op : Int) (U : Nat) (a x : Vec) (w : World) (hU : IntKind.u64.wrap op = (U : Int)) (hj : U % 128 = 40) :
    Calls Try.prog 9 #[.int .i64 op, .agg (cells a), .agg (cells x)] w fun e w' => e = .returned (.bool true) ∧ Below w.heap.size w w' :=
  local_zero op U 40 a x w hU hj (fun W => same_below (width_any 64904 0 0 W kind_64904))
theorem local_at_41 (op : Int) (U : Nat) (a x : Vec) (w : World) (hU : IntKind.u64.wrap op = (U : Int)) (hj : U % 128 = 41) :
    Calls Try.prog 9 #[.int .i64 op, .agg (cells a), .agg (cells x)] w fun e w' => e = .returned (.bool true) ∧ Below w.heap.size w w' :=
  local_zero op U 41 a x w hU hj (fun W => same_below (width_any 64905 0 0 W kind_64905))
theorem local_at_42 (op : Int) (U : Nat) (a x : Vec) (w : World) (hU : IntKind.u64.wrap op = (U : Int)) (hj : U % 128 = 42) :
    Calls Try.prog 9 #[.int .i64 op, .agg (cells a), .agg (cells x)] w fun e w' => e = .returned (.bool true) ∧ Below w.heap.size w w' :=
  local_zero op U 42 a x w hU hj (fun W => same_below (width_any 64906 0 0 W kind_64906))
theorem local_at_43 (op : Int) (U : Nat) (a x : Vec) (w : World) (hU : IntKind.u64.wrap op = (U : Int)) (hj : U % 128 = 43) :
    Calls Try.prog 9 #[.int .i64 op, .agg (cells a), .agg (cells x)] w fun e w' => e = .returned (.bool true) ∧ Below w.heap.size w w' :=
  local_16_S op U 43 a x w (fun _ _ => 0) (fun _ => 0) (fun p n => vs 16 11 (n % 16) p) hU hj (fun W => same_below (width_any 64907 16 11 W kind_64907)) (fun p q W => bin_no 64907 16 11 p q W kind_64907 (by decide)) (fun p W => un_no 64907 16 11 p W kind_64907 (by decide)) (fun p n W hn => sh_16_11 p n (n % 16) W rfl (by omega)) (fun n i h => loc_S 16 11 (n % 16) a x i h)
theorem local_at_44 (op : Int) (U : Nat) (a x : Vec) (w : World) (hU : IntKind.u64.wrap op = (U : Int)) (hj : U % 128 = 44) :
    Calls Try.prog 9 #[.int .i64 op, .agg (cells a), .agg (cells x)] w fun e w' => e = .returned (.bool true) ∧ Below w.heap.size w w' :=
  local_16_S op U 44 a x w (fun _ _ => 0) (fun _ => 0) (fun p n => vs 16 12 (n % 16) p) hU hj (fun W => same_below (width_any 64908 16 12 W kind_64908)) (fun p q W => bin_no 64908 16 12 p q W kind_64908 (by decide)) (fun p W => un_no 64908 16 12 p W kind_64908 (by decide)) (fun p n W hn => sh_16_12 p n (n % 16) W rfl (by omega)) (fun n i h => loc_S 16 12 (n % 16) a x i h)
theorem local_at_45 (op : Int) (U : Nat) (a x : Vec) (w : World) (hU : IntKind.u64.wrap op = (U : Int)) (hj : U % 128 = 45) :
    Calls Try.prog 9 #[.int .i64 op, .agg (cells a), .agg (cells x)] w fun e w' => e = .returned (.bool true) ∧ Below w.heap.size w w' :=
  local_16_S op U 45 a x w (fun _ _ => 0) (fun _ => 0) (fun p n => vs 16 13 (n % 16) p) hU hj (fun W => same_below (width_any 64909 16 13 W kind_64909)) (fun p q W => bin_no 64909 16 13 p q W kind_64909 (by decide)) (fun p W => un_no 64909 16 13 p W kind_64909 (by decide)) (fun p n W hn => sh_16_13 p n (n % 16) W rfl (by omega)) (fun n i h => loc_S 16 13 (n % 16) a x i h)
theorem local_at_46 (op : Int) (U : Nat) (a x : Vec) (w : World) (hU : IntKind.u64.wrap op = (U : Int)) (hj : U % 128 = 46) :
    Calls Try.prog 9 #[.int .i64 op, .agg (cells a), .agg (cells x)] w fun e w' => e = .returned (.bool true) ∧ Below w.heap.size w w' :=
  local_16_B op U 46 a x w (fun p q => vb 16 14 p q) (fun _ => 0) (fun _ _ => 0) hU hj (fun W => same_below (width_any 64910 16 14 W kind_64910)) (fun p q W => bin_16_14 p q W) (fun p W => un_no 64910 16 14 p W kind_64910 (by decide)) (fun p n W hn => sh_no 64910 16 14 p n W kind_64910 (by decide)) (fun i h => loc_B 16 14 a x i h)
theorem local_at_47 (op : Int) (U : Nat) (a x : Vec) (w : World) (hU : IntKind.u64.wrap op = (U : Int)) (hj : U % 128 = 47) :
    Calls Try.prog 9 #[.int .i64 op, .agg (cells a), .agg (cells x)] w fun e w' => e = .returned (.bool true) ∧ Below w.heap.size w w' :=
  local_16_B op U 47 a x w (fun p q => vb 16 15 p q) (fun _ => 0) (fun _ _ => 0) hU hj (fun W => same_below (width_any 64911 16 15 W kind_64911)) (fun p q W => bin_16_15 p q W) (fun p W => un_no 64911 16 15 p W kind_64911 (by decide)) (fun p n W hn => sh_no 64911 16 15 p n W kind_64911 (by decide)) (fun i h => loc_B 16 15 a x i h)
theorem local_at_48 (op : Int) (U : Nat) (a x : Vec) (w : World) (hU : IntKind.u64.wrap op = (U : Int)) (hj : U % 128 = 48) :
    Calls Try.prog 9 #[.int .i64 op, .agg (cells a), .agg (cells x)] w fun e w' => e = .returned (.bool true) ∧ Below w.heap.size w w' :=
  local_16_B op U 48 a x w (fun p q => vb 16 16 p q) (fun _ => 0) (fun _ _ => 0) hU hj (fun W => same_below (width_any 64912 16 16 W kind_64912)) (fun p q W => bin_16_16 p q W) (fun p W => un_no 64912 16 16 p W kind_64912 (by decide)) (fun p n W hn => sh_no 64912 16 16 p n W kind_64912 (by decide)) (fun i h => loc_B 16 16 a x i h)
theorem local_at_49 (op : Int) (U : Nat) (a x : Vec) (w : World) (hU : IntKind.u64.wrap op = (U : Int)) (hj : U % 128 = 49) :
    Calls Try.prog 9 #[.int .i64 op, .agg (cells a), .agg (cells x)] w fun e w' => e = .returned (.bool true) ∧ Below w.heap.size w w' :=
  local_16_B op U 49 a x w (fun p q => vb 16 17 p q) (fun _ => 0) (fun _ _ => 0) hU hj (fun W => same_below (width_any 64913 16 17 W kind_64913)) (fun p q W => bin_16_17 p q W) (fun p W => un_no 64913 16 17 p W kind_64913 (by decide)) (fun p n W hn => sh_no 64913 16 17 p n W kind_64913 (by decide)) (fun i h => loc_B 16 17 a x i h)
theorem local_at_50 (op : Int) (U : Nat) (a x : Vec) (w : World) (hU : IntKind.u64.wrap op = (U : Int)) (hj : U % 128 = 50) :
    Calls Try.prog 9 #[.int .i64 op, .agg (cells a), .agg (cells x)] w fun e w' => e = .returned (.bool true) ∧ Below w.heap.size w w' :=
  local_16_B op U 50 a x w (fun p q => vb 16 18 p q) (fun _ => 0) (fun _ _ => 0) hU hj (fun W => same_below (width_any 64914 16 18 W kind_64914)) (fun p q W => bin_16_18 p q W) (fun p W => un_no 64914 16 18 p W kind_64914 (by decide)) (fun p n W hn => sh_no 64914 16 18 p n W kind_64914 (by decide)) (fun i h => loc_B 16 18 a x i h)
theorem local_at_51 (op : Int) (U : Nat) (a x : Vec) (w : World) (hU : IntKind.u64.wrap op = (U : Int)) (hj : U % 128 = 51) :
    Calls Try.prog 9 #[.int .i64 op, .agg (cells a), .agg (cells x)] w fun e w' => e = .returned (.bool true) ∧ Below w.heap.size w w' :=
  local_16_B op U 51 a x w (fun p q => vb 16 19 p q) (fun _ => 0) (fun _ _ => 0) hU hj (fun W => same_below (width_any 64915 16 19 W kind_64915)) (fun p q W => bin_16_19 p q W) (fun p W => un_no 64915 16 19 p W kind_64915 (by decide)) (fun p n W hn => sh_no 64915 16 19 p n W kind_64915 (by decide)) (fun i h => loc_B 16 19 a x i h)
theorem local_at_52 (op : Int) (U : Nat) (a x : Vec) (w : World) (hU : IntKind.u64.wrap op = (U : Int)) (hj : U % 128 = 52) :
    Calls Try.prog 9 #[.int .i64 op, .agg (cells a), .agg (cells x)] w fun e w' => e = .returned (.bool true) ∧ Below w.heap.size w w' :=
  local_zero op U 52 a x w hU hj (fun W => same_below (width_any 64916 0 0 W kind_64916))
theorem local_at_53 (op : Int) (U : Nat) (a x : Vec) (w : World) (hU : IntKind.u64.wrap op = (U : Int)) (hj : U % 128 = 53) :
    Calls Try.prog 9 #[.int .i64 op, .agg (cells a), .agg (cells x)] w fun e w' => e = .returned (.bool true) ∧ Below w.heap.size w w' :=
  local_16_B op U 53 a x w (fun p q => vb 16 21 p q) (fun _ => 0) (fun _ _ => 0) hU hj (fun W => same_below (width_any 64917 16 21 W kind_64917)) (fun p q W => bin_16_21 p q W) (fun p W => un_no 64917 16 21 p W kind_64917 (by decide)) (fun p n W hn => sh_no 64917 16 21 p n W kind_64917 (by decide)) (fun i h => loc_B 16 21 a x i h)
theorem local_at_54 (op : Int) (U : Nat) (a x : Vec) (w : World) (hU : IntKind.u64.wrap op = (U : Int)) (hj : U % 128 = 54) :
    Calls Try.prog 9 #[.int .i64 op, .agg (cells a), .agg (cells x)] w fun e w' => e = .returned (.bool true) ∧ Below w.heap.size w w' :=
  local_16_B op U 54 a x w (fun p q => vb 16 22 p q) (fun _ => 0) (fun _ _ => 0) hU hj (fun W => same_below (width_any 64918 16 22 W kind_64918)) (fun p q W => bin_16_22 p q W) (fun p W => un_no 64918 16 22 p W kind_64918 (by decide)) (fun p n W hn => sh_no 64918 16 22 p n W kind_64918 (by decide)) (fun i h => loc_B 16 22 a x i h)
theorem local_at_55 (op : Int) (U : Nat) (a x : Vec) (w : World) (hU : IntKind.u64.wrap op = (U : Int)) (hj : U % 128 = 55) :
    Calls Try.prog 9 #[.int .i64 op, .agg (cells a), .agg (cells x)] w fun e w' => e = .returned (.bool true) ∧ Below w.heap.size w w' :=
  local_16_B op U 55 a x w (fun p q => vb 16 23 p q) (fun _ => 0) (fun _ _ => 0) hU hj (fun W => same_below (width_any 64919 16 23 W kind_64919)) (fun p q W => bin_16_23 p q W) (fun p W => un_no 64919 16 23 p W kind_64919 (by decide)) (fun p n W hn => sh_no 64919 16 23 p n W kind_64919 (by decide)) (fun i h => loc_B 16 23 a x i h)
theorem local_at_56 (op : Int) (U : Nat) (a x : Vec) (w : World) (hU : IntKind.u64.wrap op = (U : Int)) (hj : U % 128 = 56) :
    Calls Try.prog 9 #[.int .i64 op, .agg (cells a), .agg (cells x)] w fun e w' => e = .returned (.bool true) ∧ Below w.heap.size w w' :=
  local_16_B op U 56 a x w (fun p q => vb 16 24 p q) (fun _ => 0) (fun _ _ => 0) hU hj (fun W => same_below (width_any 64920 16 24 W kind_64920)) (fun p q W => bin_16_24 p q W) (fun p W => un_no 64920 16 24 p W kind_64920 (by decide)) (fun p n W hn => sh_no 64920 16 24 p n W kind_64920 (by decide)) (fun i h => loc_B 16 24 a x i h)
theorem local_at_57 (op : Int) (U : Nat) (a x : Vec) (w : World) (hU : IntKind.u64.wrap op = (U : Int)) (hj : U % 128 = 57) :
    Calls Try.prog 9 #[.int .i64 op, .agg (cells a), .agg (cells x)] w fun e w' => e = .returned (.bool true) ∧ Below w.heap.size w w' :=
  local_16_B op U 57 a x w (fun p q => vb 16 25 p q) (fun _ => 0) (fun _ _ => 0) hU hj (fun W => same_below (width_any 64921 16 25 W kind_64921)) (fun p q W => bin_16_25 p q W) (fun p W => un_no 64921 16 25 p W kind_64921 (by decide)) (fun p n W hn => sh_no 64921 16 25 p n W kind_64921 (by decide)) (fun i h => loc_B 16 25 a x i h)
theorem local_at_58 (op : Int) (U : Nat) (a x : Vec) (w : World) (hU : IntKind.u64.wrap op = (U : Int)) (hj : U % 128 = 58) :
    Calls Try.prog 9 #[.int .i64 op, .agg (cells a), .agg (cells x)] w fun e w' => e = .returned (.bool true) ∧ Below w.heap.size w w' :=
  local_zero op U 58 a x w hU hj (fun W => same_below (width_any 64922 0 0 W kind_64922))
theorem local_at_59 (op : Int) (U : Nat) (a x : Vec) (w : World) (hU : IntKind.u64.wrap op = (U : Int)) (hj : U % 128 = 59) :
    Calls Try.prog 9 #[.int .i64 op, .agg (cells a), .agg (cells x)] w fun e w' => e = .returned (.bool true) ∧ Below w.heap.size w w' :=
  local_16_B op U 59 a x w (fun p q => vb 16 27 p q) (fun _ => 0) (fun _ _ => 0) hU hj (fun W => same_below (width_any 64923 16 27 W kind_64923)) (fun p q W => bin_16_27 p q W) (fun p W => un_no 64923 16 27 p W kind_64923 (by decide)) (fun p n W hn => sh_no 64923 16 27 p n W kind_64923 (by decide)) (fun i h => loc_B 16 27 a x i h)
theorem local_at_60 (op : Int) (U : Nat) (a x : Vec) (w : World) (hU : IntKind.u64.wrap op = (U : Int)) (hj : U % 128 = 60) :
    Calls Try.prog 9 #[.int .i64 op, .agg (cells a), .agg (cells x)] w fun e w' => e = .returned (.bool true) ∧ Below w.heap.size w w' :=
  local_zero op U 60 a x w hU hj (fun W => same_below (width_any 64924 0 0 W kind_64924))
theorem local_at_61 (op : Int) (U : Nat) (a x : Vec) (w : World) (hU : IntKind.u64.wrap op = (U : Int)) (hj : U % 128 = 61) :
    Calls Try.prog 9 #[.int .i64 op, .agg (cells a), .agg (cells x)] w fun e w' => e = .returned (.bool true) ∧ Below w.heap.size w w' :=
  local_zero op U 61 a x w hU hj (fun W => same_below (width_any 64925 0 0 W kind_64925))
theorem local_at_62 (op : Int) (U : Nat) (a x : Vec) (w : World) (hU : IntKind.u64.wrap op = (U : Int)) (hj : U % 128 = 62) :
    Calls Try.prog 9 #[.int .i64 op, .agg (cells a), .agg (cells x)] w fun e w' => e = .returned (.bool true) ∧ Below w.heap.size w w' :=
  local_zero op U 62 a x w hU hj (fun W => same_below (width_any 64926 0 0 W kind_64926))
theorem local_at_63 (op : Int) (U : Nat) (a x : Vec) (w : World) (hU : IntKind.u64.wrap op = (U : Int)) (hj : U % 128 = 63) :
    Calls Try.prog 9 #[.int .i64 op, .agg (cells a), .agg (cells x)] w fun e w' => e = .returned (.bool true) ∧ Below w.heap.size w w' :=
  local_zero op U 63 a x w hU hj (fun W => same_below (width_any 64927 0 0 W kind_64927))
theorem local_at_64 (op : Int) (U : Nat) (a x : Vec) (w : World) (hU : IntKind.u64.wrap op = (U : Int)) (hj : U % 128 = 64) :
    Calls Try.prog 9 #[.int .i64 op, .agg (cells a), .agg (cells x)] w fun e w' => e = .returned (.bool true) ∧ Below w.heap.size w w' :=
  local_32_U op U 64 a x w (fun _ _ => 0) (fun p => vu3 32 0 p) (fun _ _ => 0) hU hj (fun W => same_below (width_any 64928 32 0 W kind_64928)) (fun p q W => bin_no 64928 32 0 p q W kind_64928 (by decide)) (fun p W => un_32_0 p W) (fun p n W hn => sh_no 64928 32 0 p n W kind_64928 (by decide)) (fun i h => loc_U 32 0 a x i h)
theorem local_at_65 (op : Int) (U : Nat) (a x : Vec) (w : World) (hU : IntKind.u64.wrap op = (U : Int)) (hj : U % 128 = 65) :
    Calls Try.prog 9 #[.int .i64 op, .agg (cells a), .agg (cells x)] w fun e w' => e = .returned (.bool true) ∧ Below w.heap.size w w' :=
  local_32_U op U 65 a x w (fun _ _ => 0) (fun p => vu3 32 1 p) (fun _ _ => 0) hU hj (fun W => same_below (width_any 64929 32 1 W kind_64929)) (fun p q W => bin_no 64929 32 1 p q W kind_64929 (by decide)) (fun p W => un_32_1 p W) (fun p n W hn => sh_no 64929 32 1 p n W kind_64929 (by decide)) (fun i h => loc_U 32 1 a x i h)
theorem local_at_66 (op : Int) (U : Nat) (a x : Vec) (w : World) (hU : IntKind.u64.wrap op = (U : Int)) (hj : U % 128 = 66) :
    Calls Try.prog 9 #[.int .i64 op, .agg (cells a), .agg (cells x)] w fun e w' => e = .returned (.bool true) ∧ Below w.heap.size w w' :=
  local_zero op U 66 a x w hU hj (fun W => same_below (width_any 64930 0 0 W kind_64930))
theorem local_at_67 (op : Int) (U : Nat) (a x : Vec) (w : World) (hU : IntKind.u64.wrap op = (U : Int)) (hj : U % 128 = 67) :
    Calls Try.prog 9 #[.int .i64 op, .agg (cells a), .agg (cells x)] w fun e w' => e = .returned (.bool true) ∧ Below w.heap.size w w' :=
  local_zero op U 67 a x w hU hj (fun W => same_below (width_any 64931 0 0 W kind_64931))
theorem local_at_68 (op : Int) (U : Nat) (a x : Vec) (w : World) (hU : IntKind.u64.wrap op = (U : Int)) (hj : U % 128 = 68) :
    Calls Try.prog 9 #[.int .i64 op, .agg (cells a), .agg (cells x)] w fun e w' => e = .returned (.bool true) ∧ Below w.heap.size w w' :=
  local_zero op U 68 a x w hU hj (fun W => same_below (width_any 64932 0 0 W kind_64932))
theorem local_at_69 (op : Int) (U : Nat) (a x : Vec) (w : World) (hU : IntKind.u64.wrap op = (U : Int)) (hj : U % 128 = 69) :
    Calls Try.prog 9 #[.int .i64 op, .agg (cells a), .agg (cells x)] w fun e w' => e = .returned (.bool true) ∧ Below w.heap.size w w' :=
  local_zero op U 69 a x w hU hj (fun W => same_below (width_any 64933 0 0 W kind_64933))
theorem local_at_70 (op : Int) (U : Nat) (a x : Vec) (w : World) (hU : IntKind.u64.wrap op = (U : Int)) (hj : U % 128 = 70) :
    Calls Try.prog 9 #[.int .i64 op, .agg (cells a), .agg (cells x)] w fun e w' => e = .returned (.bool true) ∧ Below w.heap.size w w' :=
  local_zero op U 70 a x w hU hj (fun W => same_below (width_any 64934 0 0 W kind_64934))
theorem local_at_71 (op : Int) (U : Nat) (a x : Vec) (w : World) (hU : IntKind.u64.wrap op = (U : Int)) (hj : U % 128 = 71) :
    Calls Try.prog 9 #[.int .i64 op, .agg (cells a), .agg (cells x)] w fun e w' => e = .returned (.bool true) ∧ Below w.heap.size w w' :=
  local_zero op U 71 a x w hU hj (fun W => same_below (width_any 64935 0 0 W kind_64935))
theorem local_at_72 (op : Int) (U : Nat) (a x : Vec) (w : World) (hU : IntKind.u64.wrap op = (U : Int)) (hj : U % 128 = 72) :
    Calls Try.prog 9 #[.int .i64 op, .agg (cells a), .agg (cells x)] w fun e w' => e = .returned (.bool true) ∧ Below w.heap.size w w' :=
  local_zero op U 72 a x w hU hj (fun W => same_below (width_any 64936 0 0 W kind_64936))
theorem local_at_73 (op : Int) (U : Nat) (a x : Vec) (w : World) (hU : IntKind.u64.wrap op = (U : Int)) (hj : U % 128 = 73) :
    Calls Try.prog 9 #[.int .i64 op, .agg (cells a), .agg (cells x)] w fun e w' => e = .returned (.bool true) ∧ Below w.heap.size w w' :=
  local_zero op U 73 a x w hU hj (fun W => same_below (width_any 64937 0 0 W kind_64937))
theorem local_at_74 (op : Int) (U : Nat) (a x : Vec) (w : World) (hU : IntKind.u64.wrap op = (U : Int)) (hj : U % 128 = 74) :
    Calls Try.prog 9 #[.int .i64 op, .agg (cells a), .agg (cells x)] w fun e w' => e = .returned (.bool true) ∧ Below w.heap.size w w' :=
  local_zero op U 74 a x w hU hj (fun W => same_below (width_any 64938 0 0 W kind_64938))
theorem local_at_75 (op : Int) (U : Nat) (a x : Vec) (w : World) (hU : IntKind.u64.wrap op = (U : Int)) (hj : U % 128 = 75) :
    Calls Try.prog 9 #[.int .i64 op, .agg (cells a), .agg (cells x)] w fun e w' => e = .returned (.bool true) ∧ Below w.heap.size w w' :=
  local_32_S op U 75 a x w (fun _ _ => 0) (fun _ => 0) (fun p n => vs 32 11 (n % 32) p) hU hj (fun W => same_below (width_any 64939 32 11 W kind_64939)) (fun p q W => bin_no 64939 32 11 p q W kind_64939 (by decide)) (fun p W => un_no 64939 32 11 p W kind_64939 (by decide)) (fun p n W hn => sh_32_11 p n (n % 32) W rfl (by omega)) (fun n i h => loc_S 32 11 (n % 32) a x i h)
theorem local_at_76 (op : Int) (U : Nat) (a x : Vec) (w : World) (hU : IntKind.u64.wrap op = (U : Int)) (hj : U % 128 = 76) :
    Calls Try.prog 9 #[.int .i64 op, .agg (cells a), .agg (cells x)] w fun e w' => e = .returned (.bool true) ∧ Below w.heap.size w w' :=
  local_32_S op U 76 a x w (fun _ _ => 0) (fun _ => 0) (fun p n => vs 32 12 (n % 32) p) hU hj (fun W => same_below (width_any 64940 32 12 W kind_64940)) (fun p q W => bin_no 64940 32 12 p q W kind_64940 (by decide)) (fun p W => un_no 64940 32 12 p W kind_64940 (by decide)) (fun p n W hn => sh_32_12 p n (n % 32) W rfl (by omega)) (fun n i h => loc_S 32 12 (n % 32) a x i h)
theorem local_at_77 (op : Int) (U : Nat) (a x : Vec) (w : World) (hU : IntKind.u64.wrap op = (U : Int)) (hj : U % 128 = 77) :
    Calls Try.prog 9 #[.int .i64 op, .agg (cells a), .agg (cells x)] w fun e w' => e = .returned (.bool true) ∧ Below w.heap.size w w' :=
  local_32_S op U 77 a x w (fun _ _ => 0) (fun _ => 0) (fun p n => vs 32 13 (n % 32) p) hU hj (fun W => same_below (width_any 64941 32 13 W kind_64941)) (fun p q W => bin_no 64941 32 13 p q W kind_64941 (by decide)) (fun p W => un_no 64941 32 13 p W kind_64941 (by decide)) (fun p n W hn => sh_32_13 p n (n % 32) W rfl (by omega)) (fun n i h => loc_S 32 13 (n % 32) a x i h)
theorem local_at_78 (op : Int) (U : Nat) (a x : Vec) (w : World) (hU : IntKind.u64.wrap op = (U : Int)) (hj : U % 128 = 78) :
    Calls Try.prog 9 #[.int .i64 op, .agg (cells a), .agg (cells x)] w fun e w' => e = .returned (.bool true) ∧ Below w.heap.size w w' :=
  local_32_B op U 78 a x w (fun p q => vb 32 14 p q) (fun _ => 0) (fun _ _ => 0) hU hj (fun W => same_below (width_any 64942 32 14 W kind_64942)) (fun p q W => bin_32_14 p q W) (fun p W => un_no 64942 32 14 p W kind_64942 (by decide)) (fun p n W hn => sh_no 64942 32 14 p n W kind_64942 (by decide)) (fun i h => loc_B 32 14 a x i h)
theorem local_at_79 (op : Int) (U : Nat) (a x : Vec) (w : World) (hU : IntKind.u64.wrap op = (U : Int)) (hj : U % 128 = 79) :
    Calls Try.prog 9 #[.int .i64 op, .agg (cells a), .agg (cells x)] w fun e w' => e = .returned (.bool true) ∧ Below w.heap.size w w' :=
  local_zero op U 79 a x w hU hj (fun W => same_below (width_any 64943 0 0 W kind_64943))
theorem local_at_80 (op : Int) (U : Nat) (a x : Vec) (w : World) (hU : IntKind.u64.wrap op = (U : Int)) (hj : U % 128 = 80) :
    Calls Try.prog 9 #[.int .i64 op, .agg (cells a), .agg (cells x)] w fun e w' => e = .returned (.bool true) ∧ Below w.heap.size w w' :=
  local_zero op U 80 a x w hU hj (fun W => same_below (width_any 64944 0 0 W kind_64944))
theorem local_at_81 (op : Int) (U : Nat) (a x : Vec) (w : World) (hU : IntKind.u64.wrap op = (U : Int)) (hj : U % 128 = 81) :
    Calls Try.prog 9 #[.int .i64 op, .agg (cells a), .agg (cells x)] w fun e w' => e = .returned (.bool true) ∧ Below w.heap.size w w' :=
  local_32_B op U 81 a x w (fun p q => vb 32 17 p q) (fun _ => 0) (fun _ _ => 0) hU hj (fun W => same_below (width_any 64945 32 17 W kind_64945)) (fun p q W => bin_32_17 p q W) (fun p W => un_no 64945 32 17 p W kind_64945 (by decide)) (fun p n W hn => sh_no 64945 32 17 p n W kind_64945 (by decide)) (fun i h => loc_B 32 17 a x i h)
theorem local_at_82 (op : Int) (U : Nat) (a x : Vec) (w : World) (hU : IntKind.u64.wrap op = (U : Int)) (hj : U % 128 = 82) :
    Calls Try.prog 9 #[.int .i64 op, .agg (cells a), .agg (cells x)] w fun e w' => e = .returned (.bool true) ∧ Below w.heap.size w w' :=
  local_zero op U 82 a x w hU hj (fun W => same_below (width_any 64946 0 0 W kind_64946))
theorem local_at_83 (op : Int) (U : Nat) (a x : Vec) (w : World) (hU : IntKind.u64.wrap op = (U : Int)) (hj : U % 128 = 83) :
    Calls Try.prog 9 #[.int .i64 op, .agg (cells a), .agg (cells x)] w fun e w' => e = .returned (.bool true) ∧ Below w.heap.size w w' :=
  local_zero op U 83 a x w hU hj (fun W => same_below (width_any 64947 0 0 W kind_64947))
theorem local_at_84 (op : Int) (U : Nat) (a x : Vec) (w : World) (hU : IntKind.u64.wrap op = (U : Int)) (hj : U % 128 = 84) :
    Calls Try.prog 9 #[.int .i64 op, .agg (cells a), .agg (cells x)] w fun e w' => e = .returned (.bool true) ∧ Below w.heap.size w w' :=
  local_zero op U 84 a x w hU hj (fun W => same_below (width_any 64948 0 0 W kind_64948))
theorem local_at_85 (op : Int) (U : Nat) (a x : Vec) (w : World) (hU : IntKind.u64.wrap op = (U : Int)) (hj : U % 128 = 85) :
    Calls Try.prog 9 #[.int .i64 op, .agg (cells a), .agg (cells x)] w fun e w' => e = .returned (.bool true) ∧ Below w.heap.size w w' :=
  local_32_B op U 85 a x w (fun p q => vb 32 21 p q) (fun _ => 0) (fun _ _ => 0) hU hj (fun W => same_below (width_any 64949 32 21 W kind_64949)) (fun p q W => bin_32_21 p q W) (fun p W => un_no 64949 32 21 p W kind_64949 (by decide)) (fun p n W hn => sh_no 64949 32 21 p n W kind_64949 (by decide)) (fun i h => loc_B 32 21 a x i h)
theorem local_at_86 (op : Int) (U : Nat) (a x : Vec) (w : World) (hU : IntKind.u64.wrap op = (U : Int)) (hj : U % 128 = 86) :
    Calls Try.prog 9 #[.int .i64 op, .agg (cells a), .agg (cells x)] w fun e w' => e = .returned (.bool true) ∧ Below w.heap.size w w' :=
  local_32_B op U 86 a x w (fun p q => vb 32 22 p q) (fun _ => 0) (fun _ _ => 0) hU hj (fun W => same_below (width_any 64950 32 22 W kind_64950)) (fun p q W => bin_32_22 p q W) (fun p W => un_no 64950 32 22 p W kind_64950 (by decide)) (fun p n W hn => sh_no 64950 32 22 p n W kind_64950 (by decide)) (fun i h => loc_B 32 22 a x i h)
theorem local_at_87 (op : Int) (U : Nat) (a x : Vec) (w : World) (hU : IntKind.u64.wrap op = (U : Int)) (hj : U % 128 = 87) :
    Calls Try.prog 9 #[.int .i64 op, .agg (cells a), .agg (cells x)] w fun e w' => e = .returned (.bool true) ∧ Below w.heap.size w w' :=
  local_32_B op U 87 a x w (fun p q => vb 32 23 p q) (fun _ => 0) (fun _ _ => 0) hU hj (fun W => same_below (width_any 64951 32 23 W kind_64951)) (fun p q W => bin_32_23 p q W) (fun p W => un_no 64951 32 23 p W kind_64951 (by decide)) (fun p n W hn => sh_no 64951 32 23 p n W kind_64951 (by decide)) (fun i h => loc_B 32 23 a x i h)
theorem local_at_88 (op : Int) (U : Nat) (a x : Vec) (w : World) (hU : IntKind.u64.wrap op = (U : Int)) (hj : U % 128 = 88) :
    Calls Try.prog 9 #[.int .i64 op, .agg (cells a), .agg (cells x)] w fun e w' => e = .returned (.bool true) ∧ Below w.heap.size w w' :=
  local_32_B op U 88 a x w (fun p q => vb 32 24 p q) (fun _ => 0) (fun _ _ => 0) hU hj (fun W => same_below (width_any 64952 32 24 W kind_64952)) (fun p q W => bin_32_24 p q W) (fun p W => un_no 64952 32 24 p W kind_64952 (by decide)) (fun p n W hn => sh_no 64952 32 24 p n W kind_64952 (by decide)) (fun i h => loc_B 32 24 a x i h)
theorem local_at_89 (op : Int) (U : Nat) (a x : Vec) (w : World) (hU : IntKind.u64.wrap op = (U : Int)) (hj : U % 128 = 89) :
    Calls Try.prog 9 #[.int .i64 op, .agg (cells a), .agg (cells x)] w fun e w' => e = .returned (.bool true) ∧ Below w.heap.size w w' :=
  local_32_B op U 89 a x w (fun p q => vb 32 25 p q) (fun _ => 0) (fun _ _ => 0) hU hj (fun W => same_below (width_any 64953 32 25 W kind_64953)) (fun p q W => bin_32_25 p q W) (fun p W => un_no 64953 32 25 p W kind_64953 (by decide)) (fun p n W hn => sh_no 64953 32 25 p n W kind_64953 (by decide)) (fun i h => loc_B 32 25 a x i h)
theorem local_at_90 (op : Int) (U : Nat) (a x : Vec) (w : World) (hU : IntKind.u64.wrap op = (U : Int)) (hj : U % 128 = 90) :
    Calls Try.prog 9 #[.int .i64 op, .agg (cells a), .agg (cells x)] w fun e w' => e = .returned (.bool true) ∧ Below w.heap.size w w' :=
  local_zero op U 90 a x w hU hj (fun W => same_below (width_any 64954 0 0 W kind_64954))
theorem local_at_91 (op : Int) (U : Nat) (a x : Vec) (w : World) (hU : IntKind.u64.wrap op = (U : Int)) (hj : U % 128 = 91) :
    Calls Try.prog 9 #[.int .i64 op, .agg (cells a), .agg (cells x)] w fun e w' => e = .returned (.bool true) ∧ Below w.heap.size w w' :=
  local_zero op U 91 a x w hU hj (fun W => same_below (width_any 64955 0 0 W kind_64955))
theorem local_at_92 (op : Int) (U : Nat) (a x : Vec) (w : World) (hU : IntKind.u64.wrap op = (U : Int)) (hj : U % 128 = 92) :
    Calls Try.prog 9 #[.int .i64 op, .agg (cells a), .agg (cells x)] w fun e w' => e = .returned (.bool true) ∧ Below w.heap.size w w' :=
  local_zero op U 92 a x w hU hj (fun W => same_below (width_any 64956 0 0 W kind_64956))
theorem local_at_93 (op : Int) (U : Nat) (a x : Vec) (w : World) (hU : IntKind.u64.wrap op = (U : Int)) (hj : U % 128 = 93) :
    Calls Try.prog 9 #[.int .i64 op, .agg (cells a), .agg (cells x)] w fun e w' => e = .returned (.bool true) ∧ Below w.heap.size w w' :=
  local_zero op U 93 a x w hU hj (fun W => same_below (width_any 64957 0 0 W kind_64957))
theorem local_at_94 (op : Int) (U : Nat) (a x : Vec) (w : World) (hU : IntKind.u64.wrap op = (U : Int)) (hj : U % 128 = 94) :
    Calls Try.prog 9 #[.int .i64 op, .agg (cells a), .agg (cells x)] w fun e w' => e = .returned (.bool true) ∧ Below w.heap.size w w' :=
  local_zero op U 94 a x w hU hj (fun W => same_below (width_any 64958 0 0 W kind_64958))
theorem local_at_95 (op : Int) (U : Nat) (a x : Vec) (w : World) (hU : IntKind.u64.wrap op = (U : Int)) (hj : U % 128 = 95) :
    Calls Try.prog 9 #[.int .i64 op, .agg (cells a), .agg (cells x)] w fun e w' => e = .returned (.bool true) ∧ Below w.heap.size w w' :=
  local_zero op U 95 a x w hU hj (fun W => same_below (width_any 64959 0 0 W kind_64959))
theorem local_at_96 (op : Int) (U : Nat) (a x : Vec) (w : World) (hU : IntKind.u64.wrap op = (U : Int)) (hj : U % 128 = 96) :
    Calls Try.prog 9 #[.int .i64 op, .agg (cells a), .agg (cells x)] w fun e w' => e = .returned (.bool true) ∧ Below w.heap.size w w' :=
  local_64_U op U 96 a x w (fun _ _ => 0) (fun p => vu3 64 0 p) (fun _ _ => 0) hU hj (fun W => same_below (width_any 64960 64 0 W kind_64960)) (fun p q W => bin_no 64960 64 0 p q W kind_64960 (by decide)) (fun p W => un_64_0 p W) (fun p n W hn => sh_no 64960 64 0 p n W kind_64960 (by decide)) (fun i h => loc_U 64 0 a x i h)
theorem local_at_97 (op : Int) (U : Nat) (a x : Vec) (w : World) (hU : IntKind.u64.wrap op = (U : Int)) (hj : U % 128 = 97) :
    Calls Try.prog 9 #[.int .i64 op, .agg (cells a), .agg (cells x)] w fun e w' => e = .returned (.bool true) ∧ Below w.heap.size w w' :=
  local_64_U op U 97 a x w (fun _ _ => 0) (fun p => vu3 64 1 p) (fun _ _ => 0) hU hj (fun W => same_below (width_any 64961 64 1 W kind_64961)) (fun p q W => bin_no 64961 64 1 p q W kind_64961 (by decide)) (fun p W => un_64_1 p W) (fun p n W hn => sh_no 64961 64 1 p n W kind_64961 (by decide)) (fun i h => loc_U 64 1 a x i h)
theorem local_at_98 (op : Int) (U : Nat) (a x : Vec) (w : World) (hU : IntKind.u64.wrap op = (U : Int)) (hj : U % 128 = 98) :
    Calls Try.prog 9 #[.int .i64 op, .agg (cells a), .agg (cells x)] w fun e w' => e = .returned (.bool true) ∧ Below w.heap.size w w' :=
  local_zero op U 98 a x w hU hj (fun W => same_below (width_any 64962 0 0 W kind_64962))
theorem local_at_99 (op : Int) (U : Nat) (a x : Vec) (w : World) (hU : IntKind.u64.wrap op = (U : Int)) (hj : U % 128 = 99) :
    Calls Try.prog 9 #[.int .i64 op, .agg (cells a), .agg (cells x)] w fun e w' => e = .returned (.bool true) ∧ Below w.heap.size w w' :=
  local_zero op U 99 a x w hU hj (fun W => same_below (width_any 64963 0 0 W kind_64963))
theorem local_at_100 (op : Int) (U : Nat) (a x : Vec) (w : World) (hU : IntKind.u64.wrap op = (U : Int)) (hj : U % 128 = 100) :
    Calls Try.prog 9 #[.int .i64 op, .agg (cells a), .agg (cells x)] w fun e w' => e = .returned (.bool true) ∧ Below w.heap.size w w' :=
  local_zero op U 100 a x w hU hj (fun W => same_below (width_any 64964 0 0 W kind_64964))
theorem local_at_101 (op : Int) (U : Nat) (a x : Vec) (w : World) (hU : IntKind.u64.wrap op = (U : Int)) (hj : U % 128 = 101) :
    Calls Try.prog 9 #[.int .i64 op, .agg (cells a), .agg (cells x)] w fun e w' => e = .returned (.bool true) ∧ Below w.heap.size w w' :=
  local_zero op U 101 a x w hU hj (fun W => same_below (width_any 64965 0 0 W kind_64965))
theorem local_at_102 (op : Int) (U : Nat) (a x : Vec) (w : World) (hU : IntKind.u64.wrap op = (U : Int)) (hj : U % 128 = 102) :
    Calls Try.prog 9 #[.int .i64 op, .agg (cells a), .agg (cells x)] w fun e w' => e = .returned (.bool true) ∧ Below w.heap.size w w' :=
  local_zero op U 102 a x w hU hj (fun W => same_below (width_any 64966 0 0 W kind_64966))
theorem local_at_103 (op : Int) (U : Nat) (a x : Vec) (w : World) (hU : IntKind.u64.wrap op = (U : Int)) (hj : U % 128 = 103) :
    Calls Try.prog 9 #[.int .i64 op, .agg (cells a), .agg (cells x)] w fun e w' => e = .returned (.bool true) ∧ Below w.heap.size w w' :=
  local_zero op U 103 a x w hU hj (fun W => same_below (width_any 64967 0 0 W kind_64967))
theorem local_at_104 (op : Int) (U : Nat) (a x : Vec) (w : World) (hU : IntKind.u64.wrap op = (U : Int)) (hj : U % 128 = 104) :
    Calls Try.prog 9 #[.int .i64 op, .agg (cells a), .agg (cells x)] w fun e w' => e = .returned (.bool true) ∧ Below w.heap.size w w' :=
  local_zero op U 104 a x w hU hj (fun W => same_below (width_any 64968 0 0 W kind_64968))
theorem local_at_105 (op : Int) (U : Nat) (a x : Vec) (w : World) (hU : IntKind.u64.wrap op = (U : Int)) (hj : U % 128 = 105) :
    Calls Try.prog 9 #[.int .i64 op, .agg (cells a), .agg (cells x)] w fun e w' => e = .returned (.bool true) ∧ Below w.heap.size w w' :=
  local_zero op U 105 a x w hU hj (fun W => same_below (width_any 64969 0 0 W kind_64969))
theorem local_at_106 (op : Int) (U : Nat) (a x : Vec) (w : World) (hU : IntKind.u64.wrap op = (U : Int)) (hj : U % 128 = 106) :
    Calls Try.prog 9 #[.int .i64 op, .agg (cells a), .agg (cells x)] w fun e w' => e = .returned (.bool true) ∧ Below w.heap.size w w' :=
  local_zero op U 106 a x w hU hj (fun W => same_below (width_any 64970 0 0 W kind_64970))
theorem local_at_107 (op : Int) (U : Nat) (a x : Vec) (w : World) (hU : IntKind.u64.wrap op = (U : Int)) (hj : U % 128 = 107) :
    Calls Try.prog 9 #[.int .i64 op, .agg (cells a), .agg (cells x)] w fun e w' => e = .returned (.bool true) ∧ Below w.heap.size w w' :=
  local_64_S op U 107 a x w (fun _ _ => 0) (fun _ => 0) (fun p n => vs 64 11 (n % 64) p) hU hj (fun W => same_below (width_any 64971 64 11 W kind_64971)) (fun p q W => bin_no 64971 64 11 p q W kind_64971 (by decide)) (fun p W => un_no 64971 64 11 p W kind_64971 (by decide)) (fun p n W hn => sh_64_11 p n (n % 64) W rfl (by omega)) (fun n i h => loc_S 64 11 (n % 64) a x i h)
theorem local_at_108 (op : Int) (U : Nat) (a x : Vec) (w : World) (hU : IntKind.u64.wrap op = (U : Int)) (hj : U % 128 = 108) :
    Calls Try.prog 9 #[.int .i64 op, .agg (cells a), .agg (cells x)] w fun e w' => e = .returned (.bool true) ∧ Below w.heap.size w w' :=
  local_64_S op U 108 a x w (fun _ _ => 0) (fun _ => 0) (fun p n => vs 64 12 (n % 64) p) hU hj (fun W => same_below (width_any 64972 64 12 W kind_64972)) (fun p q W => bin_no 64972 64 12 p q W kind_64972 (by decide)) (fun p W => un_no 64972 64 12 p W kind_64972 (by decide)) (fun p n W hn => sh_64_12 p n (n % 64) W rfl (by omega)) (fun n i h => loc_S 64 12 (n % 64) a x i h)
theorem local_at_109 (op : Int) (U : Nat) (a x : Vec) (w : World) (hU : IntKind.u64.wrap op = (U : Int)) (hj : U % 128 = 109) :
    Calls Try.prog 9 #[.int .i64 op, .agg (cells a), .agg (cells x)] w fun e w' => e = .returned (.bool true) ∧ Below w.heap.size w w' :=
  local_64_S op U 109 a x w (fun _ _ => 0) (fun _ => 0) (fun p n => vs 64 13 (n % 64) p) hU hj (fun W => same_below (width_any 64973 64 13 W kind_64973)) (fun p q W => bin_no 64973 64 13 p q W kind_64973 (by decide)) (fun p W => un_no 64973 64 13 p W kind_64973 (by decide)) (fun p n W hn => sh_64_13 p n (n % 64) W rfl (by omega)) (fun n i h => loc_S 64 13 (n % 64) a x i h)
theorem local_at_110 (op : Int) (U : Nat) (a x : Vec) (w : World) (hU : IntKind.u64.wrap op = (U : Int)) (hj : U % 128 = 110) :
    Calls Try.prog 9 #[.int .i64 op, .agg (cells a), .agg (cells x)] w fun e w' => e = .returned (.bool true) ∧ Below w.heap.size w w' :=
  local_64_B op U 110 a x w (fun p q => vb 64 14 p q) (fun _ => 0) (fun _ _ => 0) hU hj (fun W => same_below (width_any 64974 64 14 W kind_64974)) (fun p q W => bin_64_14 p q W) (fun p W => un_no 64974 64 14 p W kind_64974 (by decide)) (fun p n W hn => sh_no 64974 64 14 p n W kind_64974 (by decide)) (fun i h => loc_B 64 14 a x i h)
theorem local_at_111 (op : Int) (U : Nat) (a x : Vec) (w : World) (hU : IntKind.u64.wrap op = (U : Int)) (hj : U % 128 = 111) :
    Calls Try.prog 9 #[.int .i64 op, .agg (cells a), .agg (cells x)] w fun e w' => e = .returned (.bool true) ∧ Below w.heap.size w w' :=
  local_zero op U 111 a x w hU hj (fun W => same_below (width_any 64975 0 0 W kind_64975))
theorem local_at_112 (op : Int) (U : Nat) (a x : Vec) (w : World) (hU : IntKind.u64.wrap op = (U : Int)) (hj : U % 128 = 112) :
    Calls Try.prog 9 #[.int .i64 op, .agg (cells a), .agg (cells x)] w fun e w' => e = .returned (.bool true) ∧ Below w.heap.size w w' :=
  local_zero op U 112 a x w hU hj (fun W => same_below (width_any 64976 0 0 W kind_64976))
theorem local_at_113 (op : Int) (U : Nat) (a x : Vec) (w : World) (hU : IntKind.u64.wrap op = (U : Int)) (hj : U % 128 = 113) :
    Calls Try.prog 9 #[.int .i64 op, .agg (cells a), .agg (cells x)] w fun e w' => e = .returned (.bool true) ∧ Below w.heap.size w w' :=
  local_64_B op U 113 a x w (fun p q => vb 64 17 p q) (fun _ => 0) (fun _ _ => 0) hU hj (fun W => same_below (width_any 64977 64 17 W kind_64977)) (fun p q W => bin_64_17 p q W) (fun p W => un_no 64977 64 17 p W kind_64977 (by decide)) (fun p n W hn => sh_no 64977 64 17 p n W kind_64977 (by decide)) (fun i h => loc_B 64 17 a x i h)
theorem local_at_114 (op : Int) (U : Nat) (a x : Vec) (w : World) (hU : IntKind.u64.wrap op = (U : Int)) (hj : U % 128 = 114) :
    Calls Try.prog 9 #[.int .i64 op, .agg (cells a), .agg (cells x)] w fun e w' => e = .returned (.bool true) ∧ Below w.heap.size w w' :=
  local_zero op U 114 a x w hU hj (fun W => same_below (width_any 64978 0 0 W kind_64978))
theorem local_at_115 (op : Int) (U : Nat) (a x : Vec) (w : World) (hU : IntKind.u64.wrap op = (U : Int)) (hj : U % 128 = 115) :
    Calls Try.prog 9 #[.int .i64 op, .agg (cells a), .agg (cells x)] w fun e w' => e = .returned (.bool true) ∧ Below w.heap.size w w' :=
  local_zero op U 115 a x w hU hj (fun W => same_below (width_any 64979 0 0 W kind_64979))
theorem local_at_116 (op : Int) (U : Nat) (a x : Vec) (w : World) (hU : IntKind.u64.wrap op = (U : Int)) (hj : U % 128 = 116) :
    Calls Try.prog 9 #[.int .i64 op, .agg (cells a), .agg (cells x)] w fun e w' => e = .returned (.bool true) ∧ Below w.heap.size w w' :=
  local_zero op U 116 a x w hU hj (fun W => same_below (width_any 64980 0 0 W kind_64980))
theorem local_at_117 (op : Int) (U : Nat) (a x : Vec) (w : World) (hU : IntKind.u64.wrap op = (U : Int)) (hj : U % 128 = 117) :
    Calls Try.prog 9 #[.int .i64 op, .agg (cells a), .agg (cells x)] w fun e w' => e = .returned (.bool true) ∧ Below w.heap.size w w' :=
  local_64_B op U 117 a x w (fun p q => vb 64 21 p q) (fun _ => 0) (fun _ _ => 0) hU hj (fun W => same_below (width_any 64981 64 21 W kind_64981)) (fun p q W => bin_64_21 p q W) (fun p W => un_no 64981 64 21 p W kind_64981 (by decide)) (fun p n W hn => sh_no 64981 64 21 p n W kind_64981 (by decide)) (fun i h => loc_B 64 21 a x i h)
theorem local_at_118 (op : Int) (U : Nat) (a x : Vec) (w : World) (hU : IntKind.u64.wrap op = (U : Int)) (hj : U % 128 = 118) :
    Calls Try.prog 9 #[.int .i64 op, .agg (cells a), .agg (cells x)] w fun e w' => e = .returned (.bool true) ∧ Below w.heap.size w w' :=
  local_zero op U 118 a x w hU hj (fun W => same_below (width_any 64982 0 0 W kind_64982))
theorem local_at_119 (op : Int) (U : Nat) (a x : Vec) (w : World) (hU : IntKind.u64.wrap op = (U : Int)) (hj : U % 128 = 119) :
    Calls Try.prog 9 #[.int .i64 op, .agg (cells a), .agg (cells x)] w fun e w' => e = .returned (.bool true) ∧ Below w.heap.size w w' :=
  local_zero op U 119 a x w hU hj (fun W => same_below (width_any 64983 0 0 W kind_64983))
theorem local_at_120 (op : Int) (U : Nat) (a x : Vec) (w : World) (hU : IntKind.u64.wrap op = (U : Int)) (hj : U % 128 = 120) :
    Calls Try.prog 9 #[.int .i64 op, .agg (cells a), .agg (cells x)] w fun e w' => e = .returned (.bool true) ∧ Below w.heap.size w w' :=
  local_zero op U 120 a x w hU hj (fun W => same_below (width_any 64984 0 0 W kind_64984))
theorem local_at_121 (op : Int) (U : Nat) (a x : Vec) (w : World) (hU : IntKind.u64.wrap op = (U : Int)) (hj : U % 128 = 121) :
    Calls Try.prog 9 #[.int .i64 op, .agg (cells a), .agg (cells x)] w fun e w' => e = .returned (.bool true) ∧ Below w.heap.size w w' :=
  local_zero op U 121 a x w hU hj (fun W => same_below (width_any 64985 0 0 W kind_64985))
theorem local_at_122 (op : Int) (U : Nat) (a x : Vec) (w : World) (hU : IntKind.u64.wrap op = (U : Int)) (hj : U % 128 = 122) :
    Calls Try.prog 9 #[.int .i64 op, .agg (cells a), .agg (cells x)] w fun e w' => e = .returned (.bool true) ∧ Below w.heap.size w w' :=
  local_zero op U 122 a x w hU hj (fun W => same_below (width_any 64986 0 0 W kind_64986))
theorem local_at_123 (op : Int) (U : Nat) (a x : Vec) (w : World) (hU : IntKind.u64.wrap op = (U : Int)) (hj : U % 128 = 123) :
    Calls Try.prog 9 #[.int .i64 op, .agg (cells a), .agg (cells x)] w fun e w' => e = .returned (.bool true) ∧ Below w.heap.size w w' :=
  local_zero op U 123 a x w hU hj (fun W => same_below (width_any 64987 0 0 W kind_64987))
theorem local_at_124 (op : Int) (U : Nat) (a x : Vec) (w : World) (hU : IntKind.u64.wrap op = (U : Int)) (hj : U % 128 = 124) :
    Calls Try.prog 9 #[.int .i64 op, .agg (cells a), .agg (cells x)] w fun e w' => e = .returned (.bool true) ∧ Below w.heap.size w w' :=
  local_zero op U 124 a x w hU hj (fun W => same_below (width_any 64988 0 0 W kind_64988))
theorem local_at_125 (op : Int) (U : Nat) (a x : Vec) (w : World) (hU : IntKind.u64.wrap op = (U : Int)) (hj : U % 128 = 125) :
    Calls Try.prog 9 #[.int .i64 op, .agg (cells a), .agg (cells x)] w fun e w' => e = .returned (.bool true) ∧ Below w.heap.size w w' :=
  local_zero op U 125 a x w hU hj (fun W => same_below (width_any 64989 0 0 W kind_64989))
theorem local_at_126 (op : Int) (U : Nat) (a x : Vec) (w : World) (hU : IntKind.u64.wrap op = (U : Int)) (hj : U % 128 = 126) :
    Calls Try.prog 9 #[.int .i64 op, .agg (cells a), .agg (cells x)] w fun e w' => e = .returned (.bool true) ∧ Below w.heap.size w w' :=
  local_zero op U 126 a x w hU hj (fun W => same_below (width_any 64990 0 0 W kind_64990))
theorem local_at_127 (op : Int) (U : Nat) (a x : Vec) (w : World) (hU : IntKind.u64.wrap op = (U : Int)) (hj : U % 128 = 127) :
    Calls Try.prog 9 #[.int .i64 op, .agg (cells a), .agg (cells x)] w fun e w' => e = .returned (.bool true) ∧ Below w.heap.size w w' :=
  local_zero op U 127 a x w hU hj (fun W => same_below (width_any 64991 0 0 W kind_64991))
theorem local_any (op : Int) (a x : Vec) (w : World) : Calls Try.prog 9 #[.int .i64 op, .agg (cells a), .agg (cells x)] w fun e w' => e = .returned (.bool true) ∧ Below w.heap.size w w' := by
  obtain ⟨U, hU⟩ : ∃ U : Nat, IntKind.u64.wrap op = (U : Int) := ⟨(op % 18446744073709551616).toNat, by rw [IntKind.wrap_u64]; omega⟩
  obtain ⟨j, hj⟩ : ∃ j, U % 128 = j := ⟨_, rfl⟩
  have hl : j < 128 := by omega
  rcases (show (0 ≤ j ∧ j < 16) ∨ (16 ≤ j ∧ j < 32) ∨ (32 ≤ j ∧ j < 48) ∨ (48 ≤ j ∧ j < 64) ∨ (64 ≤ j ∧ j < 80) ∨ (80 ≤ j ∧ j < 96) ∨ (96 ≤ j ∧ j < 112) ∨ (112 ≤ j ∧ j < 128) by omega) with h | h | h | h | h | h | h | h
  · rcases (show j = 0 ∨ j = 1 ∨ j = 2 ∨ j = 3 ∨ j = 4 ∨ j = 5 ∨ j = 6 ∨ j = 7 ∨ j = 8 ∨ j = 9 ∨ j = 10 ∨ j = 11 ∨ j = 12 ∨ j = 13 ∨ j = 14 ∨ j = 15 by omega) with rfl | rfl | rfl | rfl | rfl | rfl | rfl | rfl | rfl | rfl | rfl | rfl | rfl | rfl | rfl | rfl
    · exact local_at_0 op U a x w hU hj
    · exact local_at_1 op U a x w hU hj
    · exact local_at_2 op U a x w hU hj
    · exact local_at_3 op U a x w hU hj
    · exact local_at_4 op U a x w hU hj
    · exact local_at_5 op U a x w hU hj
    · exact local_at_6 op U a x w hU hj
    · exact local_at_7 op U a x w hU hj
    · exact local_at_8 op U a x w hU hj
    · exact local_at_9 op U a x w hU hj
    · exact local_at_10 op U a x w hU hj
    · exact local_at_11 op U a x w hU hj
    · exact local_at_12 op U a x w hU hj
    · exact local_at_13 op U a x w hU hj
    · exact local_at_14 op U a x w hU hj
    · exact local_at_15 op U a x w hU hj
  · rcases (show j = 16 ∨ j = 17 ∨ j = 18 ∨ j = 19 ∨ j = 20 ∨ j = 21 ∨ j = 22 ∨ j = 23 ∨ j = 24 ∨ j = 25 ∨ j = 26 ∨ j = 27 ∨ j = 28 ∨ j = 29 ∨ j = 30 ∨ j = 31 by omega) with rfl | rfl | rfl | rfl | rfl | rfl | rfl | rfl | rfl | rfl | rfl | rfl | rfl | rfl | rfl | rfl
    · exact local_at_16 op U a x w hU hj
    · exact local_at_17 op U a x w hU hj
    · exact local_at_18 op U a x w hU hj
    · exact local_at_19 op U a x w hU hj
    · exact local_at_20 op U a x w hU hj
    · exact local_at_21 op U a x w hU hj
    · exact local_at_22 op U a x w hU hj
    · exact local_at_23 op U a x w hU hj
    · exact local_at_24 op U a x w hU hj
    · exact local_at_25 op U a x w hU hj
    · exact local_at_26 op U a x w hU hj
    · exact local_at_27 op U a x w hU hj
    · exact local_at_28 op U a x w hU hj
    · exact local_at_29 op U a x w hU hj
    · exact local_at_30 op U a x w hU hj
    · exact local_at_31 op U a x w hU hj
  · rcases (show j = 32 ∨ j = 33 ∨ j = 34 ∨ j = 35 ∨ j = 36 ∨ j = 37 ∨ j = 38 ∨ j = 39 ∨ j = 40 ∨ j = 41 ∨ j = 42 ∨ j = 43 ∨ j = 44 ∨ j = 45 ∨ j = 46 ∨ j = 47 by omega) with rfl | rfl | rfl | rfl | rfl | rfl | rfl | rfl | rfl | rfl | rfl | rfl | rfl | rfl | rfl | rfl
    · exact local_at_32 op U a x w hU hj
    · exact local_at_33 op U a x w hU hj
    · exact local_at_34 op U a x w hU hj
    · exact local_at_35 op U a x w hU hj
    · exact local_at_36 op U a x w hU hj
    · exact local_at_37 op U a x w hU hj
    · exact local_at_38 op U a x w hU hj
    · exact local_at_39 op U a x w hU hj
    · exact local_at_40 op U a x w hU hj
    · exact local_at_41 op U a x w hU hj
    · exact local_at_42 op U a x w hU hj
    · exact local_at_43 op U a x w hU hj
    · exact local_at_44 op U a x w hU hj
    · exact local_at_45 op U a x w hU hj
    · exact local_at_46 op U a x w hU hj
    · exact local_at_47 op U a x w hU hj
  · rcases (show j = 48 ∨ j = 49 ∨ j = 50 ∨ j = 51 ∨ j = 52 ∨ j = 53 ∨ j = 54 ∨ j = 55 ∨ j = 56 ∨ j = 57 ∨ j = 58 ∨ j = 59 ∨ j = 60 ∨ j = 61 ∨ j = 62 ∨ j = 63 by omega) with rfl | rfl | rfl | rfl | rfl | rfl | rfl | rfl | rfl | rfl | rfl | rfl | rfl | rfl | rfl | rfl
    · exact local_at_48 op U a x w hU hj
    · exact local_at_49 op U a x w hU hj
    · exact local_at_50 op U a x w hU hj
    · exact local_at_51 op U a x w hU hj
    · exact local_at_52 op U a x w hU hj
    · exact local_at_53 op U a x w hU hj
    · exact local_at_54 op U a x w hU hj
    · exact local_at_55 op U a x w hU hj
    · exact local_at_56 op U a x w hU hj
    · exact local_at_57 op U a x w hU hj
    · exact local_at_58 op U a x w hU hj
    · exact local_at_59 op U a x w hU hj
    · exact local_at_60 op U a x w hU hj
    · exact local_at_61 op U a x w hU hj
    · exact local_at_62 op U a x w hU hj
    · exact local_at_63 op U a x w hU hj
  · rcases (show j = 64 ∨ j = 65 ∨ j = 66 ∨ j = 67 ∨ j = 68 ∨ j = 69 ∨ j = 70 ∨ j = 71 ∨ j = 72 ∨ j = 73 ∨ j = 74 ∨ j = 75 ∨ j = 76 ∨ j = 77 ∨ j = 78 ∨ j = 79 by omega) with rfl | rfl | rfl | rfl | rfl | rfl | rfl | rfl | rfl | rfl | rfl | rfl | rfl | rfl | rfl | rfl
    · exact local_at_64 op U a x w hU hj
    · exact local_at_65 op U a x w hU hj
    · exact local_at_66 op U a x w hU hj
    · exact local_at_67 op U a x w hU hj
    · exact local_at_68 op U a x w hU hj
    · exact local_at_69 op U a x w hU hj
    · exact local_at_70 op U a x w hU hj
    · exact local_at_71 op U a x w hU hj
    · exact local_at_72 op U a x w hU hj
    · exact local_at_73 op U a x w hU hj
    · exact local_at_74 op U a x w hU hj
    · exact local_at_75 op U a x w hU hj
    · exact local_at_76 op U a x w hU hj
    · exact local_at_77 op U a x w hU hj
    · exact local_at_78 op U a x w hU hj
    · exact local_at_79 op U a x w hU hj
  · rcases (show j = 80 ∨ j = 81 ∨ j = 82 ∨ j = 83 ∨ j = 84 ∨ j = 85 ∨ j = 86 ∨ j = 87 ∨ j = 88 ∨ j = 89 ∨ j = 90 ∨ j = 91 ∨ j = 92 ∨ j = 93 ∨ j = 94 ∨ j = 95 by omega) with rfl | rfl | rfl | rfl | rfl | rfl | rfl | rfl | rfl | rfl | rfl | rfl | rfl | rfl | rfl | rfl
    · exact local_at_80 op U a x w hU hj
    · exact local_at_81 op U a x w hU hj
    · exact local_at_82 op U a x w hU hj
    · exact local_at_83 op U a x w hU hj
    · exact local_at_84 op U a x w hU hj
    · exact local_at_85 op U a x w hU hj
    · exact local_at_86 op U a x w hU hj
    · exact local_at_87 op U a x w hU hj
    · exact local_at_88 op U a x w hU hj
    · exact local_at_89 op U a x w hU hj
    · exact local_at_90 op U a x w hU hj
    · exact local_at_91 op U a x w hU hj
    · exact local_at_92 op U a x w hU hj
    · exact local_at_93 op U a x w hU hj
    · exact local_at_94 op U a x w hU hj
    · exact local_at_95 op U a x w hU hj
  · rcases (show j = 96 ∨ j = 97 ∨ j = 98 ∨ j = 99 ∨ j = 100 ∨ j = 101 ∨ j = 102 ∨ j = 103 ∨ j = 104 ∨ j = 105 ∨ j = 106 ∨ j = 107 ∨ j = 108 ∨ j = 109 ∨ j = 110 ∨ j = 111 by omega) with rfl | rfl | rfl | rfl | rfl | rfl | rfl | rfl | rfl | rfl | rfl | rfl | rfl | rfl | rfl | rfl
    · exact local_at_96 op U a x w hU hj
    · exact local_at_97 op U a x w hU hj
    · exact local_at_98 op U a x w hU hj
    · exact local_at_99 op U a x w hU hj
    · exact local_at_100 op U a x w hU hj
    · exact local_at_101 op U a x w hU hj
    · exact local_at_102 op U a x w hU hj
    · exact local_at_103 op U a x w hU hj
    · exact local_at_104 op U a x w hU hj
    · exact local_at_105 op U a x w hU hj
    · exact local_at_106 op U a x w hU hj
    · exact local_at_107 op U a x w hU hj
    · exact local_at_108 op U a x w hU hj
    · exact local_at_109 op U a x w hU hj
    · exact local_at_110 op U a x w hU hj
    · exact local_at_111 op U a x w hU hj
  · rcases (show j = 112 ∨ j = 113 ∨ j = 114 ∨ j = 115 ∨ j = 116 ∨ j = 117 ∨ j = 118 ∨ j = 119 ∨ j = 120 ∨ j = 121 ∨ j = 122 ∨ j = 123 ∨ j = 124 ∨ j = 125 ∨ j = 126 ∨ j = 127 by omega) with rfl | rfl | rfl | rfl | rfl | rfl | rfl | rfl | rfl | rfl | rfl | rfl | rfl | rfl | rfl | rfl
    · exact local_at_112 op U a x w hU hj
    · exact local_at_113 op U a x w hU hj
    · exact local_at_114 op U a x w hU hj
    · exact local_at_115 op U a x w hU hj
    · exact local_at_116 op U a x w hU hj
    · exact local_at_117 op U a x w hU hj
    · exact local_at_118 op U a x w hU hj
    · exact local_at_119 op U a x w hU hj
    · exact local_at_120 op U a x w hU hj
    · exact local_at_121 op U a x w hU hj
    · exact local_at_122 op U a x w hU hj
    · exact local_at_123 op U a x w hU hj
    · exact local_at_124 op U a x w hU hj
    · exact local_at_125 op U a x w hU hj
    · exact local_at_126 op U a x w hU hj
    · exact local_at_127 op U a x w hU hj
end Go.Proofs.Ytgemlndpmbeaeaa
