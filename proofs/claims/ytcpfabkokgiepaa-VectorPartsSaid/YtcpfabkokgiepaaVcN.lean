/-
  Package move: Extract; Extract and Replace by opcode.
-/
import Derived.Test.YtcpfabkokgiepaaVcM
set_option linter.unusedSimpArgs false
set_option linter.unusedVariables false
namespace Go.Proofs.Ytcpfabkokgiepaa
open Go.RowKit Pl

set_option maxRecDepth 100000 in
theorem ext_21 (i : Int) (j : Nat) (v : Vec) (w : World) (hj : i = j) (hlt : j < 16) :
    Calls Try.prog 27 #[.int .i64 64789, .int .i64 i, .agg (cells v)] w fun e w' => e = .returned (.tuple #[.int .u64 (((sgn 8 (getN v 8 j)) % 4294967296).toNat : Nat), .int .i64 0]) ∧ Below w.heap.size w w' := by
  have h0 : decide (i < 0) = false := by simp; omega
  have h1 : decide (16 ≤ i) = false := by simp; omega
  have HJ := Lib.hid hj
  clear hj
  go_enter Try.func27, Try.ntmps27
  go_wp2_with (first | (go_at_call 61; refine (lane_21 _).mono ?_; rintro e w1 ⟨rfl, rfl⟩) | (go_at_call 50; ((with_reducible refine (lanes8 _).mono ?_); rintro e w2 ⟨rfl, rfl⟩)) | (with_reducible refine load_vec rfl _ rfl _ rfl _ (heap_alloc_new _ _) ?_) | (go_at_call 53; refine (signed8z v i j _ HJ.out hlt).mono ?_; rintro e u ⟨rfl, hb⟩; have hZ := below_new (Below.refl w.heap.size w) (Nat.le_refl _) _ hb))
  go_ret2
  refine ⟨?_, hZ⟩
  rw [Int.toNat_of_nonneg (Int.emod_nonneg _ (by decide))]
  first | rfl | (trace_state; rfl)
set_option maxRecDepth 100000 in
theorem ext_22 (i : Int) (j : Nat) (v : Vec) (w : World) (hj : i = j) (hlt : j < 16) :
    Calls Try.prog 27 #[.int .i64 64790, .int .i64 i, .agg (cells v)] w fun e w' => e = .returned (.tuple #[.int .u64 ((getN v 8 j) : Nat), .int .i64 0]) ∧ Below w.heap.size w w' := by
  have h0 : decide (i < 0) = false := by simp; omega
  have h1 : decide (16 ≤ i) = false := by simp; omega
  have HJ := Lib.hid hj
  clear hj
  go_enter Try.func27, Try.ntmps27
  go_wp2_with (first | (go_at_call 61; refine (lane_22 _).mono ?_; rintro e w1 ⟨rfl, rfl⟩) | (go_at_call 50; ((with_reducible refine (lanes8 _).mono ?_); rintro e w2 ⟨rfl, rfl⟩)) | (with_reducible refine load_vec rfl _ rfl _ rfl _ (heap_alloc_new _ _) ?_) | (go_at_call 51; refine (get8z v i j _ HJ.out hlt).mono ?_; rintro e u ⟨rfl, hb⟩; have hZ := below_new (Below.refl w.heap.size w) (Nat.le_refl _) _ hb))
  go_ret2
  exact ⟨rfl, hZ⟩
set_option maxRecDepth 100000 in
theorem ext_24 (i : Int) (j : Nat) (v : Vec) (w : World) (hj : i = j) (hlt : j < 8) :
    Calls Try.prog 27 #[.int .i64 64792, .int .i64 i, .agg (cells v)] w fun e w' => e = .returned (.tuple #[.int .u64 (((sgn 16 (getN v 16 j)) % 4294967296).toNat : Nat), .int .i64 0]) ∧ Below w.heap.size w w' := by
  have h0 : decide (i < 0) = false := by simp; omega
  have h1 : decide (8 ≤ i) = false := by simp; omega
  have HJ := Lib.hid hj
  clear hj
  go_enter Try.func27, Try.ntmps27
  go_wp2_with (first | (go_at_call 61; refine (lane_24 _).mono ?_; rintro e w1 ⟨rfl, rfl⟩) | (go_at_call 50; ((with_reducible refine (lanes16 _).mono ?_); rintro e w2 ⟨rfl, rfl⟩)) | (with_reducible refine load_vec rfl _ rfl _ rfl _ (heap_alloc_new _ _) ?_) | (go_at_call 53; refine (signed16z v i j _ HJ.out hlt).mono ?_; rintro e u ⟨rfl, hb⟩; have hZ := below_new (Below.refl w.heap.size w) (Nat.le_refl _) _ hb))
  go_ret2
  refine ⟨?_, hZ⟩
  rw [Int.toNat_of_nonneg (Int.emod_nonneg _ (by decide))]
  first | rfl | (trace_state; rfl)
set_option maxRecDepth 100000 in
theorem ext_25 (i : Int) (j : Nat) (v : Vec) (w : World) (hj : i = j) (hlt : j < 8) :
    Calls Try.prog 27 #[.int .i64 64793, .int .i64 i, .agg (cells v)] w fun e w' => e = .returned (.tuple #[.int .u64 ((getN v 16 j) : Nat), .int .i64 0]) ∧ Below w.heap.size w w' := by
  have h0 : decide (i < 0) = false := by simp; omega
  have h1 : decide (8 ≤ i) = false := by simp; omega
  have HJ := Lib.hid hj
  clear hj
  go_enter Try.func27, Try.ntmps27
  go_wp2_with (first | (go_at_call 61; refine (lane_25 _).mono ?_; rintro e w1 ⟨rfl, rfl⟩) | (go_at_call 50; ((with_reducible refine (lanes16 _).mono ?_); rintro e w2 ⟨rfl, rfl⟩)) | (with_reducible refine load_vec rfl _ rfl _ rfl _ (heap_alloc_new _ _) ?_) | (go_at_call 51; refine (get16z v i j _ HJ.out hlt).mono ?_; rintro e u ⟨rfl, hb⟩; have hZ := below_new (Below.refl w.heap.size w) (Nat.le_refl _) _ hb))
  go_ret2
  exact ⟨rfl, hZ⟩
set_option maxRecDepth 100000 in
theorem ext_27 (i : Int) (j : Nat) (v : Vec) (w : World) (hj : i = j) (hlt : j < 4) :
    Calls Try.prog 27 #[.int .i64 64795, .int .i64 i, .agg (cells v)] w fun e w' => e = .returned (.tuple #[.int .u64 ((getN v 32 j) : Nat), .int .i64 0]) ∧ Below w.heap.size w w' := by
  have h0 : decide (i < 0) = false := by simp; omega
  have h1 : decide (4 ≤ i) = false := by simp; omega
  have HJ := Lib.hid hj
  clear hj
  go_enter Try.func27, Try.ntmps27
  go_wp2_with (first | (go_at_call 61; refine (lane_27 _).mono ?_; rintro e w1 ⟨rfl, rfl⟩) | (go_at_call 50; ((with_reducible refine (lanes32 _).mono ?_); rintro e w2 ⟨rfl, rfl⟩)) | (with_reducible refine load_vec rfl _ rfl _ rfl _ (heap_alloc_new _ _) ?_) | (go_at_call 51; refine (get32z v i j _ HJ.out hlt).mono ?_; rintro e u ⟨rfl, hb⟩; have hZ := below_new (Below.refl w.heap.size w) (Nat.le_refl _) _ hb))
  go_ret2
  exact ⟨rfl, hZ⟩
set_option maxRecDepth 100000 in
theorem ext_29 (i : Int) (j : Nat) (v : Vec) (w : World) (hj : i = j) (hlt : j < 2) :
    Calls Try.prog 27 #[.int .i64 64797, .int .i64 i, .agg (cells v)] w fun e w' => e = .returned (.tuple #[.int .u64 ((getN v 64 j) : Nat), .int .i64 0]) ∧ Below w.heap.size w w' := by
  have h0 : decide (i < 0) = false := by simp; omega
  have h1 : decide (2 ≤ i) = false := by simp; omega
  have HJ := Lib.hid hj
  clear hj
  go_enter Try.func27, Try.ntmps27
  go_wp2_with (first | (go_at_call 61; refine (lane_29 _).mono ?_; rintro e w1 ⟨rfl, rfl⟩) | (go_at_call 50; ((with_reducible refine (lanes64 _).mono ?_); rintro e w2 ⟨rfl, rfl⟩)) | (with_reducible refine load_vec rfl _ rfl _ rfl _ (heap_alloc_new _ _) ?_) | (go_at_call 51; refine (get64z v i j _ HJ.out hlt).mono ?_; rintro e u ⟨rfl, hb⟩; have hZ := below_new (Below.refl w.heap.size w) (Nat.le_refl _) _ hb))
  go_ret2
  exact ⟨rfl, hZ⟩
/-- Extract refuses. -/
theorem ext_no (op i : Int) (z : Int) (lb : Bool) (v : Vec) (w : World) (HK : ∀ W, Calls Try.prog 61 #[.int .i64 op] W fun e w' => e = .returned (.tuple #[.int .i64 z, .bool lb]) ∧ w' = W) (h : z = 0 ∨ lb = true ∨ i < 0 ∨ lanesOf z ≤ i) :
    Calls Try.prog 27 #[.int .i64 op, .int .i64 i, .agg (cells v)] w fun e w' => e = .returned (.tuple #[.int .u64 0, .int .i64 1]) ∧ Below w.heap.size w w' := by
  have HL := Lib.hid HK
  clear HK
  have HLA := Lib.hid (fun W => lanes_any z W)
  obtain ⟨n, hn⟩ : ∃ n, n = lanesOf z := ⟨_, rfl⟩
  rw [← hn] at h HLA
  clear hn
  have hZ : ∀ x, Below w.heap.size w (w.alloc x) := fun x => (Below.refl _ _).alloc (Nat.le_refl _) _
  by_cases hz : z = 0
  · subst hz
    clear h
    go_enter Try.func27, Try.ntmps27
    go_wp2_with (go_at_call 61; refine (HL.out _).mono ?_; rintro e w1 ⟨rfl, rfl⟩)
    go_ret2
    exact ⟨rfl, hZ _⟩
  · have q0 : (z == 0) = false := beq_eq_false_iff_ne.2 hz
    rcases lb with _ | _
    · by_cases h0 : i < 0
      · have q1 : decide (i < 0) = true := by simp [h0]
        clear h hz h0
        go_enter Try.func27, Try.ntmps27
        go_wp2_with (go_at_call 61; refine (HL.out _).mono ?_; rintro e w1 ⟨rfl, rfl⟩)
        go_ret2
        exact ⟨rfl, hZ _⟩
      · have q1 : decide (i < 0) = false := by simp; omega
        have h4 : n ≤ i := by simp [hz, h0] at h; exact h
        have q2 : decide (n ≤ i) = true := by simp [h4]
        clear h hz h0 h4
        go_enter Try.func27, Try.ntmps27
        go_wp2_with (first | (go_at_call 61; refine (HL.out _).mono ?_; rintro e w1 ⟨rfl, rfl⟩) | (go_at_call 50; refine (HLA.out _).mono ?_; rintro e w2 ⟨rfl, rfl⟩))
        go_ret2
        exact ⟨rfl, hZ _⟩
    · clear h hz
      go_enter Try.func27, Try.ntmps27
      go_wp2_with (go_at_call 61; refine (HL.out _).mono ?_; rintro e w1 ⟨rfl, rfl⟩)
      go_ret2
      exact ⟨rfl, hZ _⟩
theorem lanesOf_N (n : Nat) : lanesOf (n : Int) = (lanesN n : Int) := by
  unfold lanesOf lanesN
  by_cases h8 : n = 8
  · subst h8; rfl
  · by_cases h16 : n = 16
    · subst h16; rfl
    · by_cases h32 : n = 32
      · subst h32; rfl
      · by_cases h64 : n = 64
        · subst h64; rfl
        · rw [if_neg (by omega), if_neg (by omega), if_neg (by omega), if_neg (by omega), if_neg h8, if_neg h16, if_neg h32, if_neg h64]; rfl
theorem lane_k (κ : Int) (w : World) (h : 0 ≤ κ ∧ κ ≤ 255) : Calls Try.prog 61 #[.int .i64 (64768 + κ)] w fun e w' => e = .returned (.tuple #[.int .i64 ((laneW κ).1 : Nat), .bool (laneW κ).2]) ∧ w' = w := by
  by_cases hk : 21 ≤ κ ∧ κ ≤ 30
  · obtain rfl | rfl | rfl | rfl | rfl | rfl | rfl | rfl | rfl | rfl : κ = 21 ∨ κ = 22 ∨ κ = 23 ∨ κ = 24 ∨ κ = 25 ∨ κ = 26 ∨ κ = 27 ∨ κ = 28 ∨ κ = 29 ∨ κ = 30 := by omega
    · exact lane_21 w
    · exact lane_22 w
    · exact lane_23 w
    · exact lane_24 w
    · exact lane_25 w
    · exact lane_26 w
    · exact lane_27 w
    · exact lane_28 w
    · exact lane_29 w
    · exact lane_30 w
  · have e : laneW κ = (0, false) := by
      unfold laneW
      rw [if_neg (by omega), if_neg (by omega), if_neg (by omega), if_neg (by omega), if_neg (by omega), if_neg (by omega), if_neg (by omega), if_neg (by omega)]
    rw [e]
    exact lane_no (64768 + κ) κ w (by rw [show (64768 : Int) + κ - 64768 = κ by omega]; exact IntWalk.i64_in _ (by omega)) (by omega)
theorem ext_k (κ i : Int) (v : Vec) (w : World) (h : 0 ≤ κ ∧ κ ≤ 255) :
    Calls Try.prog 27 #[.int .i64 (64768 + κ), .int .i64 i, .agg (cells v)] w fun e w' => e = .returned (.tuple #[.int .u64 ((extV κ i v).1 : Nat), .int .i64 (extV κ i v).2]) ∧ Below w.heap.size w w' := by
  by_cases hno : (laneW κ).1 = 0 ∨ (laneW κ).2 = true ∨ i < 0 ∨ (lanesN (laneW κ).1 : Int) ≤ i
  · unfold extV
    rw [if_pos hno]
    refine ext_no (64768 + κ) i _ _ v w (fun W => lane_k κ W h) ?_
    rw [lanesOf_N]
    exact hno.imp (fun h => by rw [h]; rfl) id
  · have hi : 0 ≤ i := by omega
    obtain ⟨j, rfl⟩ := Int.eq_ofNat_of_zero_le hi
    have e1 : (laneW κ).1 ≠ 0 := fun e => hno (.inl e)
    have e2 : (laneW κ).2 ≠ true := fun e => hno (.inr (.inl e))
    have e3 : j < lanesN (laneW κ).1 := by omega
    unfold extV
    rw [if_neg hno]
    have hk : 21 ≤ κ ∧ κ ≤ 30 := by
      apply Classical.byContradiction
      intro hn
      apply e1
      unfold laneW
      rw [if_neg (by omega), if_neg (by omega), if_neg (by omega), if_neg (by omega), if_neg (by omega), if_neg (by omega), if_neg (by omega), if_neg (by omega)]
    clear hno hi
    obtain rfl | rfl | rfl | rfl | rfl | rfl | rfl | rfl | rfl | rfl : κ = 21 ∨ κ = 22 ∨ κ = 23 ∨ κ = 24 ∨ κ = 25 ∨ κ = 26 ∨ κ = 27 ∨ κ = 28 ∨ κ = 29 ∨ κ = 30 := by omega
    · exact ext_21 _ j v w rfl e3
    · exact ext_22 _ j v w rfl e3
    · exact absurd rfl e2
    · exact ext_24 _ j v w rfl e3
    · exact ext_25 _ j v w rfl e3
    · exact absurd rfl e2
    · exact ext_27 _ j v w rfl e3
    · exact absurd rfl e2
    · exact ext_29 _ j v w rfl e3
    · exact absurd rfl e2
theorem repl_k (κ i : Int) (v : Vec) (x : Nat) (w : World) (h : 0 ≤ κ ∧ κ ≤ 255) :
    Calls Try.prog 26 #[.int .i64 (64768 + κ), .int .i64 i, .agg (cells v), .int .u64 (x : Nat)] w fun e w' => e = .returned (.tuple #[.agg (cells (replV κ i v x).1), .int .i64 (replV κ i v x).2]) ∧ Below w.heap.size w w' := by
  by_cases hno : (laneW κ).1 = 0 ∨ (laneW κ).2 = false ∨ i < 0 ∨ (lanesN (laneW κ).1 : Int) ≤ i
  · unfold replV
    rw [if_pos hno]
    refine repl_no (64768 + κ) i _ _ v x w (fun W => lane_k κ W h) ?_
    rw [lanesOf_N]
    exact hno.imp (fun h => by rw [h]; rfl) id
  · have hi : 0 ≤ i := by omega
    obtain ⟨j, rfl⟩ := Int.eq_ofNat_of_zero_le hi
    have e1 : (laneW κ).1 ≠ 0 := fun e => hno (.inl e)
    have e2 : (laneW κ).2 ≠ false := fun e => hno (.inr (.inl e))
    have e3 : j < lanesN (laneW κ).1 := by omega
    unfold replV
    rw [if_neg hno]
    have hk : 21 ≤ κ ∧ κ ≤ 30 := by
      apply Classical.byContradiction
      intro hn
      apply e1
      unfold laneW
      rw [if_neg (by omega), if_neg (by omega), if_neg (by omega), if_neg (by omega), if_neg (by omega), if_neg (by omega), if_neg (by omega), if_neg (by omega)]
    clear hno hi
    obtain rfl | rfl | rfl | rfl | rfl | rfl | rfl | rfl | rfl | rfl : κ = 21 ∨ κ = 22 ∨ κ = 23 ∨ κ = 24 ∨ κ = 25 ∨ κ = 26 ∨ κ = 27 ∨ κ = 28 ∨ κ = 29 ∨ κ = 30 := by omega
    · exact absurd rfl e2
    · exact absurd rfl e2
    · exact repl_23 _ j v x w rfl e3
    · exact absurd rfl e2
    · exact absurd rfl e2
    · exact repl_26 _ j v x w rfl e3
    · exact absurd rfl e2
    · exact repl_28 _ j v x w rfl e3
    · exact absurd rfl e2
    · exact repl_30 _ j v x w rfl e3

end Go.Proofs.Ytcpfabkokgiepaa
