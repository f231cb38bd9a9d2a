/-
  Package move: Splat, lane, Extract, Replace, Shuffle, Swizzle.
-/
import Derived.Test.YtcpfabkokgiepaaVmP
import Derived.Test.YtcpfabkokgiepaaCmpB
import Derived.Test.YtcpfabkokgiepaaWidU
set_option linter.unusedSimpArgs false
set_option linter.unusedVariables false
namespace Go.Proofs.Ytcpfabkokgiepaa
open Go.RowKit Pl

end Go.Proofs.Ytcpfabkokgiepaa
namespace Pl
open Go
/-- A lane's instruction: its width, and does it put one in. -/
def laneW (κ : Int) : Nat × Bool :=
  if κ = 21 ∨ κ = 22 then (8, false) else if κ = 23 then (8, true) else if κ = 24 ∨ κ = 25 then (16, false) else if κ = 26 then (16, true) else
  if κ = 27 then (32, false) else if κ = 28 then (32, true) else if κ = 29 then (64, false) else if κ = 30 then (64, true) else (0, false)
def lanesN (w : Nat) : Nat := if w = 8 then 16 else if w = 16 then 8 else if w = 32 then 4 else if w = 64 then 2 else 0
/-- Extract. -/
def extV (κ i : Int) (v : Vec) : Nat × Int :=
  if (laneW κ).1 = 0 ∨ (laneW κ).2 = true ∨ i < 0 ∨ (lanesN (laneW κ).1 : Int) ≤ i then (0, 1)
  else if κ = 21 ∨ κ = 24 then (((sgn (laneW κ).1 (getN v (laneW κ).1 i.toNat)) % 4294967296).toNat, 0)
  else (getN v (laneW κ).1 i.toNat, 0)
/-- Replace. -/
def replV (κ i : Int) (v : Vec) (x : Nat) : Vec × Int :=
  if (laneW κ).1 = 0 ∨ (laneW κ).2 = false ∨ i < 0 ∨ (lanesN (laneW κ).1 : Int) ≤ i then (0, 1)
  else (setN v (laneW κ).1 i.toNat x, 0)
/-- Splat. -/
def splatV (κ : Int) (x : Nat) : Vec × Int :=
  if κ = 15 then (buildOn 0 8 (fun _ => x) 16, 0) else if κ = 16 then (buildOn 0 16 (fun _ => x) 8, 0) else if κ = 17 then (buildOn 0 32 (fun _ => x) 4, 0) else if κ = 18 then (buildOn 0 64 (fun _ => x) 2, 0) else (0, 1)
def shufF (s a b : Vec) (i : Nat) : Nat := if 16 ≤ getN s 8 i then getN b 8 (getN s 8 i - 16) else getN a 8 (getN s 8 i)
/-- Shuffle. -/
def shufV (s a b : Vec) : Vec × Int := if (List.range 16).all (fun i => decide (getN s 8 i < 32)) = true then (buildOn 0 8 (shufF s a b) 16, 0) else (0, 1)
def swizF (a b : Vec) (i : Nat) : Nat := if getN b 8 i < 16 then getN a 8 (getN b 8 i) else 0
/-- Swizzle. -/
def swizV (a b : Vec) : Vec := buildOn 0 8 (swizF a b) 16
end Pl
namespace Go.Proofs.Ytcpfabkokgiepaa
open Go.RowKit Pl

set_option maxRecDepth 100000 in
theorem splat_8 (x : Nat) (w : World) :
    Calls Try.prog 25 #[.int .i64 64783, .int .u64 (x : Nat)] w fun e w' => e = .returned (.tuple #[.agg (cells (buildOn 0 8 (fun _ => x) 16)), .int .i64 0]) ∧ Below w.heap.size w w' := by
  go_enter Try.func25, Try.ntmps25
  go_wp2_with (first | (go_at_call 50; ((with_reducible refine (lanes8 _).mono ?_); rintro e w' ⟨rfl, rfl⟩)))
  rw [← cells_zero]
  obtain ⟨W, hW⟩ : ∃ W, W = (w.alloc (.cells (cells 0) 45)).alloc (.cells (cells 0) 45) := ⟨_, rfl⟩
  have hR : W.heap[w.heap.size]? = some (.cells (cells 0) 45 (0, 0)) := hW ▸ heap_alloc2_old _ _ _
  have hO : W.heap[w.heap.size + 1]? = some (.cells (cells 0) 45 (0, 0)) := hW ▸ heap_alloc2_new _ _ _
  have hZ : Below w.heap.size w W := hW ▸ ((Below.refl _ _).alloc (Nat.le_refl _) _).alloc (by simp) _
  rw [← hW]
  clear hW
  go_loopw [24] (fun j wr => ∃ k : Nat, k ≤ 16 ∧ j = .int .i64 k ∧ St W (w.heap.size + 1) (buildOn 0 8 (fun _ => x) k) wr) (fun j _ => 16 - (intOf j).toNat)
  case atStart => exact ⟨0, Nat.zero_le _, rfl, St.start hO⟩
  case round =>
    obtain ⟨k, hk, rfl, hs⟩ := hrel
    by_cases hlt : k < 16
    · go_wp2_with (first | (with_reducible refine load_vec rfl _ rfl _ rfl _ hs.this ?_) | (go_at_call 54; (with_reducible refine (set8z _ _ _ k x _ rfl rfl (by omega)).mono ?_); rintro e u ⟨rfl, hb⟩; replace hs := hs.below hb; clear hb) | (with_reducible refine store_vec rfl _ _ rfl (w.heap.size + 1) _ rfl rfl _ hs.this ?_; intro wz hz))
      go_roundw
      case rel => exact ⟨k + 1, by omega, by go_num, hs.sets hz⟩
      case measure => (simp [intOf] <;> omega)
    · obtain rfl : k = 16 := by omega
      have hR' := hs.kb.get hR (by omega)
      go_wp2_with (first | (with_reducible refine load_vec rfl _ rfl _ rfl _ hs.this ?_) | (with_reducible refine store_vec rfl _ _ rfl w.heap.size _ rfl rfl _ hR' ?_; intro wq hq))
      exact bodyPost_ret (results_vec_tmp rfl _ _ w.heap.size _ _ rfl rfl hq.this) rfl ⟨rfl, (hs.kb.to_below hZ (by omega)).trans (hq.below.mono (by omega))⟩
set_option maxRecDepth 100000 in
theorem splat_16 (x : Nat) (w : World) :
    Calls Try.prog 25 #[.int .i64 64784, .int .u64 (x : Nat)] w fun e w' => e = .returned (.tuple #[.agg (cells (buildOn 0 16 (fun _ => x) 8)), .int .i64 0]) ∧ Below w.heap.size w w' := by
  go_enter Try.func25, Try.ntmps25
  go_wp2_with (first | (go_at_call 50; ((with_reducible refine (lanes16 _).mono ?_); rintro e w' ⟨rfl, rfl⟩)))
  rw [← cells_zero]
  obtain ⟨W, hW⟩ : ∃ W, W = (w.alloc (.cells (cells 0) 45)).alloc (.cells (cells 0) 45) := ⟨_, rfl⟩
  have hR : W.heap[w.heap.size]? = some (.cells (cells 0) 45 (0, 0)) := hW ▸ heap_alloc2_old _ _ _
  have hO : W.heap[w.heap.size + 1]? = some (.cells (cells 0) 45 (0, 0)) := hW ▸ heap_alloc2_new _ _ _
  have hZ : Below w.heap.size w W := hW ▸ ((Below.refl _ _).alloc (Nat.le_refl _) _).alloc (by simp) _
  rw [← hW]
  clear hW
  go_loopw [24] (fun j wr => ∃ k : Nat, k ≤ 8 ∧ j = .int .i64 k ∧ St W (w.heap.size + 1) (buildOn 0 16 (fun _ => x) k) wr) (fun j _ => 8 - (intOf j).toNat)
  case atStart => exact ⟨0, Nat.zero_le _, rfl, St.start hO⟩
  case round =>
    obtain ⟨k, hk, rfl, hs⟩ := hrel
    by_cases hlt : k < 8
    · go_wp2_with (first | (with_reducible refine load_vec rfl _ rfl _ rfl _ hs.this ?_) | (go_at_call 54; (with_reducible refine (set16z _ _ _ k x _ rfl rfl (by omega)).mono ?_); rintro e u ⟨rfl, hb⟩; replace hs := hs.below hb; clear hb) | (with_reducible refine store_vec rfl _ _ rfl (w.heap.size + 1) _ rfl rfl _ hs.this ?_; intro wz hz))
      go_roundw
      case rel => exact ⟨k + 1, by omega, by go_num, hs.sets hz⟩
      case measure => (simp [intOf] <;> omega)
    · obtain rfl : k = 8 := by omega
      have hR' := hs.kb.get hR (by omega)
      go_wp2_with (first | (with_reducible refine load_vec rfl _ rfl _ rfl _ hs.this ?_) | (with_reducible refine store_vec rfl _ _ rfl w.heap.size _ rfl rfl _ hR' ?_; intro wq hq))
      exact bodyPost_ret (results_vec_tmp rfl _ _ w.heap.size _ _ rfl rfl hq.this) rfl ⟨rfl, (hs.kb.to_below hZ (by omega)).trans (hq.below.mono (by omega))⟩
set_option maxRecDepth 100000 in
theorem splat_32 (x : Nat) (w : World) :
    Calls Try.prog 25 #[.int .i64 64785, .int .u64 (x : Nat)] w fun e w' => e = .returned (.tuple #[.agg (cells (buildOn 0 32 (fun _ => x) 4)), .int .i64 0]) ∧ Below w.heap.size w w' := by
  go_enter Try.func25, Try.ntmps25
  go_wp2_with (first | (go_at_call 50; ((with_reducible refine (lanes32 _).mono ?_); rintro e w' ⟨rfl, rfl⟩)))
  rw [← cells_zero]
  obtain ⟨W, hW⟩ : ∃ W, W = (w.alloc (.cells (cells 0) 45)).alloc (.cells (cells 0) 45) := ⟨_, rfl⟩
  have hR : W.heap[w.heap.size]? = some (.cells (cells 0) 45 (0, 0)) := hW ▸ heap_alloc2_old _ _ _
  have hO : W.heap[w.heap.size + 1]? = some (.cells (cells 0) 45 (0, 0)) := hW ▸ heap_alloc2_new _ _ _
  have hZ : Below w.heap.size w W := hW ▸ ((Below.refl _ _).alloc (Nat.le_refl _) _).alloc (by simp) _
  rw [← hW]
  clear hW
  go_loopw [24] (fun j wr => ∃ k : Nat, k ≤ 4 ∧ j = .int .i64 k ∧ St W (w.heap.size + 1) (buildOn 0 32 (fun _ => x) k) wr) (fun j _ => 4 - (intOf j).toNat)
  case atStart => exact ⟨0, Nat.zero_le _, rfl, St.start hO⟩
  case round =>
    obtain ⟨k, hk, rfl, hs⟩ := hrel
    by_cases hlt : k < 4
    · go_wp2_with (first | (with_reducible refine load_vec rfl _ rfl _ rfl _ hs.this ?_) | (go_at_call 54; (with_reducible refine (set32z _ _ _ k x _ rfl rfl (by omega)).mono ?_); rintro e u ⟨rfl, hb⟩; replace hs := hs.below hb; clear hb) | (with_reducible refine store_vec rfl _ _ rfl (w.heap.size + 1) _ rfl rfl _ hs.this ?_; intro wz hz))
      go_roundw
      case rel => exact ⟨k + 1, by omega, by go_num, hs.sets hz⟩
      case measure => (simp [intOf] <;> omega)
    · obtain rfl : k = 4 := by omega
      have hR' := hs.kb.get hR (by omega)
      go_wp2_with (first | (with_reducible refine load_vec rfl _ rfl _ rfl _ hs.this ?_) | (with_reducible refine store_vec rfl _ _ rfl w.heap.size _ rfl rfl _ hR' ?_; intro wq hq))
      exact bodyPost_ret (results_vec_tmp rfl _ _ w.heap.size _ _ rfl rfl hq.this) rfl ⟨rfl, (hs.kb.to_below hZ (by omega)).trans (hq.below.mono (by omega))⟩
set_option maxRecDepth 100000 in
theorem splat_64 (x : Nat) (w : World) :
    Calls Try.prog 25 #[.int .i64 64786, .int .u64 (x : Nat)] w fun e w' => e = .returned (.tuple #[.agg (cells (buildOn 0 64 (fun _ => x) 2)), .int .i64 0]) ∧ Below w.heap.size w w' := by
  go_enter Try.func25, Try.ntmps25
  go_wp2_with (first | (go_at_call 50; ((with_reducible refine (lanes64 _).mono ?_); rintro e w' ⟨rfl, rfl⟩)))
  rw [← cells_zero]
  obtain ⟨W, hW⟩ : ∃ W, W = (w.alloc (.cells (cells 0) 45)).alloc (.cells (cells 0) 45) := ⟨_, rfl⟩
  have hR : W.heap[w.heap.size]? = some (.cells (cells 0) 45 (0, 0)) := hW ▸ heap_alloc2_old _ _ _
  have hO : W.heap[w.heap.size + 1]? = some (.cells (cells 0) 45 (0, 0)) := hW ▸ heap_alloc2_new _ _ _
  have hZ : Below w.heap.size w W := hW ▸ ((Below.refl _ _).alloc (Nat.le_refl _) _).alloc (by simp) _
  rw [← hW]
  clear hW
  go_loopw [24] (fun j wr => ∃ k : Nat, k ≤ 2 ∧ j = .int .i64 k ∧ St W (w.heap.size + 1) (buildOn 0 64 (fun _ => x) k) wr) (fun j _ => 2 - (intOf j).toNat)
  case atStart => exact ⟨0, Nat.zero_le _, rfl, St.start hO⟩
  case round =>
    obtain ⟨k, hk, rfl, hs⟩ := hrel
    by_cases hlt : k < 2
    · go_wp2_with (first | (with_reducible refine load_vec rfl _ rfl _ rfl _ hs.this ?_) | (go_at_call 54; (with_reducible refine (set64z _ _ _ k x _ rfl rfl (by omega)).mono ?_); rintro e u ⟨rfl, hb⟩; replace hs := hs.below hb; clear hb) | (with_reducible refine store_vec rfl _ _ rfl (w.heap.size + 1) _ rfl rfl _ hs.this ?_; intro wz hz))
      go_roundw
      case rel => exact ⟨k + 1, by omega, by go_num, hs.sets hz⟩
      case measure => (simp [intOf] <;> omega)
    · obtain rfl : k = 2 := by omega
      have hR' := hs.kb.get hR (by omega)
      go_wp2_with (first | (with_reducible refine load_vec rfl _ rfl _ rfl _ hs.this ?_) | (with_reducible refine store_vec rfl _ _ rfl w.heap.size _ rfl rfl _ hR' ?_; intro wq hq))
      exact bodyPost_ret (results_vec_tmp rfl _ _ w.heap.size _ _ rfl rfl hq.this) rfl ⟨rfl, (hs.kb.to_below hZ (by omega)).trans (hq.below.mono (by omega))⟩
theorem below_alloc2' (w : World) (x y : Obj) : Below w.heap.size w ((w.alloc x).alloc y) := ((Below.refl _ _).alloc (Nat.le_refl _) _).alloc (by simp) _
theorem below_alloc2 (w : World) (x y : Obj) {u : World} (h : Below ((w.alloc x).alloc y).heap.size ((w.alloc x).alloc y) u) : Below w.heap.size w u := (below_alloc2' w x y).trans (h.mono (by simp; omega))
theorem lane_21 (w : World) : Calls Try.prog 61 #[.int .i64 64789] w fun e w' => e = .returned (.tuple #[.int .i64 8, .bool false]) ∧ w' = w := by
  go_enter Try.func61, Try.ntmps61
  go_wp2_with fail
  go_ret2
  exact ⟨rfl, rfl⟩
theorem lane_22 (w : World) : Calls Try.prog 61 #[.int .i64 64790] w fun e w' => e = .returned (.tuple #[.int .i64 8, .bool false]) ∧ w' = w := by
  go_enter Try.func61, Try.ntmps61
  go_wp2_with fail
  go_ret2
  exact ⟨rfl, rfl⟩
theorem lane_23 (w : World) : Calls Try.prog 61 #[.int .i64 64791] w fun e w' => e = .returned (.tuple #[.int .i64 8, .bool true]) ∧ w' = w := by
  go_enter Try.func61, Try.ntmps61
  go_wp2_with fail
  go_ret2
  exact ⟨rfl, rfl⟩
theorem lane_24 (w : World) : Calls Try.prog 61 #[.int .i64 64792] w fun e w' => e = .returned (.tuple #[.int .i64 16, .bool false]) ∧ w' = w := by
  go_enter Try.func61, Try.ntmps61
  go_wp2_with fail
  go_ret2
  exact ⟨rfl, rfl⟩
theorem lane_25 (w : World) : Calls Try.prog 61 #[.int .i64 64793] w fun e w' => e = .returned (.tuple #[.int .i64 16, .bool false]) ∧ w' = w := by
  go_enter Try.func61, Try.ntmps61
  go_wp2_with fail
  go_ret2
  exact ⟨rfl, rfl⟩
theorem lane_26 (w : World) : Calls Try.prog 61 #[.int .i64 64794] w fun e w' => e = .returned (.tuple #[.int .i64 16, .bool true]) ∧ w' = w := by
  go_enter Try.func61, Try.ntmps61
  go_wp2_with fail
  go_ret2
  exact ⟨rfl, rfl⟩
theorem lane_27 (w : World) : Calls Try.prog 61 #[.int .i64 64795] w fun e w' => e = .returned (.tuple #[.int .i64 32, .bool false]) ∧ w' = w := by
  go_enter Try.func61, Try.ntmps61
  go_wp2_with fail
  go_ret2
  exact ⟨rfl, rfl⟩
theorem lane_28 (w : World) : Calls Try.prog 61 #[.int .i64 64796] w fun e w' => e = .returned (.tuple #[.int .i64 32, .bool true]) ∧ w' = w := by
  go_enter Try.func61, Try.ntmps61
  go_wp2_with fail
  go_ret2
  exact ⟨rfl, rfl⟩
theorem lane_29 (w : World) : Calls Try.prog 61 #[.int .i64 64797] w fun e w' => e = .returned (.tuple #[.int .i64 64, .bool false]) ∧ w' = w := by
  go_enter Try.func61, Try.ntmps61
  go_wp2_with fail
  go_ret2
  exact ⟨rfl, rfl⟩
theorem lane_30 (w : World) : Calls Try.prog 61 #[.int .i64 64798] w fun e w' => e = .returned (.tuple #[.int .i64 64, .bool true]) ∧ w' = w := by
  go_enter Try.func61, Try.ntmps61
  go_wp2_with fail
  go_ret2
  exact ⟨rfl, rfl⟩
theorem lane_no (op κ : Int) (w : World) (hκ : IntKind.i64.wrap (op - 64768) = κ) (h : κ < 21 ∨ 30 < κ) : Calls Try.prog 61 #[.int .i64 op] w fun e w' => e = .returned (.tuple #[.int .i64 0, .bool false]) ∧ w' = w := by
  have t21 : (κ == 21) = false := beq_eq_false_iff_ne.2 (by omega)
  have t22 : (κ == 22) = false := beq_eq_false_iff_ne.2 (by omega)
  have t23 : (κ == 23) = false := beq_eq_false_iff_ne.2 (by omega)
  have t24 : (κ == 24) = false := beq_eq_false_iff_ne.2 (by omega)
  have t25 : (κ == 25) = false := beq_eq_false_iff_ne.2 (by omega)
  have t26 : (κ == 26) = false := beq_eq_false_iff_ne.2 (by omega)
  have t27 : (κ == 27) = false := beq_eq_false_iff_ne.2 (by omega)
  have t28 : (κ == 28) = false := beq_eq_false_iff_ne.2 (by omega)
  have t29 : (κ == 29) = false := beq_eq_false_iff_ne.2 (by omega)
  have t30 : (κ == 30) = false := beq_eq_false_iff_ne.2 (by omega)
  go_enter Try.func61, Try.ntmps61
  go_wp2_with fail
  go_ret2
  exact ⟨rfl, rfl⟩
set_option maxRecDepth 100000 in
theorem splat_no (op : Int) (x : Nat) (w : World) (h1 : 64768 ≤ op) (h2 : op ≤ 65023) (h : op < 64783 ∨ 64786 < op) :
    Calls Try.prog 25 #[.int .i64 op, .int .u64 (x : Nat)] w fun e w' => e = .returned (.tuple #[.agg (cells 0), .int .i64 1]) ∧ Below w.heap.size w w' := by
  by_cases h0 : op < 64783
  · clear h
    go_enter Try.func25, Try.ntmps25
    go_wp2_with fail
    exact bodyPost_ret (results_vec_tmp rfl _ _ w.heap.size _ _ rfl rfl (heap_new_zero _)) rfl ⟨rfl, (Below.refl _ _).alloc (Nat.le_refl _) _⟩
  · have h3 : 64786 < op := by omega
    clear h
    go_enter Try.func25, Try.ntmps25
    go_wp2_with fail
    exact bodyPost_ret (results_vec_tmp rfl _ _ w.heap.size _ _ rfl rfl (heap_new_zero _)) rfl ⟨rfl, (Below.refl _ _).alloc (Nat.le_refl _) _⟩
theorem splat_k (κ : Int) (x : Nat) (w : World) (h : 0 ≤ κ ∧ κ ≤ 255) :
    Calls Try.prog 25 #[.int .i64 (64768 + κ), .int .u64 (x : Nat)] w fun e w' => e = .returned (.tuple #[.agg (cells (splatV κ x).1), .int .i64 (splatV κ x).2]) ∧ Below w.heap.size w w' := by
  unfold splatV
  by_cases h15 : κ = 15
  · subst h15; exact splat_8 x w
  · by_cases h16 : κ = 16
    · subst h16; exact splat_16 x w
    · by_cases h17 : κ = 17
      · subst h17; exact splat_32 x w
      · by_cases h18 : κ = 18
        · subst h18; exact splat_64 x w
        · rw [if_neg h15, if_neg h16, if_neg h17, if_neg h18]
          exact splat_no _ x w (by omega) (by omega) (by omega)
set_option maxRecDepth 100000 in
theorem repl_23 (i : Int) (j : Nat) (v : Vec) (x : Nat) (w : World) (hj : i = j) (hlt : j < 16) :
    Calls Try.prog 26 #[.int .i64 64791, .int .i64 i, .agg (cells v), .int .u64 (x : Nat)] w fun e w' => e = .returned (.tuple #[.agg (cells (setN v 8 j x)), .int .i64 0]) ∧ Below w.heap.size w w' := by
  have h0 : decide (i < 0) = false := by simp; omega
  have h1 : decide (16 ≤ i) = false := by simp; omega
  have HJ := Lib.hid hj
  clear hj
  go_enter Try.func26, Try.ntmps26
  go_wp2_with (first | (go_at_call 61; refine (lane_23 _).mono ?_; rintro e w1 ⟨rfl, rfl⟩) | (go_at_call 50; ((with_reducible refine (lanes8 _).mono ?_); rintro e w2 ⟨rfl, rfl⟩)) | (with_reducible refine load_vec rfl _ rfl _ rfl _ (heap_alloc2_old _ _ _) ?_) | (go_at_call 54; refine (set8z v i _ j x _ HJ.out rfl hlt).mono ?_; rintro e u ⟨rfl, hb⟩; have hr := blk_keep (heap_zz w 45 _) hb; have hZ := below_alloc2 w _ _ hb) | (with_reducible refine store_vec rfl _ _ rfl (w.heap.size + 1) _ rfl rfl 0 hr ?_; intro wq hq))
  exact bodyPost_ret (results_vec_tmp rfl _ _ (w.heap.size + 1) _ _ rfl rfl hq.this) rfl ⟨rfl, hZ.trans (hq.below.mono (by omega))⟩
set_option maxRecDepth 100000 in
theorem repl_26 (i : Int) (j : Nat) (v : Vec) (x : Nat) (w : World) (hj : i = j) (hlt : j < 8) :
    Calls Try.prog 26 #[.int .i64 64794, .int .i64 i, .agg (cells v), .int .u64 (x : Nat)] w fun e w' => e = .returned (.tuple #[.agg (cells (setN v 16 j x)), .int .i64 0]) ∧ Below w.heap.size w w' := by
  have h0 : decide (i < 0) = false := by simp; omega
  have h1 : decide (8 ≤ i) = false := by simp; omega
  have HJ := Lib.hid hj
  clear hj
  go_enter Try.func26, Try.ntmps26
  go_wp2_with (first | (go_at_call 61; refine (lane_26 _).mono ?_; rintro e w1 ⟨rfl, rfl⟩) | (go_at_call 50; ((with_reducible refine (lanes16 _).mono ?_); rintro e w2 ⟨rfl, rfl⟩)) | (with_reducible refine load_vec rfl _ rfl _ rfl _ (heap_alloc2_old _ _ _) ?_) | (go_at_call 54; refine (set16z v i _ j x _ HJ.out rfl hlt).mono ?_; rintro e u ⟨rfl, hb⟩; have hr := blk_keep (heap_zz w 45 _) hb; have hZ := below_alloc2 w _ _ hb) | (with_reducible refine store_vec rfl _ _ rfl (w.heap.size + 1) _ rfl rfl 0 hr ?_; intro wq hq))
  exact bodyPost_ret (results_vec_tmp rfl _ _ (w.heap.size + 1) _ _ rfl rfl hq.this) rfl ⟨rfl, hZ.trans (hq.below.mono (by omega))⟩
set_option maxRecDepth 100000 in
theorem repl_28 (i : Int) (j : Nat) (v : Vec) (x : Nat) (w : World) (hj : i = j) (hlt : j < 4) :
    Calls Try.prog 26 #[.int .i64 64796, .int .i64 i, .agg (cells v), .int .u64 (x : Nat)] w fun e w' => e = .returned (.tuple #[.agg (cells (setN v 32 j x)), .int .i64 0]) ∧ Below w.heap.size w w' := by
  have h0 : decide (i < 0) = false := by simp; omega
  have h1 : decide (4 ≤ i) = false := by simp; omega
  have HJ := Lib.hid hj
  clear hj
  go_enter Try.func26, Try.ntmps26
  go_wp2_with (first | (go_at_call 61; refine (lane_28 _).mono ?_; rintro e w1 ⟨rfl, rfl⟩) | (go_at_call 50; ((with_reducible refine (lanes32 _).mono ?_); rintro e w2 ⟨rfl, rfl⟩)) | (with_reducible refine load_vec rfl _ rfl _ rfl _ (heap_alloc2_old _ _ _) ?_) | (go_at_call 54; refine (set32z v i _ j x _ HJ.out rfl hlt).mono ?_; rintro e u ⟨rfl, hb⟩; have hr := blk_keep (heap_zz w 45 _) hb; have hZ := below_alloc2 w _ _ hb) | (with_reducible refine store_vec rfl _ _ rfl (w.heap.size + 1) _ rfl rfl 0 hr ?_; intro wq hq))
  exact bodyPost_ret (results_vec_tmp rfl _ _ (w.heap.size + 1) _ _ rfl rfl hq.this) rfl ⟨rfl, hZ.trans (hq.below.mono (by omega))⟩
set_option maxRecDepth 100000 in
theorem repl_30 (i : Int) (j : Nat) (v : Vec) (x : Nat) (w : World) (hj : i = j) (hlt : j < 2) :
    Calls Try.prog 26 #[.int .i64 64798, .int .i64 i, .agg (cells v), .int .u64 (x : Nat)] w fun e w' => e = .returned (.tuple #[.agg (cells (setN v 64 j x)), .int .i64 0]) ∧ Below w.heap.size w w' := by
  have h0 : decide (i < 0) = false := by simp; omega
  have h1 : decide (2 ≤ i) = false := by simp; omega
  have HJ := Lib.hid hj
  clear hj
  go_enter Try.func26, Try.ntmps26
  go_wp2_with (first | (go_at_call 61; refine (lane_30 _).mono ?_; rintro e w1 ⟨rfl, rfl⟩) | (go_at_call 50; ((with_reducible refine (lanes64 _).mono ?_); rintro e w2 ⟨rfl, rfl⟩)) | (with_reducible refine load_vec rfl _ rfl _ rfl _ (heap_alloc2_old _ _ _) ?_) | (go_at_call 54; refine (set64z v i _ j x _ HJ.out rfl hlt).mono ?_; rintro e u ⟨rfl, hb⟩; have hr := blk_keep (heap_zz w 45 _) hb; have hZ := below_alloc2 w _ _ hb) | (with_reducible refine store_vec rfl _ _ rfl (w.heap.size + 1) _ rfl rfl 0 hr ?_; intro wq hq))
  exact bodyPost_ret (results_vec_tmp rfl _ _ (w.heap.size + 1) _ _ rfl rfl hq.this) rfl ⟨rfl, hZ.trans (hq.below.mono (by omega))⟩
/-- Replace refuses. -/
theorem repl_no (op i : Int) (z : Int) (lb : Bool) (v : Vec) (x : Nat) (w : World) (HK : ∀ W, Calls Try.prog 61 #[.int .i64 op] W fun e w' => e = .returned (.tuple #[.int .i64 z, .bool lb]) ∧ w' = W) (h : z = 0 ∨ lb = false ∨ i < 0 ∨ lanesOf z ≤ i) :
    Calls Try.prog 26 #[.int .i64 op, .int .i64 i, .agg (cells v), .int .u64 (x : Nat)] w fun e w' => e = .returned (.tuple #[.agg (cells 0), .int .i64 1]) ∧ Below w.heap.size w w' := by
  have HL := Lib.hid HK
  clear HK
  have HLA := Lib.hid (fun W => lanes_any z W)
  obtain ⟨n, hn⟩ : ∃ n, n = lanesOf z := ⟨_, rfl⟩
  rw [← hn] at h HLA
  clear hn
  by_cases hz : z = 0
  · subst hz
    clear h
    go_enter Try.func26, Try.ntmps26
    go_wp2_with (go_at_call 61; refine (HL.out _).mono ?_; rintro e w1 ⟨rfl, rfl⟩)
    exact bodyPost_ret (results_vec_tmp rfl _ _ (w.heap.size + 1) _ _ rfl rfl (heap_zz w 45 _)) rfl ⟨rfl, below_alloc2' w _ _⟩
  · have q0 : (z == 0) = false := beq_eq_false_iff_ne.2 hz
    rcases lb with _ | _
    · clear h hz
      go_enter Try.func26, Try.ntmps26
      go_wp2_with (go_at_call 61; refine (HL.out _).mono ?_; rintro e w1 ⟨rfl, rfl⟩)
      exact bodyPost_ret (results_vec_tmp rfl _ _ (w.heap.size + 1) _ _ rfl rfl (heap_zz w 45 _)) rfl ⟨rfl, below_alloc2' w _ _⟩
    · by_cases h0 : i < 0
      · have q1 : decide (i < 0) = true := by simp [h0]
        clear h hz h0
        go_enter Try.func26, Try.ntmps26
        go_wp2_with (go_at_call 61; refine (HL.out _).mono ?_; rintro e w1 ⟨rfl, rfl⟩)
        exact bodyPost_ret (results_vec_tmp rfl _ _ (w.heap.size + 1) _ _ rfl rfl (heap_zz w 45 _)) rfl ⟨rfl, below_alloc2' w _ _⟩
      · have q1 : decide (i < 0) = false := by simp; omega
        have h4 : n ≤ i := by simp [hz, h0] at h; exact h
        have q2 : decide (n ≤ i) = true := by simp [h4]
        clear h hz h0 h4
        go_enter Try.func26, Try.ntmps26
        go_wp2_with (first | (go_at_call 61; refine (HL.out _).mono ?_; rintro e w1 ⟨rfl, rfl⟩) | (go_at_call 50; refine (HLA.out _).mono ?_; rintro e w2 ⟨rfl, rfl⟩))
        exact bodyPost_ret (results_vec_tmp rfl _ _ (w.heap.size + 1) _ _ rfl rfl (heap_zz w 45 _)) rfl ⟨rfl, below_alloc2' w _ _⟩
end Go.Proofs.Ytcpfabkokgiepaa
