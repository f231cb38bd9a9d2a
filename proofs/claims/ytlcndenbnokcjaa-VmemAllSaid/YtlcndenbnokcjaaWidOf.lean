/-
  pair.Of.
-/
import Derived.Test.YtlcndenbnokcjaaPair
import Derived.Test.YtlcndenbnokcjaaWideBin
set_option linter.unusedSimpArgs false
set_option linter.unusedVariables false
namespace Go.Proofs.Ytlcndenbnokcjaa
open Go.RowKit Pl


theorem of8 (xs : List Nat) (s c : Nat) (w : World) (b : Nat) (fr : Nat × Nat) (t : TypeId) (hl : xs.length ≤ 16) (h0 : 0 < xs.length) (hc : xs.length ≤ c) (hs : s = xs.length)
    (hb : w.heap[b]? = some (.cells (xs.map fun (x : Nat) => Value.int .u64 (x : Int)).toArray t fr)) :
    Calls Try.prog 30 #[.int .i64 8, .slice (some ⟨b, 0, none⟩) s c] w fun e w' => e = .returned (.agg (cells (buildOn 0 8 (fun i => xs.getD i 0) xs.length))) ∧ Below w.heap.size w w' := by
  subst hs
  have hl' : (xs.length : Int) ≤ 16 := by omega
  have h0' : (1 : Int) ≤ (xs.length : Int) := by omega
  have hc' : (xs.length : Int) ≤ (c : Int) := by omega
  go_enter Try.func30, Try.ntmps30
  go_wp2_with (first | (go_at_call 54; ((with_reducible refine (lanes8 _).mono ?_); rintro e w' ⟨rfl, rfl⟩)))
  rw [← cells_zero]
  obtain ⟨W, hW⟩ : ∃ W, W = (w.alloc (.cells (cells 0) 61)).alloc (.cells (cells 0) 61) := ⟨_, rfl⟩
  have hR : W.heap[w.heap.size]? = some (.cells (cells 0) 61 (0, 0)) := hW ▸ heap_alloc2_old _ _ _
  have hO : W.heap[w.heap.size + 1]? = some (.cells (cells 0) 61 (0, 0)) := hW ▸ heap_alloc2_new _ _ _
  have hZ : Below w.heap.size w W := hW ▸ ((Below.refl _ _).alloc (Nat.le_refl _) _).alloc (by simp) _
  rw [← hW]
  clear hW
  have hX : W.heap[b]? = some (.cells (xs.map fun (x : Nat) => Value.int .u64 (x : Int)).toArray t fr) := (hZ.block b (block_lt hb)).trans hb
  have hbl := block_lt hb
  go_loopw [16] (fun j wr => ∃ k : Nat, k ≤ xs.length ∧ j = .int .i64 k ∧ St W (w.heap.size + 1) (buildOn 0 8 (fun i => xs.getD i 0) k) wr) (fun j _ => xs.length - (intOf j).toNat)
  case atStart => exact ⟨0, Nat.zero_le _, rfl, St.start hO⟩
  case round =>
    obtain ⟨k, hk, rfl, hs⟩ := hrel
    by_cases hlt : k < xs.length
    · have hcell : wr.cell? ⟨b, k, none⟩ = some (.int .u64 ((xs.getD k 0 : Nat) : Int)) := by
        rw [cell_of_row wr b k _ _ _ (hs.kb.get hX (by omega))]
        simp [hlt]
      obtain ⟨x, hx⟩ : ∃ x, x = xs.getD k 0 := ⟨_, rfl⟩
      rw [← hx] at hcell
      have Hx := Lib.hid hx
      clear hx
      go_wp2_with (first | (with_reducible refine load_vec rfl _ rfl _ rfl _ hs.this ?_) | (go_at_call 31; refine (set8z _ _ _ k x _ rfl rfl (by omega)).mono ?_; rintro e u2 ⟨rfl, hb2⟩; have hq2 := hs.below hb2) | (with_reducible refine store_vec rfl _ _ rfl (w.heap.size + 1) _ rfl rfl _ hq2.this ?_; intro wz hz))
      go_roundw
      case rel => exact ⟨k + 1, by omega, by go_num, by have := hq2.sets hz; rw [Hx.out] at this; exact this⟩
      case measure => (simp [intOf] <;> omega)
    · obtain rfl : k = xs.length := by omega
      have hR' := hs.kb.get hR (by omega)
      go_wp2_with (first | (with_reducible refine load_vec rfl _ rfl _ rfl _ hs.this ?_) | (with_reducible refine store_vec rfl _ _ rfl w.heap.size _ rfl rfl _ hR' ?_; intro wq hq))
      exact bodyPost_ret (results_cell_row rfl _ _ w.heap.size _ _ _ _ rfl hq.this vunder rfl (vsize _)) rfl ⟨rfl, (hs.kb.to_below hZ (by omega)).trans (hq.below.mono (by omega))⟩


theorem of16 (xs : List Nat) (s c : Nat) (w : World) (b : Nat) (fr : Nat × Nat) (t : TypeId) (hl : xs.length ≤ 8) (h0 : 0 < xs.length) (hc : xs.length ≤ c) (hs : s = xs.length)
    (hb : w.heap[b]? = some (.cells (xs.map fun (x : Nat) => Value.int .u64 (x : Int)).toArray t fr)) :
    Calls Try.prog 30 #[.int .i64 16, .slice (some ⟨b, 0, none⟩) s c] w fun e w' => e = .returned (.agg (cells (buildOn 0 16 (fun i => xs.getD i 0) xs.length))) ∧ Below w.heap.size w w' := by
  subst hs
  have hl' : (xs.length : Int) ≤ 8 := by omega
  have h0' : (1 : Int) ≤ (xs.length : Int) := by omega
  have hc' : (xs.length : Int) ≤ (c : Int) := by omega
  go_enter Try.func30, Try.ntmps30
  go_wp2_with (first | (go_at_call 54; ((with_reducible refine (lanes16 _).mono ?_); rintro e w' ⟨rfl, rfl⟩)))
  rw [← cells_zero]
  obtain ⟨W, hW⟩ : ∃ W, W = (w.alloc (.cells (cells 0) 61)).alloc (.cells (cells 0) 61) := ⟨_, rfl⟩
  have hR : W.heap[w.heap.size]? = some (.cells (cells 0) 61 (0, 0)) := hW ▸ heap_alloc2_old _ _ _
  have hO : W.heap[w.heap.size + 1]? = some (.cells (cells 0) 61 (0, 0)) := hW ▸ heap_alloc2_new _ _ _
  have hZ : Below w.heap.size w W := hW ▸ ((Below.refl _ _).alloc (Nat.le_refl _) _).alloc (by simp) _
  rw [← hW]
  clear hW
  have hX : W.heap[b]? = some (.cells (xs.map fun (x : Nat) => Value.int .u64 (x : Int)).toArray t fr) := (hZ.block b (block_lt hb)).trans hb
  have hbl := block_lt hb
  go_loopw [16] (fun j wr => ∃ k : Nat, k ≤ xs.length ∧ j = .int .i64 k ∧ St W (w.heap.size + 1) (buildOn 0 16 (fun i => xs.getD i 0) k) wr) (fun j _ => xs.length - (intOf j).toNat)
  case atStart => exact ⟨0, Nat.zero_le _, rfl, St.start hO⟩
  case round =>
    obtain ⟨k, hk, rfl, hs⟩ := hrel
    by_cases hlt : k < xs.length
    · have hcell : wr.cell? ⟨b, k, none⟩ = some (.int .u64 ((xs.getD k 0 : Nat) : Int)) := by
        rw [cell_of_row wr b k _ _ _ (hs.kb.get hX (by omega))]
        simp [hlt]
      obtain ⟨x, hx⟩ : ∃ x, x = xs.getD k 0 := ⟨_, rfl⟩
      rw [← hx] at hcell
      have Hx := Lib.hid hx
      clear hx
      go_wp2_with (first | (with_reducible refine load_vec rfl _ rfl _ rfl _ hs.this ?_) | (go_at_call 31; refine (set16z _ _ _ k x _ rfl rfl (by omega)).mono ?_; rintro e u2 ⟨rfl, hb2⟩; have hq2 := hs.below hb2) | (with_reducible refine store_vec rfl _ _ rfl (w.heap.size + 1) _ rfl rfl _ hq2.this ?_; intro wz hz))
      go_roundw
      case rel => exact ⟨k + 1, by omega, by go_num, by have := hq2.sets hz; rw [Hx.out] at this; exact this⟩
      case measure => (simp [intOf] <;> omega)
    · obtain rfl : k = xs.length := by omega
      have hR' := hs.kb.get hR (by omega)
      go_wp2_with (first | (with_reducible refine load_vec rfl _ rfl _ rfl _ hs.this ?_) | (with_reducible refine store_vec rfl _ _ rfl w.heap.size _ rfl rfl _ hR' ?_; intro wq hq))
      exact bodyPost_ret (results_cell_row rfl _ _ w.heap.size _ _ _ _ rfl hq.this vunder rfl (vsize _)) rfl ⟨rfl, (hs.kb.to_below hZ (by omega)).trans (hq.below.mono (by omega))⟩


theorem of64 (xs : List Nat) (s c : Nat) (w : World) (b : Nat) (fr : Nat × Nat) (t : TypeId) (hl : xs.length ≤ 2) (h0 : 0 < xs.length) (hc : xs.length ≤ c) (hs : s = xs.length)
    (hb : w.heap[b]? = some (.cells (xs.map fun (x : Nat) => Value.int .u64 (x : Int)).toArray t fr)) :
    Calls Try.prog 30 #[.int .i64 64, .slice (some ⟨b, 0, none⟩) s c] w fun e w' => e = .returned (.agg (cells (buildOn 0 64 (fun i => xs.getD i 0) xs.length))) ∧ Below w.heap.size w w' := by
  subst hs
  have hl' : (xs.length : Int) ≤ 2 := by omega
  have h0' : (1 : Int) ≤ (xs.length : Int) := by omega
  have hc' : (xs.length : Int) ≤ (c : Int) := by omega
  go_enter Try.func30, Try.ntmps30
  go_wp2_with (first | (go_at_call 54; ((with_reducible refine (lanes64 _).mono ?_); rintro e w' ⟨rfl, rfl⟩)))
  rw [← cells_zero]
  obtain ⟨W, hW⟩ : ∃ W, W = (w.alloc (.cells (cells 0) 61)).alloc (.cells (cells 0) 61) := ⟨_, rfl⟩
  have hR : W.heap[w.heap.size]? = some (.cells (cells 0) 61 (0, 0)) := hW ▸ heap_alloc2_old _ _ _
  have hO : W.heap[w.heap.size + 1]? = some (.cells (cells 0) 61 (0, 0)) := hW ▸ heap_alloc2_new _ _ _
  have hZ : Below w.heap.size w W := hW ▸ ((Below.refl _ _).alloc (Nat.le_refl _) _).alloc (by simp) _
  rw [← hW]
  clear hW
  have hX : W.heap[b]? = some (.cells (xs.map fun (x : Nat) => Value.int .u64 (x : Int)).toArray t fr) := (hZ.block b (block_lt hb)).trans hb
  have hbl := block_lt hb
  go_loopw [16] (fun j wr => ∃ k : Nat, k ≤ xs.length ∧ j = .int .i64 k ∧ St W (w.heap.size + 1) (buildOn 0 64 (fun i => xs.getD i 0) k) wr) (fun j _ => xs.length - (intOf j).toNat)
  case atStart => exact ⟨0, Nat.zero_le _, rfl, St.start hO⟩
  case round =>
    obtain ⟨k, hk, rfl, hs⟩ := hrel
    by_cases hlt : k < xs.length
    · have hcell : wr.cell? ⟨b, k, none⟩ = some (.int .u64 ((xs.getD k 0 : Nat) : Int)) := by
        rw [cell_of_row wr b k _ _ _ (hs.kb.get hX (by omega))]
        simp [hlt]
      obtain ⟨x, hx⟩ : ∃ x, x = xs.getD k 0 := ⟨_, rfl⟩
      rw [← hx] at hcell
      have Hx := Lib.hid hx
      clear hx
      go_wp2_with (first | (with_reducible refine load_vec rfl _ rfl _ rfl _ hs.this ?_) | (go_at_call 31; refine (set64z _ _ _ k x _ rfl rfl (by omega)).mono ?_; rintro e u2 ⟨rfl, hb2⟩; have hq2 := hs.below hb2) | (with_reducible refine store_vec rfl _ _ rfl (w.heap.size + 1) _ rfl rfl _ hq2.this ?_; intro wz hz))
      go_roundw
      case rel => exact ⟨k + 1, by omega, by go_num, by have := hq2.sets hz; rw [Hx.out] at this; exact this⟩
      case measure => (simp [intOf] <;> omega)
    · obtain rfl : k = xs.length := by omega
      have hR' := hs.kb.get hR (by omega)
      go_wp2_with (first | (with_reducible refine load_vec rfl _ rfl _ rfl _ hs.this ?_) | (with_reducible refine store_vec rfl _ _ rfl w.heap.size _ rfl rfl _ hR' ?_; intro wq hq))
      exact bodyPost_ret (results_cell_row rfl _ _ w.heap.size _ _ _ _ rfl hq.this vunder rfl (vsize _)) rfl ⟨rfl, (hs.kb.to_below hZ (by omega)).trans (hq.below.mono (by omega))⟩

end Go.Proofs.Ytlcndenbnokcjaa
