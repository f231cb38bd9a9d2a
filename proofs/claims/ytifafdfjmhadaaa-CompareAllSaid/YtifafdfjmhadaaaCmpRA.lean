/-
  plaitref06.Cmp: its contract.
-/
import Derived.Test.YtifafdfjmhadaaaCmpR0
import Derived.Test.YtifafdfjmhadaaaCmpR1
import Derived.Test.YtifafdfjmhadaaaCmpR2
import Derived.Test.YtifafdfjmhadaaaCmpR3
set_option linter.unusedSimpArgs false
set_option linter.unusedVariables false
namespace Go.Proofs.Ytifafdfjmhadaaa
open Go.RowKit Pl

theorem store_zero {ops : Array Oper} {rest : List Oper} {o : Oper} {a : Act} {w : World} {Q : Exit → Act → World → Prop} (hgd : o.guard = none) (x y : Operand) (ho : o.op = .store 23 x y)
    (g : Nat) (hx : a.eval x = .pointer (some ⟨g, 0, none⟩)) (hy : a.eval y = .agg #[.int .u8 0, .int .u8 0, .int .u8 0, .int .u8 0, .int .u8 0, .int .u8 0, .int .u8 0, .int .u8 0, .int .u8 0, .int .u8 0, .int .u8 0, .int .u8 0, .int .u8 0, .int .u8 0, .int .u8 0, .int .u8 0]) (u : Vec) (hg : w.heap[g]? = some (.cells (cells u) 23 (0, 0)))
    (h : ∀ w', Sets w g 0 w' → wpList Try.prog ops Q rest (a.put o.dst undef) w') : wpList Try.prog ops Q (o :: rest) a w :=
  store_vec hgd x y ho g 0 hx (hy.trans (by rw [cells_zero])) u hg h

set_option maxRecDepth 100000 in
set_option maxHeartbeats 8000000 in
theorem rcmp_none (op κ : Int) (a b : Vec) (w : World) (hκ : IntKind.i64.wrap (op - 64768) = κ) (h : κ < 35 ∨ 65 ≤ κ ∧ κ < 214 ∨ 220 ≤ κ) :
    Calls Try.prog 12 #[.int .i64 op, .agg (cells a), .agg (cells b)] w fun e w' => e = .returned (.tuple #[.agg (cells 0), .int .i64 1]) ∧ Below w.heap.size w w' := by
  rcases h with h | ⟨h, h2⟩ | h
  · as_aux_lemma =>
    go_enter Try.func12, Try.ntmps12
    go_wp2_with fail
    rw [← cells_zero]
    obtain ⟨W0, hW⟩ : ∃ W0, W0 = ((w.alloc (.cells (cells a) 23)).alloc (.cells (cells b) 23)).alloc (.cells (cells 0) 23) := ⟨_, rfl⟩
    have hA0 : W0.heap[w.heap.size]? = some (.cells (cells a) 23 (0, 0)) := hW ▸ heap_alloc3_0 _ _ _ _
    have hB0 : W0.heap[w.heap.size + 1]? = some (.cells (cells b) 23 (0, 0)) := hW ▸ heap_alloc3_1 _ _ _ _
    have hR0 : W0.heap[w.heap.size + 2]? = some (.cells (cells 0) 23 (0, 0)) := hW ▸ heap_alloc3_2 _ _ _ _
    have hZ0 : Below w.heap.size w W0 := hW ▸ below_alloc3 _ _ _ _
    have hN : W0.heap.size = w.heap.size + 3 := by rw [hW]; simp
    rw [← hW]
    clear hW
    go_loopw [9, 10, 11] (fun wv nv ov wr => ∃ i : Nat, i ≤ 3 ∧ ov = .int .i64 i ∧ wv = .int .i64 0 ∧ nv = .int .i64 0 ∧ W0 = wr) (fun _ _ ov _ => 3 - (intOf ov).toNat)
    case atStart => exact ⟨0, by decide, rfl, rfl, rfl, rfl⟩
    case round =>
      obtain ⟨i, hi, rfl, rfl, rfl, rfl⟩ := hrel
      obtain rfl | rfl | rfl | rfl : i = 0 ∨ i = 1 ∨ i = 2 ∨ i = 3 := by omega
      · as_aux_lemma =>
        go_wp2_with fail
        go_roundw
        case rel => first | exact ⟨1, by decide, rfl, rfl, rfl, (by first | trivial | rfl)⟩ | ((repeat apply Exists.intro); exact ⟨⟨1, by decide, rfl, rfl, rfl, (by first | trivial | rfl)⟩, rfl⟩)
        case measure => (simp [intOf] <;> omega)
      · as_aux_lemma =>
        go_wp2_with fail
        go_roundw
        case rel => first | exact ⟨2, by decide, rfl, rfl, rfl, (by first | trivial | rfl)⟩ | ((repeat apply Exists.intro); exact ⟨⟨2, by decide, rfl, rfl, rfl, (by first | trivial | rfl)⟩, rfl⟩)
        case measure => (simp [intOf] <;> omega)
      · as_aux_lemma =>
        go_wp2_with fail
        go_roundw
        case rel => first | exact ⟨3, by decide, rfl, rfl, rfl, (by first | trivial | rfl)⟩ | ((repeat apply Exists.intro); exact ⟨⟨3, by decide, rfl, rfl, rfl, (by first | trivial | rfl)⟩, rfl⟩)
        case measure => (simp [intOf] <;> omega)
      · go_wp2_with (with_reducible refine store_zero rfl _ _ rfl (w.heap.size + 2) rfl rfl 0 hR0 ?_; intro wq hq)
        exact bodyPost_ret (results_vec_tmp rfl _ _ (w.heap.size + 2) _ _ rfl rfl hq.this) rfl ⟨rfl, hZ0.trans (hq.below.mono (by omega))⟩
  · as_aux_lemma =>
    go_enter Try.func12, Try.ntmps12
    go_wp2_with fail
    rw [← cells_zero]
    obtain ⟨W0, hW⟩ : ∃ W0, W0 = ((w.alloc (.cells (cells a) 23)).alloc (.cells (cells b) 23)).alloc (.cells (cells 0) 23) := ⟨_, rfl⟩
    have hA0 : W0.heap[w.heap.size]? = some (.cells (cells a) 23 (0, 0)) := hW ▸ heap_alloc3_0 _ _ _ _
    have hB0 : W0.heap[w.heap.size + 1]? = some (.cells (cells b) 23 (0, 0)) := hW ▸ heap_alloc3_1 _ _ _ _
    have hR0 : W0.heap[w.heap.size + 2]? = some (.cells (cells 0) 23 (0, 0)) := hW ▸ heap_alloc3_2 _ _ _ _
    have hZ0 : Below w.heap.size w W0 := hW ▸ below_alloc3 _ _ _ _
    have hN : W0.heap.size = w.heap.size + 3 := by rw [hW]; simp
    rw [← hW]
    clear hW
    go_loopw [9, 10, 11] (fun wv nv ov wr => ∃ i : Nat, i ≤ 3 ∧ ov = .int .i64 i ∧ wv = .int .i64 0 ∧ nv = .int .i64 0 ∧ W0 = wr) (fun _ _ ov _ => 3 - (intOf ov).toNat)
    case atStart => exact ⟨0, by decide, rfl, rfl, rfl, rfl⟩
    case round =>
      obtain ⟨i, hi, rfl, rfl, rfl, rfl⟩ := hrel
      obtain rfl | rfl | rfl | rfl : i = 0 ∨ i = 1 ∨ i = 2 ∨ i = 3 := by omega
      · as_aux_lemma =>
        go_wp2_with fail
        go_roundw
        case rel => first | exact ⟨1, by decide, rfl, rfl, rfl, (by first | trivial | rfl)⟩ | ((repeat apply Exists.intro); exact ⟨⟨1, by decide, rfl, rfl, rfl, (by first | trivial | rfl)⟩, rfl⟩)
        case measure => (simp [intOf] <;> omega)
      · as_aux_lemma =>
        go_wp2_with fail
        go_roundw
        case rel => first | exact ⟨2, by decide, rfl, rfl, rfl, (by first | trivial | rfl)⟩ | ((repeat apply Exists.intro); exact ⟨⟨2, by decide, rfl, rfl, rfl, (by first | trivial | rfl)⟩, rfl⟩)
        case measure => (simp [intOf] <;> omega)
      · as_aux_lemma =>
        go_wp2_with fail
        go_roundw
        case rel => first | exact ⟨3, by decide, rfl, rfl, rfl, (by first | trivial | rfl)⟩ | ((repeat apply Exists.intro); exact ⟨⟨3, by decide, rfl, rfl, rfl, (by first | trivial | rfl)⟩, rfl⟩)
        case measure => (simp [intOf] <;> omega)
      · go_wp2_with (with_reducible refine store_zero rfl _ _ rfl (w.heap.size + 2) rfl rfl 0 hR0 ?_; intro wq hq)
        exact bodyPost_ret (results_vec_tmp rfl _ _ (w.heap.size + 2) _ _ rfl rfl hq.this) rfl ⟨rfl, hZ0.trans (hq.below.mono (by omega))⟩
  · as_aux_lemma =>
    go_enter Try.func12, Try.ntmps12
    go_wp2_with fail
    rw [← cells_zero]
    obtain ⟨W0, hW⟩ : ∃ W0, W0 = ((w.alloc (.cells (cells a) 23)).alloc (.cells (cells b) 23)).alloc (.cells (cells 0) 23) := ⟨_, rfl⟩
    have hA0 : W0.heap[w.heap.size]? = some (.cells (cells a) 23 (0, 0)) := hW ▸ heap_alloc3_0 _ _ _ _
    have hB0 : W0.heap[w.heap.size + 1]? = some (.cells (cells b) 23 (0, 0)) := hW ▸ heap_alloc3_1 _ _ _ _
    have hR0 : W0.heap[w.heap.size + 2]? = some (.cells (cells 0) 23 (0, 0)) := hW ▸ heap_alloc3_2 _ _ _ _
    have hZ0 : Below w.heap.size w W0 := hW ▸ below_alloc3 _ _ _ _
    have hN : W0.heap.size = w.heap.size + 3 := by rw [hW]; simp
    rw [← hW]
    clear hW
    go_loopw [9, 10, 11] (fun wv nv ov wr => ∃ i : Nat, i ≤ 3 ∧ ov = .int .i64 i ∧ wv = .int .i64 0 ∧ nv = .int .i64 0 ∧ W0 = wr) (fun _ _ ov _ => 3 - (intOf ov).toNat)
    case atStart => exact ⟨0, by decide, rfl, rfl, rfl, rfl⟩
    case round =>
      obtain ⟨i, hi, rfl, rfl, rfl, rfl⟩ := hrel
      obtain rfl | rfl | rfl | rfl : i = 0 ∨ i = 1 ∨ i = 2 ∨ i = 3 := by omega
      · as_aux_lemma =>
        go_wp2_with fail
        go_roundw
        case rel => first | exact ⟨1, by decide, rfl, rfl, rfl, (by first | trivial | rfl)⟩ | ((repeat apply Exists.intro); exact ⟨⟨1, by decide, rfl, rfl, rfl, (by first | trivial | rfl)⟩, rfl⟩)
        case measure => (simp [intOf] <;> omega)
      · as_aux_lemma =>
        go_wp2_with fail
        go_roundw
        case rel => first | exact ⟨2, by decide, rfl, rfl, rfl, (by first | trivial | rfl)⟩ | ((repeat apply Exists.intro); exact ⟨⟨2, by decide, rfl, rfl, rfl, (by first | trivial | rfl)⟩, rfl⟩)
        case measure => (simp [intOf] <;> omega)
      · as_aux_lemma =>
        go_wp2_with fail
        go_roundw
        case rel => first | exact ⟨3, by decide, rfl, rfl, rfl, (by first | trivial | rfl)⟩ | ((repeat apply Exists.intro); exact ⟨⟨3, by decide, rfl, rfl, rfl, (by first | trivial | rfl)⟩, rfl⟩)
        case measure => (simp [intOf] <;> omega)
      · go_wp2_with (with_reducible refine store_zero rfl _ _ rfl (w.heap.size + 2) rfl rfl 0 hR0 ?_; intro wq hq)
        exact bodyPost_ret (results_vec_tmp rfl _ _ (w.heap.size + 2) _ _ rfl rfl hq.this) rfl ⟨rfl, hZ0.trans (hq.below.mono (by omega))⟩
theorem rcmp_any (op : Int) (a b : Vec) (w : World) (ho : -9223372036854775808 ≤ op ∧ op ≤ 9223372036854775807) :
    Calls Try.prog 12 #[.int .i64 op, .agg (cells a), .agg (cells b)] w fun e w' => e = .returned (.tuple #[.agg (cells (cmpV op a b).1), .int .i64 (cmpV op a b).2]) ∧ Below w.heap.size w w' := by
  unfold cmpV
  split
  · rename_i h
    obtain ⟨c, hc, rfl⟩ : ∃ c : Nat, c < 10 ∧ op = 64803 + (c : Int) := ⟨(op - 64803).toNat, by omega, by omega⟩
    rw [show (64803 : Int) + (c : Int) - 64803 = c by omega]
    exact rcmp_row0 c hc a b w
  split
  · rename_i h
    obtain ⟨c, hc, rfl⟩ : ∃ c : Nat, c < 10 ∧ op = 64813 + (c : Int) := ⟨(op - 64813).toNat, by omega, by omega⟩
    rw [show (64813 : Int) + (c : Int) - 64813 = c by omega]
    exact rcmp_row1 c hc a b w
  split
  · rename_i h
    obtain ⟨c, hc, rfl⟩ : ∃ c : Nat, c < 10 ∧ op = 64823 + (c : Int) := ⟨(op - 64823).toNat, by omega, by omega⟩
    rw [show (64823 : Int) + (c : Int) - 64823 = c by omega]
    exact rcmp_row2 c hc a b w
  split
  · rename_i h; subst h; exact rcmp_64_0 a b w
  split
  · rename_i h; subst h; exact rcmp_64_1 a b w
  split
  · rename_i h; subst h; exact rcmp_64_2 a b w
  split
  · rename_i h; subst h; exact rcmp_64_4 a b w
  split
  · rename_i h; subst h; exact rcmp_64_6 a b w
  split
  · rename_i h; subst h; exact rcmp_64_8 a b w
  · refine rcmp_none op _ a b w rfl ?_
    rw [IntKind.wrap_i64] at *
    try unfold wrap64
    omega
end Go.Proofs.Ytifafdfjmhadaaa
