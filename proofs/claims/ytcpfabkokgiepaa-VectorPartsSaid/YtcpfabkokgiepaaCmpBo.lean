/-
  compare.Bits on a slice that came in (at any offset), and where it refuses.
-/
import Derived.Test.YtcpfabkokgiepaaCmpB
set_option linter.unusedSimpArgs false
set_option linter.unusedVariables false
namespace Go.Proofs.Ytcpfabkokgiepaa
open Go.RowKit Pl

set_option maxRecDepth 100000 in
set_option maxHeartbeats 2000000 in
theorem bits_77o (a b c : Vec) (w : World) (B cap off : Nat) (hlt : B < w.heap.size) (hA : w.rangeAt B off (cells a).toList) (hB : w.rangeAt B off (cells b).toList) (hC : w.rangeAt B off (cells c).toList) :
    Calls Try.prog 19 #[.int .i64 64845, .slice (some ⟨B, off, none⟩) 1 cap] w fun e w' => e = .returned (.tuple #[.agg (cells (bitV 77 a b c)), .int .i64 0]) ∧ Below w.heap.size w w' := by
  have HA := Lib.hid hA
  have HB := Lib.hid hB
  have HC := Lib.hid hC
  clear hA hB hC
  have e0 : IntKind.i64.wrap 0 = 0 := IntWalk.i64_in _ (by decide)
  have e1 : IntKind.i64.wrap 1 = 1 := IntWalk.i64_in _ (by decide)
  have e2 : IntKind.i64.wrap 2 = 2 := IntWalk.i64_in _ (by decide)
  have hz : ∀ x, Below w.heap.size w (w.alloc x) := fun x => (Below.refl _ _).alloc (Nat.le_refl _) x
  go_enter Try.func19, Try.ntmps19
  go_wp2_with (first | (with_reducible refine load_at rfl _ rfl _ _ rfl _ (rangeAt_below HA.out hlt (hz _)) ?_) | (with_reducible refine store_vec rfl _ _ rfl (w.heap.size + 1) _ rfl rfl 0 (heap_zz w _ _) ?_; intro w1 g1))
  have z1 : Below w.heap.size w w1 := (((Below.refl w.heap.size w).alloc (Nat.le_refl _) _).alloc (by simp) _).trans (g1.below.mono (by omega))
  have hN : N2 w [(w.heap.size + 1, a), (w.heap.size, 0)] b (none, none, false) w1 := N2.start b z1 (by
    simp only [List.mem_cons, List.not_mem_nil, or_false, forall_eq_or_imp, forall_eq]
    exact ⟨g1.this, blk_sets (by rw [heap_alloc2_old, ← cells_zero]) g1 (by omega)⟩)
  clear g1 z1
  refine region_new2 w [(w.heap.size + 1, a), (w.heap.size, 0)] b 13 10 11 12 [0, 1, 2, 3, 4, 5, 6, 7, 8, 9] (by kernel_rfl) rfl rfl rfl rfl rfl rfl rfl rfl _ _ rfl (by decide) hN.drew ?_
  simp only [opsAt, List.getElem?_cons_zero, List.getElem?_cons_succ, List.drop_succ_cons, List.drop_zero]
  repeat (refine wpDA_pure (v := ?_) rfl (fun u => ?_) ?_; rotate_left; (focus (go_simp; (try with_reducible rfl); done)); simp only [Act.put, List.setIfInBounds_toArray, List.set_cons_zero, List.set_cons_succ])
  (refine do_loadM rfl _ rfl _ _ rfl _ (fun D u hS => rangeAt_below HB.out hlt hS.bel) ?_; simp only [Act.put, List.setIfInBounds_toArray, List.set_cons_zero, List.set_cons_succ])
  repeat (refine wpDA_pure (v := ?_) rfl (fun u => ?_) ?_; rotate_left; (focus (go_simp; (try with_reducible rfl); done)); simp only [Act.put, List.setIfInBounds_toArray, List.set_cons_zero, List.set_cons_succ])
  (refine do_loadM rfl _ rfl _ _ rfl _ (fun D u hS => rangeAt_below HC.out hlt hS.bel) ?_; simp only [Act.put, List.setIfInBounds_toArray, List.set_cons_zero, List.set_cons_succ])
  repeat (refine wpDA_pure (v := ?_) rfl (fun u => ?_) ?_; rotate_left; (focus (go_simp; (try with_reducible rfl); done)); simp only [Act.put, List.setIfInBounds_toArray, List.set_cons_zero, List.set_cons_succ])
  refine wpDA_nil (fun x y => ⟨rfl, rfl, fun wx hx => ?_⟩)
  clear hN
  obtain ⟨hb1, hb2, hb3⟩ := hx.nb x rfl
  obtain ⟨hc1, hc2, hc3⟩ := hx.nc y rfl
  have hbc := hx.ne x y rfl rfl
  have hA1 := hx.hold (w.heap.size + 1, a) (by simp)
  have hR1 := hx.hold (w.heap.size, 0) (by simp)
  have hZ := hx.bel
  have na := hb3 (w.heap.size + 1, a) (by simp)
  have ma := hc3 (w.heap.size + 1, a) (by simp)
  have nr := hb3 (w.heap.size, 0) (by simp)
  have mr := hc3 (w.heap.size, 0) (by simp)
  clear hx hb3 hc3
  unfold ptr
  simp only [Act.put, List.setIfInBounds_toArray, List.set_cons_zero, List.set_cons_succ]
  go_wp2_with (first | (with_reducible refine store_vec rfl _ _ rfl y _ rfl rfl 0 hc1 ?_; intro w2 g2) | (with_reducible refine load_vec rfl _ rfl _ rfl _ (blk_sets hA1 g2 ma) ?_))
  have kA := blk_sets hA1 g2 ma
  have kR := blk_sets hR1 g2 mr
  have kB := blk_sets hb1 g2 hbc
  have kC := g2.this
  have kZ := hZ.trans (g2.below.mono hc2)
  clear g2 hc1 hb1 hA1 hR1 hZ mr hbc hc2 hb2 hz
  obtain ⟨W, hW⟩ : ∃ W, W = w2 := ⟨_, rfl⟩
  rw [← hW] at kA kR kB kC kZ ⊢
  clear hW w2
  simp only [cond_true] at kB
  go_loopw [48] (fun j wr => ∃ i : Nat, i ≤ 16 ∧ j = .int .i64 i ∧ St W (w.heap.size + 1) (buildOn a 8 (bitF 77 a b c) i) wr) (fun j _ => 16 - (intOf j).toNat)
  case atStart => exact ⟨0, Nat.zero_le _, rfl, St.start kA⟩
  case round =>
    obtain ⟨i, hi, rfl, hs⟩ := hrel
    by_cases hli : i < 16
    · have cB : wr.cell? ⟨x, i, none⟩ = some (.int .u8 ((getN b 8 i : Nat) : Int)) := by
        have := hs.kb.get kB (by omega)
        rw [cell_of_row wr x i _ _ _ this, getElem?_cells _ _ (by omega)]; rfl
      have cC : wr.cell? ⟨y, i, none⟩ = some (.int .u8 ((getN c 8 i : Nat) : Int)) := by
        have := hs.kb.get kC (by omega)
        rw [cell_of_row wr y i _ _ _ this, getElem?_cells _ _ (by omega)]; rfl
      have cI := index_vec a i hli
      go_wp2_with (refine store_byte rfl _ _ rfl (w.heap.size + 1) i _ (bitF 77 a b c i) rfl rfl _ hs.this hli (zb_77 a b c i hli) ?_; intro wy hy)
      go_roundw
      case rel => first | exact ⟨i + 1, by omega, by go_num, hs.sets hy⟩ | ((repeat apply Exists.intro); exact ⟨⟨i + 1, by omega, by go_num, hs.sets hy⟩, rfl⟩)
      case measure => (simp [intOf] <;> omega)
    · obtain rfl : i = 16 := by omega
      have hR' := hs.kb.get kR (by omega)
      go_wp2_with (first | (with_reducible refine load_vec rfl _ rfl _ rfl _ hs.this ?_) | (with_reducible refine store_vec rfl _ _ rfl w.heap.size _ rfl rfl _ hR' ?_; intro wq hq))
      refine bodyPost_ret (results_vec_tmp rfl _ _ w.heap.size _ _ rfl rfl hq.this) rfl ⟨?_, (hs.kb.to_below kZ (by omega)).trans (hq.below.mono (by omega))⟩
      rw [bit_all]; rfl


set_option maxRecDepth 100000 in
set_option maxHeartbeats 2000000 in
theorem bits_78o (a b c : Vec) (w : World) (B cap off : Nat) (hlt : B < w.heap.size) (hA : w.rangeAt B off (cells a).toList) (hB : w.rangeAt B (off + 16) (cells b).toList) (hC : w.rangeAt B (off + 16) (cells c).toList) :
    Calls Try.prog 19 #[.int .i64 64846, .slice (some ⟨B, off, none⟩) 2 cap] w fun e w' => e = .returned (.tuple #[.agg (cells (bitV 78 a b c)), .int .i64 0]) ∧ Below w.heap.size w w' := by
  have HA := Lib.hid hA
  have HB := Lib.hid hB
  have HC := Lib.hid hC
  clear hA hB hC
  have e0 : IntKind.i64.wrap 0 = 0 := IntWalk.i64_in _ (by decide)
  have e1 : IntKind.i64.wrap 1 = 1 := IntWalk.i64_in _ (by decide)
  have e2 : IntKind.i64.wrap 2 = 2 := IntWalk.i64_in _ (by decide)
  have hz : ∀ x, Below w.heap.size w (w.alloc x) := fun x => (Below.refl _ _).alloc (Nat.le_refl _) x
  go_enter Try.func19, Try.ntmps19
  go_wp2_with (first | (with_reducible refine load_at rfl _ rfl _ _ rfl _ (rangeAt_below HA.out hlt (hz _)) ?_) | (with_reducible refine store_vec rfl _ _ rfl (w.heap.size + 1) _ rfl rfl 0 (heap_zz w _ _) ?_; intro w1 g1))
  have z1 : Below w.heap.size w w1 := (((Below.refl w.heap.size w).alloc (Nat.le_refl _) _).alloc (by simp) _).trans (g1.below.mono (by omega))
  have hN : N2 w [(w.heap.size + 1, a), (w.heap.size, 0)] b (none, none, false) w1 := N2.start b z1 (by
    simp only [List.mem_cons, List.not_mem_nil, or_false, forall_eq_or_imp, forall_eq]
    exact ⟨g1.this, blk_sets (by rw [heap_alloc2_old, ← cells_zero]) g1 (by omega)⟩)
  clear g1 z1
  refine region_new2 w [(w.heap.size + 1, a), (w.heap.size, 0)] b 13 10 11 12 [0, 1, 2, 3, 4, 5, 6, 7, 8, 9] (by kernel_rfl) rfl rfl rfl rfl rfl rfl rfl rfl _ _ rfl (by decide) hN.drew ?_
  simp only [opsAt, List.getElem?_cons_zero, List.getElem?_cons_succ, List.drop_succ_cons, List.drop_zero]
  repeat (refine wpDA_pure (v := ?_) rfl (fun u => ?_) ?_; rotate_left; (focus (go_simp; (try with_reducible rfl); done)); simp only [Act.put, List.setIfInBounds_toArray, List.set_cons_zero, List.set_cons_succ])
  (refine do_loadM rfl _ rfl _ _ rfl _ (fun D u hS => rangeAt_below HB.out hlt hS.bel) ?_; simp only [Act.put, List.setIfInBounds_toArray, List.set_cons_zero, List.set_cons_succ])
  repeat (refine wpDA_pure (v := ?_) rfl (fun u => ?_) ?_; rotate_left; (focus (go_simp; (try with_reducible rfl); done)); simp only [Act.put, List.setIfInBounds_toArray, List.set_cons_zero, List.set_cons_succ])
  (refine do_loadM rfl _ rfl _ _ rfl _ (fun D u hS => rangeAt_below HC.out hlt hS.bel) ?_; simp only [Act.put, List.setIfInBounds_toArray, List.set_cons_zero, List.set_cons_succ])
  repeat (refine wpDA_pure (v := ?_) rfl (fun u => ?_) ?_; rotate_left; (focus (go_simp; (try with_reducible rfl); done)); simp only [Act.put, List.setIfInBounds_toArray, List.set_cons_zero, List.set_cons_succ])
  refine wpDA_nil (fun x y => ⟨rfl, rfl, fun wx hx => ?_⟩)
  clear hN
  obtain ⟨hb1, hb2, hb3⟩ := hx.nb x rfl
  obtain ⟨hc1, hc2, hc3⟩ := hx.nc y rfl
  have hbc := hx.ne x y rfl rfl
  have hA1 := hx.hold (w.heap.size + 1, a) (by simp)
  have hR1 := hx.hold (w.heap.size, 0) (by simp)
  have hZ := hx.bel
  have na := hb3 (w.heap.size + 1, a) (by simp)
  have ma := hc3 (w.heap.size + 1, a) (by simp)
  have nr := hb3 (w.heap.size, 0) (by simp)
  have mr := hc3 (w.heap.size, 0) (by simp)
  clear hx hb3 hc3
  unfold ptr
  simp only [Act.put, List.setIfInBounds_toArray, List.set_cons_zero, List.set_cons_succ]
  go_wp2_with (first | (with_reducible refine store_vec rfl _ _ rfl y _ rfl rfl 0 hc1 ?_; intro w2 g2) | (with_reducible refine load_vec rfl _ rfl _ rfl _ (blk_sets hA1 g2 ma) ?_))
  have kA := blk_sets hA1 g2 ma
  have kR := blk_sets hR1 g2 mr
  have kB := blk_sets hb1 g2 hbc
  have kC := g2.this
  have kZ := hZ.trans (g2.below.mono hc2)
  clear g2 hc1 hb1 hA1 hR1 hZ mr hbc hc2 hb2 hz
  obtain ⟨W, hW⟩ : ∃ W, W = w2 := ⟨_, rfl⟩
  rw [← hW] at kA kR kB kC kZ ⊢
  clear hW w2
  simp only [cond_true] at kB
  go_loopw [48] (fun j wr => ∃ i : Nat, i ≤ 16 ∧ j = .int .i64 i ∧ St W (w.heap.size + 1) (buildOn a 8 (bitF 78 a b c) i) wr) (fun j _ => 16 - (intOf j).toNat)
  case atStart => exact ⟨0, Nat.zero_le _, rfl, St.start kA⟩
  case round =>
    obtain ⟨i, hi, rfl, hs⟩ := hrel
    by_cases hli : i < 16
    · have cB : wr.cell? ⟨x, i, none⟩ = some (.int .u8 ((getN b 8 i : Nat) : Int)) := by
        have := hs.kb.get kB (by omega)
        rw [cell_of_row wr x i _ _ _ this, getElem?_cells _ _ (by omega)]; rfl
      have cC : wr.cell? ⟨y, i, none⟩ = some (.int .u8 ((getN c 8 i : Nat) : Int)) := by
        have := hs.kb.get kC (by omega)
        rw [cell_of_row wr y i _ _ _ this, getElem?_cells _ _ (by omega)]; rfl
      have cI := index_vec a i hli
      go_wp2_with (refine store_byte rfl _ _ rfl (w.heap.size + 1) i _ (bitF 78 a b c i) rfl rfl _ hs.this hli (zb_78 a b c i hli) ?_; intro wy hy)
      go_roundw
      case rel => first | exact ⟨i + 1, by omega, by go_num, hs.sets hy⟩ | ((repeat apply Exists.intro); exact ⟨⟨i + 1, by omega, by go_num, hs.sets hy⟩, rfl⟩)
      case measure => (simp [intOf] <;> omega)
    · obtain rfl : i = 16 := by omega
      have hR' := hs.kb.get kR (by omega)
      go_wp2_with (first | (with_reducible refine load_vec rfl _ rfl _ rfl _ hs.this ?_) | (with_reducible refine store_vec rfl _ _ rfl w.heap.size _ rfl rfl _ hR' ?_; intro wq hq))
      refine bodyPost_ret (results_vec_tmp rfl _ _ w.heap.size _ _ rfl rfl hq.this) rfl ⟨?_, (hs.kb.to_below kZ (by omega)).trans (hq.below.mono (by omega))⟩
      rw [bit_all]; rfl


set_option maxRecDepth 100000 in
set_option maxHeartbeats 2000000 in
theorem bits_79o (a b c : Vec) (w : World) (B cap off : Nat) (hlt : B < w.heap.size) (hA : w.rangeAt B off (cells a).toList) (hB : w.rangeAt B (off + 16) (cells b).toList) (hC : w.rangeAt B (off + 16) (cells c).toList) :
    Calls Try.prog 19 #[.int .i64 64847, .slice (some ⟨B, off, none⟩) 2 cap] w fun e w' => e = .returned (.tuple #[.agg (cells (bitV 79 a b c)), .int .i64 0]) ∧ Below w.heap.size w w' := by
  have HA := Lib.hid hA
  have HB := Lib.hid hB
  have HC := Lib.hid hC
  clear hA hB hC
  have e0 : IntKind.i64.wrap 0 = 0 := IntWalk.i64_in _ (by decide)
  have e1 : IntKind.i64.wrap 1 = 1 := IntWalk.i64_in _ (by decide)
  have e2 : IntKind.i64.wrap 2 = 2 := IntWalk.i64_in _ (by decide)
  have hz : ∀ x, Below w.heap.size w (w.alloc x) := fun x => (Below.refl _ _).alloc (Nat.le_refl _) x
  go_enter Try.func19, Try.ntmps19
  go_wp2_with (first | (with_reducible refine load_at rfl _ rfl _ _ rfl _ (rangeAt_below HA.out hlt (hz _)) ?_) | (with_reducible refine store_vec rfl _ _ rfl (w.heap.size + 1) _ rfl rfl 0 (heap_zz w _ _) ?_; intro w1 g1))
  have z1 : Below w.heap.size w w1 := (((Below.refl w.heap.size w).alloc (Nat.le_refl _) _).alloc (by simp) _).trans (g1.below.mono (by omega))
  have hN : N2 w [(w.heap.size + 1, a), (w.heap.size, 0)] b (none, none, false) w1 := N2.start b z1 (by
    simp only [List.mem_cons, List.not_mem_nil, or_false, forall_eq_or_imp, forall_eq]
    exact ⟨g1.this, blk_sets (by rw [heap_alloc2_old, ← cells_zero]) g1 (by omega)⟩)
  clear g1 z1
  refine region_new2 w [(w.heap.size + 1, a), (w.heap.size, 0)] b 13 10 11 12 [0, 1, 2, 3, 4, 5, 6, 7, 8, 9] (by kernel_rfl) rfl rfl rfl rfl rfl rfl rfl rfl _ _ rfl (by decide) hN.drew ?_
  simp only [opsAt, List.getElem?_cons_zero, List.getElem?_cons_succ, List.drop_succ_cons, List.drop_zero]
  repeat (refine wpDA_pure (v := ?_) rfl (fun u => ?_) ?_; rotate_left; (focus (go_simp; (try with_reducible rfl); done)); simp only [Act.put, List.setIfInBounds_toArray, List.set_cons_zero, List.set_cons_succ])
  (refine do_loadM rfl _ rfl _ _ rfl _ (fun D u hS => rangeAt_below HB.out hlt hS.bel) ?_; simp only [Act.put, List.setIfInBounds_toArray, List.set_cons_zero, List.set_cons_succ])
  repeat (refine wpDA_pure (v := ?_) rfl (fun u => ?_) ?_; rotate_left; (focus (go_simp; (try with_reducible rfl); done)); simp only [Act.put, List.setIfInBounds_toArray, List.set_cons_zero, List.set_cons_succ])
  (refine do_loadM rfl _ rfl _ _ rfl _ (fun D u hS => rangeAt_below HC.out hlt hS.bel) ?_; simp only [Act.put, List.setIfInBounds_toArray, List.set_cons_zero, List.set_cons_succ])
  repeat (refine wpDA_pure (v := ?_) rfl (fun u => ?_) ?_; rotate_left; (focus (go_simp; (try with_reducible rfl); done)); simp only [Act.put, List.setIfInBounds_toArray, List.set_cons_zero, List.set_cons_succ])
  refine wpDA_nil (fun x y => ⟨rfl, rfl, fun wx hx => ?_⟩)
  clear hN
  obtain ⟨hb1, hb2, hb3⟩ := hx.nb x rfl
  obtain ⟨hc1, hc2, hc3⟩ := hx.nc y rfl
  have hbc := hx.ne x y rfl rfl
  have hA1 := hx.hold (w.heap.size + 1, a) (by simp)
  have hR1 := hx.hold (w.heap.size, 0) (by simp)
  have hZ := hx.bel
  have na := hb3 (w.heap.size + 1, a) (by simp)
  have ma := hc3 (w.heap.size + 1, a) (by simp)
  have nr := hb3 (w.heap.size, 0) (by simp)
  have mr := hc3 (w.heap.size, 0) (by simp)
  clear hx hb3 hc3
  unfold ptr
  simp only [Act.put, List.setIfInBounds_toArray, List.set_cons_zero, List.set_cons_succ]
  go_wp2_with (first | (with_reducible refine store_vec rfl _ _ rfl y _ rfl rfl 0 hc1 ?_; intro w2 g2) | (with_reducible refine load_vec rfl _ rfl _ rfl _ (blk_sets hA1 g2 ma) ?_))
  have kA := blk_sets hA1 g2 ma
  have kR := blk_sets hR1 g2 mr
  have kB := blk_sets hb1 g2 hbc
  have kC := g2.this
  have kZ := hZ.trans (g2.below.mono hc2)
  clear g2 hc1 hb1 hA1 hR1 hZ mr hbc hc2 hb2 hz
  obtain ⟨W, hW⟩ : ∃ W, W = w2 := ⟨_, rfl⟩
  rw [← hW] at kA kR kB kC kZ ⊢
  clear hW w2
  simp only [cond_true] at kB
  go_loopw [48] (fun j wr => ∃ i : Nat, i ≤ 16 ∧ j = .int .i64 i ∧ St W (w.heap.size + 1) (buildOn a 8 (bitF 79 a b c) i) wr) (fun j _ => 16 - (intOf j).toNat)
  case atStart => exact ⟨0, Nat.zero_le _, rfl, St.start kA⟩
  case round =>
    obtain ⟨i, hi, rfl, hs⟩ := hrel
    by_cases hli : i < 16
    · have cB : wr.cell? ⟨x, i, none⟩ = some (.int .u8 ((getN b 8 i : Nat) : Int)) := by
        have := hs.kb.get kB (by omega)
        rw [cell_of_row wr x i _ _ _ this, getElem?_cells _ _ (by omega)]; rfl
      have cC : wr.cell? ⟨y, i, none⟩ = some (.int .u8 ((getN c 8 i : Nat) : Int)) := by
        have := hs.kb.get kC (by omega)
        rw [cell_of_row wr y i _ _ _ this, getElem?_cells _ _ (by omega)]; rfl
      have cI := index_vec a i hli
      go_wp2_with (refine store_byte rfl _ _ rfl (w.heap.size + 1) i _ (bitF 79 a b c i) rfl rfl _ hs.this hli (zb_79 a b c i hli) ?_; intro wy hy)
      go_roundw
      case rel => first | exact ⟨i + 1, by omega, by go_num, hs.sets hy⟩ | ((repeat apply Exists.intro); exact ⟨⟨i + 1, by omega, by go_num, hs.sets hy⟩, rfl⟩)
      case measure => (simp [intOf] <;> omega)
    · obtain rfl : i = 16 := by omega
      have hR' := hs.kb.get kR (by omega)
      go_wp2_with (first | (with_reducible refine load_vec rfl _ rfl _ rfl _ hs.this ?_) | (with_reducible refine store_vec rfl _ _ rfl w.heap.size _ rfl rfl _ hR' ?_; intro wq hq))
      refine bodyPost_ret (results_vec_tmp rfl _ _ w.heap.size _ _ rfl rfl hq.this) rfl ⟨?_, (hs.kb.to_below kZ (by omega)).trans (hq.below.mono (by omega))⟩
      rw [bit_all]; rfl


set_option maxRecDepth 100000 in
set_option maxHeartbeats 2000000 in
theorem bits_80o (a b c : Vec) (w : World) (B cap off : Nat) (hlt : B < w.heap.size) (hA : w.rangeAt B off (cells a).toList) (hB : w.rangeAt B (off + 16) (cells b).toList) (hC : w.rangeAt B (off + 16) (cells c).toList) :
    Calls Try.prog 19 #[.int .i64 64848, .slice (some ⟨B, off, none⟩) 2 cap] w fun e w' => e = .returned (.tuple #[.agg (cells (bitV 80 a b c)), .int .i64 0]) ∧ Below w.heap.size w w' := by
  have HA := Lib.hid hA
  have HB := Lib.hid hB
  have HC := Lib.hid hC
  clear hA hB hC
  have e0 : IntKind.i64.wrap 0 = 0 := IntWalk.i64_in _ (by decide)
  have e1 : IntKind.i64.wrap 1 = 1 := IntWalk.i64_in _ (by decide)
  have e2 : IntKind.i64.wrap 2 = 2 := IntWalk.i64_in _ (by decide)
  have hz : ∀ x, Below w.heap.size w (w.alloc x) := fun x => (Below.refl _ _).alloc (Nat.le_refl _) x
  go_enter Try.func19, Try.ntmps19
  go_wp2_with (first | (with_reducible refine load_at rfl _ rfl _ _ rfl _ (rangeAt_below HA.out hlt (hz _)) ?_) | (with_reducible refine store_vec rfl _ _ rfl (w.heap.size + 1) _ rfl rfl 0 (heap_zz w _ _) ?_; intro w1 g1))
  have z1 : Below w.heap.size w w1 := (((Below.refl w.heap.size w).alloc (Nat.le_refl _) _).alloc (by simp) _).trans (g1.below.mono (by omega))
  have hN : N2 w [(w.heap.size + 1, a), (w.heap.size, 0)] b (none, none, false) w1 := N2.start b z1 (by
    simp only [List.mem_cons, List.not_mem_nil, or_false, forall_eq_or_imp, forall_eq]
    exact ⟨g1.this, blk_sets (by rw [heap_alloc2_old, ← cells_zero]) g1 (by omega)⟩)
  clear g1 z1
  refine region_new2 w [(w.heap.size + 1, a), (w.heap.size, 0)] b 13 10 11 12 [0, 1, 2, 3, 4, 5, 6, 7, 8, 9] (by kernel_rfl) rfl rfl rfl rfl rfl rfl rfl rfl _ _ rfl (by decide) hN.drew ?_
  simp only [opsAt, List.getElem?_cons_zero, List.getElem?_cons_succ, List.drop_succ_cons, List.drop_zero]
  repeat (refine wpDA_pure (v := ?_) rfl (fun u => ?_) ?_; rotate_left; (focus (go_simp; (try with_reducible rfl); done)); simp only [Act.put, List.setIfInBounds_toArray, List.set_cons_zero, List.set_cons_succ])
  (refine do_loadM rfl _ rfl _ _ rfl _ (fun D u hS => rangeAt_below HB.out hlt hS.bel) ?_; simp only [Act.put, List.setIfInBounds_toArray, List.set_cons_zero, List.set_cons_succ])
  repeat (refine wpDA_pure (v := ?_) rfl (fun u => ?_) ?_; rotate_left; (focus (go_simp; (try with_reducible rfl); done)); simp only [Act.put, List.setIfInBounds_toArray, List.set_cons_zero, List.set_cons_succ])
  (refine do_loadM rfl _ rfl _ _ rfl _ (fun D u hS => rangeAt_below HC.out hlt hS.bel) ?_; simp only [Act.put, List.setIfInBounds_toArray, List.set_cons_zero, List.set_cons_succ])
  repeat (refine wpDA_pure (v := ?_) rfl (fun u => ?_) ?_; rotate_left; (focus (go_simp; (try with_reducible rfl); done)); simp only [Act.put, List.setIfInBounds_toArray, List.set_cons_zero, List.set_cons_succ])
  refine wpDA_nil (fun x y => ⟨rfl, rfl, fun wx hx => ?_⟩)
  clear hN
  obtain ⟨hb1, hb2, hb3⟩ := hx.nb x rfl
  obtain ⟨hc1, hc2, hc3⟩ := hx.nc y rfl
  have hbc := hx.ne x y rfl rfl
  have hA1 := hx.hold (w.heap.size + 1, a) (by simp)
  have hR1 := hx.hold (w.heap.size, 0) (by simp)
  have hZ := hx.bel
  have na := hb3 (w.heap.size + 1, a) (by simp)
  have ma := hc3 (w.heap.size + 1, a) (by simp)
  have nr := hb3 (w.heap.size, 0) (by simp)
  have mr := hc3 (w.heap.size, 0) (by simp)
  clear hx hb3 hc3
  unfold ptr
  simp only [Act.put, List.setIfInBounds_toArray, List.set_cons_zero, List.set_cons_succ]
  go_wp2_with (first | (with_reducible refine store_vec rfl _ _ rfl y _ rfl rfl 0 hc1 ?_; intro w2 g2) | (with_reducible refine load_vec rfl _ rfl _ rfl _ (blk_sets hA1 g2 ma) ?_))
  have kA := blk_sets hA1 g2 ma
  have kR := blk_sets hR1 g2 mr
  have kB := blk_sets hb1 g2 hbc
  have kC := g2.this
  have kZ := hZ.trans (g2.below.mono hc2)
  clear g2 hc1 hb1 hA1 hR1 hZ mr hbc hc2 hb2 hz
  obtain ⟨W, hW⟩ : ∃ W, W = w2 := ⟨_, rfl⟩
  rw [← hW] at kA kR kB kC kZ ⊢
  clear hW w2
  simp only [cond_true] at kB
  go_loopw [48] (fun j wr => ∃ i : Nat, i ≤ 16 ∧ j = .int .i64 i ∧ St W (w.heap.size + 1) (buildOn a 8 (bitF 80 a b c) i) wr) (fun j _ => 16 - (intOf j).toNat)
  case atStart => exact ⟨0, Nat.zero_le _, rfl, St.start kA⟩
  case round =>
    obtain ⟨i, hi, rfl, hs⟩ := hrel
    by_cases hli : i < 16
    · have cB : wr.cell? ⟨x, i, none⟩ = some (.int .u8 ((getN b 8 i : Nat) : Int)) := by
        have := hs.kb.get kB (by omega)
        rw [cell_of_row wr x i _ _ _ this, getElem?_cells _ _ (by omega)]; rfl
      have cC : wr.cell? ⟨y, i, none⟩ = some (.int .u8 ((getN c 8 i : Nat) : Int)) := by
        have := hs.kb.get kC (by omega)
        rw [cell_of_row wr y i _ _ _ this, getElem?_cells _ _ (by omega)]; rfl
      have cI := index_vec a i hli
      go_wp2_with (refine store_byte rfl _ _ rfl (w.heap.size + 1) i _ (bitF 80 a b c i) rfl rfl _ hs.this hli (zb_80 a b c i hli) ?_; intro wy hy)
      go_roundw
      case rel => first | exact ⟨i + 1, by omega, by go_num, hs.sets hy⟩ | ((repeat apply Exists.intro); exact ⟨⟨i + 1, by omega, by go_num, hs.sets hy⟩, rfl⟩)
      case measure => (simp [intOf] <;> omega)
    · obtain rfl : i = 16 := by omega
      have hR' := hs.kb.get kR (by omega)
      go_wp2_with (first | (with_reducible refine load_vec rfl _ rfl _ rfl _ hs.this ?_) | (with_reducible refine store_vec rfl _ _ rfl w.heap.size _ rfl rfl _ hR' ?_; intro wq hq))
      refine bodyPost_ret (results_vec_tmp rfl _ _ w.heap.size _ _ rfl rfl hq.this) rfl ⟨?_, (hs.kb.to_below kZ (by omega)).trans (hq.below.mono (by omega))⟩
      rw [bit_all]; rfl


set_option maxRecDepth 100000 in
set_option maxHeartbeats 2000000 in
theorem bits_81o (a b c : Vec) (w : World) (B cap off : Nat) (hlt : B < w.heap.size) (hA : w.rangeAt B off (cells a).toList) (hB : w.rangeAt B (off + 16) (cells b).toList) (hC : w.rangeAt B (off + 16) (cells c).toList) :
    Calls Try.prog 19 #[.int .i64 64849, .slice (some ⟨B, off, none⟩) 2 cap] w fun e w' => e = .returned (.tuple #[.agg (cells (bitV 81 a b c)), .int .i64 0]) ∧ Below w.heap.size w w' := by
  have HA := Lib.hid hA
  have HB := Lib.hid hB
  have HC := Lib.hid hC
  clear hA hB hC
  have e0 : IntKind.i64.wrap 0 = 0 := IntWalk.i64_in _ (by decide)
  have e1 : IntKind.i64.wrap 1 = 1 := IntWalk.i64_in _ (by decide)
  have e2 : IntKind.i64.wrap 2 = 2 := IntWalk.i64_in _ (by decide)
  have hz : ∀ x, Below w.heap.size w (w.alloc x) := fun x => (Below.refl _ _).alloc (Nat.le_refl _) x
  go_enter Try.func19, Try.ntmps19
  go_wp2_with (first | (with_reducible refine load_at rfl _ rfl _ _ rfl _ (rangeAt_below HA.out hlt (hz _)) ?_) | (with_reducible refine store_vec rfl _ _ rfl (w.heap.size + 1) _ rfl rfl 0 (heap_zz w _ _) ?_; intro w1 g1))
  have z1 : Below w.heap.size w w1 := (((Below.refl w.heap.size w).alloc (Nat.le_refl _) _).alloc (by simp) _).trans (g1.below.mono (by omega))
  have hN : N2 w [(w.heap.size + 1, a), (w.heap.size, 0)] b (none, none, false) w1 := N2.start b z1 (by
    simp only [List.mem_cons, List.not_mem_nil, or_false, forall_eq_or_imp, forall_eq]
    exact ⟨g1.this, blk_sets (by rw [heap_alloc2_old, ← cells_zero]) g1 (by omega)⟩)
  clear g1 z1
  refine region_new2 w [(w.heap.size + 1, a), (w.heap.size, 0)] b 13 10 11 12 [0, 1, 2, 3, 4, 5, 6, 7, 8, 9] (by kernel_rfl) rfl rfl rfl rfl rfl rfl rfl rfl _ _ rfl (by decide) hN.drew ?_
  simp only [opsAt, List.getElem?_cons_zero, List.getElem?_cons_succ, List.drop_succ_cons, List.drop_zero]
  repeat (refine wpDA_pure (v := ?_) rfl (fun u => ?_) ?_; rotate_left; (focus (go_simp; (try with_reducible rfl); done)); simp only [Act.put, List.setIfInBounds_toArray, List.set_cons_zero, List.set_cons_succ])
  (refine do_loadM rfl _ rfl _ _ rfl _ (fun D u hS => rangeAt_below HB.out hlt hS.bel) ?_; simp only [Act.put, List.setIfInBounds_toArray, List.set_cons_zero, List.set_cons_succ])
  repeat (refine wpDA_pure (v := ?_) rfl (fun u => ?_) ?_; rotate_left; (focus (go_simp; (try with_reducible rfl); done)); simp only [Act.put, List.setIfInBounds_toArray, List.set_cons_zero, List.set_cons_succ])
  (refine do_loadM rfl _ rfl _ _ rfl _ (fun D u hS => rangeAt_below HC.out hlt hS.bel) ?_; simp only [Act.put, List.setIfInBounds_toArray, List.set_cons_zero, List.set_cons_succ])
  repeat (refine wpDA_pure (v := ?_) rfl (fun u => ?_) ?_; rotate_left; (focus (go_simp; (try with_reducible rfl); done)); simp only [Act.put, List.setIfInBounds_toArray, List.set_cons_zero, List.set_cons_succ])
  refine wpDA_nil (fun x y => ⟨rfl, rfl, fun wx hx => ?_⟩)
  clear hN
  obtain ⟨hb1, hb2, hb3⟩ := hx.nb x rfl
  obtain ⟨hc1, hc2, hc3⟩ := hx.nc y rfl
  have hbc := hx.ne x y rfl rfl
  have hA1 := hx.hold (w.heap.size + 1, a) (by simp)
  have hR1 := hx.hold (w.heap.size, 0) (by simp)
  have hZ := hx.bel
  have na := hb3 (w.heap.size + 1, a) (by simp)
  have ma := hc3 (w.heap.size + 1, a) (by simp)
  have nr := hb3 (w.heap.size, 0) (by simp)
  have mr := hc3 (w.heap.size, 0) (by simp)
  clear hx hb3 hc3
  unfold ptr
  simp only [Act.put, List.setIfInBounds_toArray, List.set_cons_zero, List.set_cons_succ]
  go_wp2_with (first | (with_reducible refine store_vec rfl _ _ rfl y _ rfl rfl 0 hc1 ?_; intro w2 g2) | (with_reducible refine load_vec rfl _ rfl _ rfl _ (blk_sets hA1 g2 ma) ?_))
  have kA := blk_sets hA1 g2 ma
  have kR := blk_sets hR1 g2 mr
  have kB := blk_sets hb1 g2 hbc
  have kC := g2.this
  have kZ := hZ.trans (g2.below.mono hc2)
  clear g2 hc1 hb1 hA1 hR1 hZ mr hbc hc2 hb2 hz
  obtain ⟨W, hW⟩ : ∃ W, W = w2 := ⟨_, rfl⟩
  rw [← hW] at kA kR kB kC kZ ⊢
  clear hW w2
  simp only [cond_true] at kB
  go_loopw [48] (fun j wr => ∃ i : Nat, i ≤ 16 ∧ j = .int .i64 i ∧ St W (w.heap.size + 1) (buildOn a 8 (bitF 81 a b c) i) wr) (fun j _ => 16 - (intOf j).toNat)
  case atStart => exact ⟨0, Nat.zero_le _, rfl, St.start kA⟩
  case round =>
    obtain ⟨i, hi, rfl, hs⟩ := hrel
    by_cases hli : i < 16
    · have cB : wr.cell? ⟨x, i, none⟩ = some (.int .u8 ((getN b 8 i : Nat) : Int)) := by
        have := hs.kb.get kB (by omega)
        rw [cell_of_row wr x i _ _ _ this, getElem?_cells _ _ (by omega)]; rfl
      have cC : wr.cell? ⟨y, i, none⟩ = some (.int .u8 ((getN c 8 i : Nat) : Int)) := by
        have := hs.kb.get kC (by omega)
        rw [cell_of_row wr y i _ _ _ this, getElem?_cells _ _ (by omega)]; rfl
      have cI := index_vec a i hli
      go_wp2_with (refine store_byte rfl _ _ rfl (w.heap.size + 1) i _ (bitF 81 a b c i) rfl rfl _ hs.this hli (zb_81 a b c i hli) ?_; intro wy hy)
      go_roundw
      case rel => first | exact ⟨i + 1, by omega, by go_num, hs.sets hy⟩ | ((repeat apply Exists.intro); exact ⟨⟨i + 1, by omega, by go_num, hs.sets hy⟩, rfl⟩)
      case measure => (simp [intOf] <;> omega)
    · obtain rfl : i = 16 := by omega
      have hR' := hs.kb.get kR (by omega)
      go_wp2_with (first | (with_reducible refine load_vec rfl _ rfl _ rfl _ hs.this ?_) | (with_reducible refine store_vec rfl _ _ rfl w.heap.size _ rfl rfl _ hR' ?_; intro wq hq))
      refine bodyPost_ret (results_vec_tmp rfl _ _ w.heap.size _ _ rfl rfl hq.this) rfl ⟨?_, (hs.kb.to_below kZ (by omega)).trans (hq.below.mono (by omega))⟩
      rw [bit_all]; rfl


set_option maxRecDepth 100000 in
set_option maxHeartbeats 2000000 in
theorem bits_82o (a b c : Vec) (w : World) (B cap off : Nat) (hlt : B < w.heap.size) (hA : w.rangeAt B off (cells a).toList) (hB : w.rangeAt B (off + 16) (cells b).toList) (hC : w.rangeAt B (off + 32) (cells c).toList) :
    Calls Try.prog 19 #[.int .i64 64850, .slice (some ⟨B, off, none⟩) 3 cap] w fun e w' => e = .returned (.tuple #[.agg (cells (bitV 82 a b c)), .int .i64 0]) ∧ Below w.heap.size w w' := by
  have HA := Lib.hid hA
  have HB := Lib.hid hB
  have HC := Lib.hid hC
  clear hA hB hC
  have e0 : IntKind.i64.wrap 0 = 0 := IntWalk.i64_in _ (by decide)
  have e1 : IntKind.i64.wrap 1 = 1 := IntWalk.i64_in _ (by decide)
  have e2 : IntKind.i64.wrap 2 = 2 := IntWalk.i64_in _ (by decide)
  have hz : ∀ x, Below w.heap.size w (w.alloc x) := fun x => (Below.refl _ _).alloc (Nat.le_refl _) x
  go_enter Try.func19, Try.ntmps19
  go_wp2_with (first | (with_reducible refine load_at rfl _ rfl _ _ rfl _ (rangeAt_below HA.out hlt (hz _)) ?_) | (with_reducible refine store_vec rfl _ _ rfl (w.heap.size + 1) _ rfl rfl 0 (heap_zz w _ _) ?_; intro w1 g1))
  have z1 : Below w.heap.size w w1 := (((Below.refl w.heap.size w).alloc (Nat.le_refl _) _).alloc (by simp) _).trans (g1.below.mono (by omega))
  have hN : N2 w [(w.heap.size + 1, a), (w.heap.size, 0)] b (none, none, false) w1 := N2.start b z1 (by
    simp only [List.mem_cons, List.not_mem_nil, or_false, forall_eq_or_imp, forall_eq]
    exact ⟨g1.this, blk_sets (by rw [heap_alloc2_old, ← cells_zero]) g1 (by omega)⟩)
  clear g1 z1
  refine region_new2 w [(w.heap.size + 1, a), (w.heap.size, 0)] b 13 10 11 12 [0, 1, 2, 3, 4, 5, 6, 7, 8, 9] (by kernel_rfl) rfl rfl rfl rfl rfl rfl rfl rfl _ _ rfl (by decide) hN.drew ?_
  simp only [opsAt, List.getElem?_cons_zero, List.getElem?_cons_succ, List.drop_succ_cons, List.drop_zero]
  repeat (refine wpDA_pure (v := ?_) rfl (fun u => ?_) ?_; rotate_left; (focus (go_simp; (try with_reducible rfl); done)); simp only [Act.put, List.setIfInBounds_toArray, List.set_cons_zero, List.set_cons_succ])
  (refine do_loadM rfl _ rfl _ _ rfl _ (fun D u hS => rangeAt_below HB.out hlt hS.bel) ?_; simp only [Act.put, List.setIfInBounds_toArray, List.set_cons_zero, List.set_cons_succ])
  repeat (refine wpDA_pure (v := ?_) rfl (fun u => ?_) ?_; rotate_left; (focus (go_simp; (try with_reducible rfl); done)); simp only [Act.put, List.setIfInBounds_toArray, List.set_cons_zero, List.set_cons_succ])
  (refine do_loadM rfl _ rfl _ _ rfl _ (fun D u hS => rangeAt_below HC.out hlt hS.bel) ?_; simp only [Act.put, List.setIfInBounds_toArray, List.set_cons_zero, List.set_cons_succ])
  repeat (refine wpDA_pure (v := ?_) rfl (fun u => ?_) ?_; rotate_left; (focus (go_simp; (try with_reducible rfl); done)); simp only [Act.put, List.setIfInBounds_toArray, List.set_cons_zero, List.set_cons_succ])
  refine wpDA_nil (fun x y => ⟨rfl, rfl, fun wx hx => ?_⟩)
  clear hN
  obtain ⟨hb1, hb2, hb3⟩ := hx.nb x rfl
  obtain ⟨hc1, hc2, hc3⟩ := hx.nc y rfl
  have hbc := hx.ne x y rfl rfl
  have hA1 := hx.hold (w.heap.size + 1, a) (by simp)
  have hR1 := hx.hold (w.heap.size, 0) (by simp)
  have hZ := hx.bel
  have na := hb3 (w.heap.size + 1, a) (by simp)
  have ma := hc3 (w.heap.size + 1, a) (by simp)
  have nr := hb3 (w.heap.size, 0) (by simp)
  have mr := hc3 (w.heap.size, 0) (by simp)
  clear hx hb3 hc3
  unfold ptr
  simp only [Act.put, List.setIfInBounds_toArray, List.set_cons_zero, List.set_cons_succ]
  go_wp2_with (first | (with_reducible refine store_vec rfl _ _ rfl y _ rfl rfl 0 hc1 ?_; intro w2 g2) | (with_reducible refine load_vec rfl _ rfl _ rfl _ (blk_sets hA1 g2 ma) ?_))
  have kA := blk_sets hA1 g2 ma
  have kR := blk_sets hR1 g2 mr
  have kB := blk_sets hb1 g2 hbc
  have kC := g2.this
  have kZ := hZ.trans (g2.below.mono hc2)
  clear g2 hc1 hb1 hA1 hR1 hZ mr hbc hc2 hb2 hz
  obtain ⟨W, hW⟩ : ∃ W, W = w2 := ⟨_, rfl⟩
  rw [← hW] at kA kR kB kC kZ ⊢
  clear hW w2
  simp only [cond_true] at kB
  go_loopw [48] (fun j wr => ∃ i : Nat, i ≤ 16 ∧ j = .int .i64 i ∧ St W (w.heap.size + 1) (buildOn a 8 (bitF 82 a b c) i) wr) (fun j _ => 16 - (intOf j).toNat)
  case atStart => exact ⟨0, Nat.zero_le _, rfl, St.start kA⟩
  case round =>
    obtain ⟨i, hi, rfl, hs⟩ := hrel
    by_cases hli : i < 16
    · have cB : wr.cell? ⟨x, i, none⟩ = some (.int .u8 ((getN b 8 i : Nat) : Int)) := by
        have := hs.kb.get kB (by omega)
        rw [cell_of_row wr x i _ _ _ this, getElem?_cells _ _ (by omega)]; rfl
      have cC : wr.cell? ⟨y, i, none⟩ = some (.int .u8 ((getN c 8 i : Nat) : Int)) := by
        have := hs.kb.get kC (by omega)
        rw [cell_of_row wr y i _ _ _ this, getElem?_cells _ _ (by omega)]; rfl
      have cI := index_vec a i hli
      have zb := zb_82 a b c i hli
      have cO : wr.cell? ⟨w.heap.size + 1, i, none⟩ = some (byteV (buildOn a 8 (bitF 82 a b c) i) i) := by
        rw [cell_of_row wr _ i _ _ _ hs.this, getElem?_cells _ _ hli]
      have fO := frozen_of_row wr (w.heap.size + 1) i _ _ hs.this
      have hn := (hs.sets (sets_setCell i (bitF 82 a b c i) hli hs.this)).drew
      go_wp2_with fail
      go_region
      go_wp2_with fail
      go_roundw
      case rel => first | exact ⟨i + 1, by omega, by go_num, hn⟩ | ((repeat apply Exists.intro); exact ⟨⟨i + 1, by omega, by go_num, hn⟩, rfl⟩)
      case measure => (simp [intOf] <;> omega)
    · obtain rfl : i = 16 := by omega
      have hR' := hs.kb.get kR (by omega)
      go_wp2_with (first | (with_reducible refine load_vec rfl _ rfl _ rfl _ hs.this ?_) | (with_reducible refine store_vec rfl _ _ rfl w.heap.size _ rfl rfl _ hR' ?_; intro wq hq))
      refine bodyPost_ret (results_vec_tmp rfl _ _ w.heap.size _ _ rfl rfl hq.this) rfl ⟨?_, (hs.kb.to_below kZ (by omega)).trans (hq.below.mono (by omega))⟩
      rw [bit_all]; rfl



end Go.Proofs.Ytcpfabkokgiepaa
