/- A part of the proof that plaittop.CoreLanes returns true. -/
import Derived.Deep.MidRow
import Derived.Test.YtebpijlmeemfaaaGreatDoorA01
import Derived.Test.YtebpijlmeemfaaaGreatDoorA02
import Derived.Test.YtebpijlmeemfaaaGreatDoorA04
import Derived.Test.YtebpijlmeemfaaaGreatDoorA07
import Derived.Test.YtebpijlmeemfaaaGreatDoorA08
set_option linter.all false
set_option linter.unusedSectionVars false
set_option linter.unusedSimpArgs false
set_option linter.unusedVariables false
section
namespace Go.Proofs.YtebpijlmeemfaaaGreatDoor
open Go.RowKit Pl
set_option maxRecDepth 100000 in
set_option maxHeartbeats 2000000 in
theorem bits_77o (a b c : Vec) (w : World) (B cap off : Nat) (hlt : B < w.heap.size) (hA : w.rangeAt B off (cells a).toList) (hB : w.rangeAt B off (cells b).toList) (hC : w.rangeAt B off (cells c).toList) :
  Calls Tryz.prog 85 #[.int .i64 64845, .slice (some ⟨B, off, none⟩) 1 cap] w fun e w' => e = .returned (.tuple #[.agg (cells (bitV 77 a b c)), .int .i64 0]) ∧ Below w.heap.size w w' := by
 have HA := Lib.hid hA
 have HB := Lib.hid hB
 have HC := Lib.hid hC
 clear hA hB hC
 have e0 : IntKind.i64.wrap 0 = 0 := IntWalk.i64_in _ (by decide)
 have e1 : IntKind.i64.wrap 1 = 1 := IntWalk.i64_in _ (by decide)
 have e2 : IntKind.i64.wrap 2 = 2 := IntWalk.i64_in _ (by decide)
 have hz : ∀ x, Below w.heap.size w (w.alloc x) := fun x => (Below.refl _ _).alloc (Nat.le_refl _) x
 go_enter Tryz.func85, Tryz.ntmps85
 go_wp2_with (first | (with_reducible refine load_at rfl _ rfl _ _ rfl _ (rangeAt_below HA.out hlt (hz _)) ?_) | (with_reducible refine store_vec rfl _ _ rfl (w.heap.size + 1) _ rfl rfl 0 (heap_zz w _ _) ?_; intro w1 g1))
 have z1 : Below w.heap.size w w1 := (((Below.refl w.heap.size w).alloc (Nat.le_refl _) _).alloc (by simp) _).trans (g1.below.mono (by omega))
 have hN : N2 w [(w.heap.size + 1, a), (w.heap.size, 0)] b (none, none, false) w1 := N2.start b z1 (by
  simp only [List.mem_cons, List.not_mem_nil, or_false, forall_eq_or_imp, forall_eq]
  exact ⟨g1.this, blk_sets (by rw [heap_alloc2_old, ← cells_zero]) g1 (by omega)⟩)
 clear g1 z1
 refine region_new2 w [(w.heap.size + 1, a), (w.heap.size, 0)] b 13 10 11 12 [0, 1, 2, 3, 4, 5, 6, 7, 8, 9] (by kernel_rfl) rfl rfl rfl rfl rfl rfl rfl rfl _ _ rfl (by decide) hN.drew ?_
 simp only [opsAt, List.getElem?_cons_zero, List.getElem?_cons_succ, List.drop_succ_cons, List.drop_zero]
 repeat (refine wpDA_pure (v := ?_) rfl (fun u => ?_) ?_; rotate_left; (focus (go_simp; (try with_reducible rfl); done)); simp only [Act.put, zqA, zqB, zqC])
 (refine do_loadM rfl _ rfl _ _ rfl _ (fun D u hS => rangeAt_below HB.out hlt hS.bel) ?_; simp only [Act.put, zqA, zqB, zqC])
 repeat (refine wpDA_pure (v := ?_) rfl (fun u => ?_) ?_; rotate_left; (focus (go_simp; (try with_reducible rfl); done)); simp only [Act.put, zqA, zqB, zqC])
 (refine do_loadM rfl _ rfl _ _ rfl _ (fun D u hS => rangeAt_below HC.out hlt hS.bel) ?_; simp only [Act.put, zqA, zqB, zqC])
 repeat (refine wpDA_pure (v := ?_) rfl (fun u => ?_) ?_; rotate_left; (focus (go_simp; (try with_reducible rfl); done)); simp only [Act.put, zqA, zqB, zqC])
 refine wpDA_nil (fun x y => ⟨rfl, rfl, fun wx hx => ?_⟩)
 clear hN
 obtain ⟨hb1, hb2, hb3⟩ := hx.nb x rfl
 obtain ⟨hc1, hc2, hc3⟩ := hx.nc y rfl
 have hbc := hx.ne x y rfl rfl
 have hA1 := hx.hold (w.heap.size + 1, a) (by simp)
 have hR1 := hx.hold (w.heap.size, 0) (by simp)
 have hZ := hx.bel
 have na := hb3 (w.heap.size + 1, a) (by simp)
 have ma := hc3 (w.heap.size + 1, a) (by simp)
 have nr := hb3 (w.heap.size, 0) (by simp)
 have mr := hc3 (w.heap.size, 0) (by simp)
 clear hx hb3 hc3
 unfold ptr
 simp only [Act.put, zqA, zqB, zqC]
 go_wp2_with (first | (with_reducible refine store_vec rfl _ _ rfl y _ rfl rfl 0 hc1 ?_; intro w2 g2) | (with_reducible refine load_vec rfl _ rfl _ rfl _ (blk_sets hA1 g2 ma) ?_))
 have kA := blk_sets hA1 g2 ma
 have kR := blk_sets hR1 g2 mr
 have kB := blk_sets hb1 g2 hbc
 have kC := g2.this
 have kZ := hZ.trans (g2.below.mono hc2)
 clear g2 hc1 hb1 hA1 hR1 hZ mr hbc hc2 hb2 hz
 obtain ⟨W, hW⟩ : ∃ W, W = w2 := ⟨_, rfl⟩
 rw [← hW] at kA kR kB kC kZ ⊢
 clear hW w2
 simp only [cond_true] at kB
 go_loopw [48] (fun j wr => ∃ i : Nat, i ≤ 16 ∧ j = .int .i64 i ∧ St W (w.heap.size + 1) (buildOn a 8 (bitF 77 a b c) i) wr) (fun j _ => 16 - (intOf j).toNat)
 case atStart => exact ⟨0, Nat.zero_le _, rfl, St.start kA⟩
 case round =>
  obtain ⟨i, hi, rfl, hs⟩ := hrel
  by_cases hli : i < 16
  ·have cB : wr.cell? ⟨x, i, none⟩ = some (.int .u8 ((getN b 8 i : Nat) : Int)) := by
    have := hs.kb.get kB (by omega)
    rw [cell_of_row wr x i _ _ _ this, getElem?_cells _ _ (by omega)]; rfl
   have cC : wr.cell? ⟨y, i, none⟩ = some (.int .u8 ((getN c 8 i : Nat) : Int)) := by
    have := hs.kb.get kC (by omega)
    rw [cell_of_row wr y i _ _ _ this, getElem?_cells _ _ (by omega)]; rfl
   have cI := index_vec a i hli
   go_wp2_with (refine store_byte rfl _ _ rfl (w.heap.size + 1) i _ (bitF 77 a b c i) rfl rfl _ hs.this hli (zb_77 a b c i hli) ?_; intro wy hy)
   go_roundw
   case rel => first | exact ⟨i + 1, by omega, by go_num, hs.sets hy⟩ | ((repeat apply Exists.intro); exact ⟨⟨i + 1, by omega, by go_num, hs.sets hy⟩, rfl⟩)
   case measure => (simp [intOf] <;> omega)
  ·obtain rfl : i = 16 := by omega
   have hR' := hs.kb.get kR (by omega)
   go_wp2_with (first | (with_reducible refine load_vec rfl _ rfl _ rfl _ hs.this ?_) | (with_reducible refine store_vec rfl _ _ rfl w.heap.size _ rfl rfl _ hR' ?_; intro wq hq))
   refine bodyPost_ret (results_vec_tmp rfl _ _ w.heap.size _ _ rfl rfl hq.this) rfl ⟨?_, (hs.kb.to_below kZ (by omega)).trans (hq.below.mono (by omega))⟩
   rw [bit_all]; rfl
set_option maxRecDepth 100000 in
set_option maxHeartbeats 2000000 in
theorem bits_78o (a b c : Vec) (w : World) (B cap off : Nat) (hlt : B < w.heap.size) (hA : w.rangeAt B off (cells a).toList) (hB : w.rangeAt B (off + 16) (cells b).toList) (hC : w.rangeAt B (off + 16) (cells c).toList) :
  Calls Tryz.prog 85 #[.int .i64 64846, .slice (some ⟨B, off, none⟩) 2 cap] w fun e w' => e = .returned (.tuple #[.agg (cells (bitV 78 a b c)), .int .i64 0]) ∧ Below w.heap.size w w' := by
 have HA := Lib.hid hA
 have HB := Lib.hid hB
 have HC := Lib.hid hC
 clear hA hB hC
 have e0 : IntKind.i64.wrap 0 = 0 := IntWalk.i64_in _ (by decide)
 have e1 : IntKind.i64.wrap 1 = 1 := IntWalk.i64_in _ (by decide)
 have e2 : IntKind.i64.wrap 2 = 2 := IntWalk.i64_in _ (by decide)
 have hz : ∀ x, Below w.heap.size w (w.alloc x) := fun x => (Below.refl _ _).alloc (Nat.le_refl _) x
 go_enter Tryz.func85, Tryz.ntmps85
 go_wp2_with (first | (with_reducible refine load_at rfl _ rfl _ _ rfl _ (rangeAt_below HA.out hlt (hz _)) ?_) | (with_reducible refine store_vec rfl _ _ rfl (w.heap.size + 1) _ rfl rfl 0 (heap_zz w _ _) ?_; intro w1 g1))
 have z1 : Below w.heap.size w w1 := (((Below.refl w.heap.size w).alloc (Nat.le_refl _) _).alloc (by simp) _).trans (g1.below.mono (by omega))
 have hN : N2 w [(w.heap.size + 1, a), (w.heap.size, 0)] b (none, none, false) w1 := N2.start b z1 (by
  simp only [List.mem_cons, List.not_mem_nil, or_false, forall_eq_or_imp, forall_eq]
  exact ⟨g1.this, blk_sets (by rw [heap_alloc2_old, ← cells_zero]) g1 (by omega)⟩)
 clear g1 z1
 refine region_new2 w [(w.heap.size + 1, a), (w.heap.size, 0)] b 13 10 11 12 [0, 1, 2, 3, 4, 5, 6, 7, 8, 9] (by kernel_rfl) rfl rfl rfl rfl rfl rfl rfl rfl _ _ rfl (by decide) hN.drew ?_
 simp only [opsAt, List.getElem?_cons_zero, List.getElem?_cons_succ, List.drop_succ_cons, List.drop_zero]
 repeat (refine wpDA_pure (v := ?_) rfl (fun u => ?_) ?_; rotate_left; (focus (go_simp; (try with_reducible rfl); done)); simp only [Act.put, zqA, zqB, zqC])
 (refine do_loadM rfl _ rfl _ _ rfl _ (fun D u hS => rangeAt_below HB.out hlt hS.bel) ?_; simp only [Act.put, zqA, zqB, zqC])
 repeat (refine wpDA_pure (v := ?_) rfl (fun u => ?_) ?_; rotate_left; (focus (go_simp; (try with_reducible rfl); done)); simp only [Act.put, zqA, zqB, zqC])
 (refine do_loadM rfl _ rfl _ _ rfl _ (fun D u hS => rangeAt_below HC.out hlt hS.bel) ?_; simp only [Act.put, zqA, zqB, zqC])
 repeat (refine wpDA_pure (v := ?_) rfl (fun u => ?_) ?_; rotate_left; (focus (go_simp; (try with_reducible rfl); done)); simp only [Act.put, zqA, zqB, zqC])
 refine wpDA_nil (fun x y => ⟨rfl, rfl, fun wx hx => ?_⟩)
 clear hN
 obtain ⟨hb1, hb2, hb3⟩ := hx.nb x rfl
 obtain ⟨hc1, hc2, hc3⟩ := hx.nc y rfl
 have hbc := hx.ne x y rfl rfl
 have hA1 := hx.hold (w.heap.size + 1, a) (by simp)
 have hR1 := hx.hold (w.heap.size, 0) (by simp)
 have hZ := hx.bel
 have na := hb3 (w.heap.size + 1, a) (by simp)
 have ma := hc3 (w.heap.size + 1, a) (by simp)
 have nr := hb3 (w.heap.size, 0) (by simp)
 have mr := hc3 (w.heap.size, 0) (by simp)
 clear hx hb3 hc3
 unfold ptr
 simp only [Act.put, zqA, zqB, zqC]
 go_wp2_with (first | (with_reducible refine store_vec rfl _ _ rfl y _ rfl rfl 0 hc1 ?_; intro w2 g2) | (with_reducible refine load_vec rfl _ rfl _ rfl _ (blk_sets hA1 g2 ma) ?_))
 have kA := blk_sets hA1 g2 ma
 have kR := blk_sets hR1 g2 mr
 have kB := blk_sets hb1 g2 hbc
 have kC := g2.this
 have kZ := hZ.trans (g2.below.mono hc2)
 clear g2 hc1 hb1 hA1 hR1 hZ mr hbc hc2 hb2 hz
 obtain ⟨W, hW⟩ : ∃ W, W = w2 := ⟨_, rfl⟩
 rw [← hW] at kA kR kB kC kZ ⊢
 clear hW w2
 simp only [cond_true] at kB
 go_loopw [48] (fun j wr => ∃ i : Nat, i ≤ 16 ∧ j = .int .i64 i ∧ St W (w.heap.size + 1) (buildOn a 8 (bitF 78 a b c) i) wr) (fun j _ => 16 - (intOf j).toNat)
 case atStart => exact ⟨0, Nat.zero_le _, rfl, St.start kA⟩
 case round =>
  obtain ⟨i, hi, rfl, hs⟩ := hrel
  by_cases hli : i < 16
  ·have cB : wr.cell? ⟨x, i, none⟩ = some (.int .u8 ((getN b 8 i : Nat) : Int)) := by
    have := hs.kb.get kB (by omega)
    rw [cell_of_row wr x i _ _ _ this, getElem?_cells _ _ (by omega)]; rfl
   have cC : wr.cell? ⟨y, i, none⟩ = some (.int .u8 ((getN c 8 i : Nat) : Int)) := by
    have := hs.kb.get kC (by omega)
    rw [cell_of_row wr y i _ _ _ this, getElem?_cells _ _ (by omega)]; rfl
   have cI := index_vec a i hli
   go_wp2_with (refine store_byte rfl _ _ rfl (w.heap.size + 1) i _ (bitF 78 a b c i) rfl rfl _ hs.this hli (zb_78 a b c i hli) ?_; intro wy hy)
   go_roundw
   case rel => first | exact ⟨i + 1, by omega, by go_num, hs.sets hy⟩ | ((repeat apply Exists.intro); exact ⟨⟨i + 1, by omega, by go_num, hs.sets hy⟩, rfl⟩)
   case measure => (simp [intOf] <;> omega)
  ·obtain rfl : i = 16 := by omega
   have hR' := hs.kb.get kR (by omega)
   go_wp2_with (first | (with_reducible refine load_vec rfl _ rfl _ rfl _ hs.this ?_) | (with_reducible refine store_vec rfl _ _ rfl w.heap.size _ rfl rfl _ hR' ?_; intro wq hq))
   refine bodyPost_ret (results_vec_tmp rfl _ _ w.heap.size _ _ rfl rfl hq.this) rfl ⟨?_, (hs.kb.to_below kZ (by omega)).trans (hq.below.mono (by omega))⟩
   rw [bit_all]; rfl
set_option maxRecDepth 100000 in
set_option maxHeartbeats 2000000 in
theorem bits_79o (a b c : Vec) (w : World) (B cap off : Nat) (hlt : B < w.heap.size) (hA : w.rangeAt B off (cells a).toList) (hB : w.rangeAt B (off + 16) (cells b).toList) (hC : w.rangeAt B (off + 16) (cells c).toList) :
  Calls Tryz.prog 85 #[.int .i64 64847, .slice (some ⟨B, off, none⟩) 2 cap] w fun e w' => e = .returned (.tuple #[.agg (cells (bitV 79 a b c)), .int .i64 0]) ∧ Below w.heap.size w w' := by
 have HA := Lib.hid hA
 have HB := Lib.hid hB
 have HC := Lib.hid hC
 clear hA hB hC
 have e0 : IntKind.i64.wrap 0 = 0 := IntWalk.i64_in _ (by decide)
 have e1 : IntKind.i64.wrap 1 = 1 := IntWalk.i64_in _ (by decide)
 have e2 : IntKind.i64.wrap 2 = 2 := IntWalk.i64_in _ (by decide)
 have hz : ∀ x, Below w.heap.size w (w.alloc x) := fun x => (Below.refl _ _).alloc (Nat.le_refl _) x
 go_enter Tryz.func85, Tryz.ntmps85
 go_wp2_with (first | (with_reducible refine load_at rfl _ rfl _ _ rfl _ (rangeAt_below HA.out hlt (hz _)) ?_) | (with_reducible refine store_vec rfl _ _ rfl (w.heap.size + 1) _ rfl rfl 0 (heap_zz w _ _) ?_; intro w1 g1))
 have z1 : Below w.heap.size w w1 := (((Below.refl w.heap.size w).alloc (Nat.le_refl _) _).alloc (by simp) _).trans (g1.below.mono (by omega))
 have hN : N2 w [(w.heap.size + 1, a), (w.heap.size, 0)] b (none, none, false) w1 := N2.start b z1 (by
  simp only [List.mem_cons, List.not_mem_nil, or_false, forall_eq_or_imp, forall_eq]
  exact ⟨g1.this, blk_sets (by rw [heap_alloc2_old, ← cells_zero]) g1 (by omega)⟩)
 clear g1 z1
 refine region_new2 w [(w.heap.size + 1, a), (w.heap.size, 0)] b 13 10 11 12 [0, 1, 2, 3, 4, 5, 6, 7, 8, 9] (by kernel_rfl) rfl rfl rfl rfl rfl rfl rfl rfl _ _ rfl (by decide) hN.drew ?_
 simp only [opsAt, List.getElem?_cons_zero, List.getElem?_cons_succ, List.drop_succ_cons, List.drop_zero]
 repeat (refine wpDA_pure (v := ?_) rfl (fun u => ?_) ?_; rotate_left; (focus (go_simp; (try with_reducible rfl); done)); simp only [Act.put, zqA, zqB, zqC])
 (refine do_loadM rfl _ rfl _ _ rfl _ (fun D u hS => rangeAt_below HB.out hlt hS.bel) ?_; simp only [Act.put, zqA, zqB, zqC])
 repeat (refine wpDA_pure (v := ?_) rfl (fun u => ?_) ?_; rotate_left; (focus (go_simp; (try with_reducible rfl); done)); simp only [Act.put, zqA, zqB, zqC])
 (refine do_loadM rfl _ rfl _ _ rfl _ (fun D u hS => rangeAt_below HC.out hlt hS.bel) ?_; simp only [Act.put, zqA, zqB, zqC])
 repeat (refine wpDA_pure (v := ?_) rfl (fun u => ?_) ?_; rotate_left; (focus (go_simp; (try with_reducible rfl); done)); simp only [Act.put, zqA, zqB, zqC])
 refine wpDA_nil (fun x y => ⟨rfl, rfl, fun wx hx => ?_⟩)
 clear hN
 obtain ⟨hb1, hb2, hb3⟩ := hx.nb x rfl
 obtain ⟨hc1, hc2, hc3⟩ := hx.nc y rfl
 have hbc := hx.ne x y rfl rfl
 have hA1 := hx.hold (w.heap.size + 1, a) (by simp)
 have hR1 := hx.hold (w.heap.size, 0) (by simp)
 have hZ := hx.bel
 have na := hb3 (w.heap.size + 1, a) (by simp)
 have ma := hc3 (w.heap.size + 1, a) (by simp)
 have nr := hb3 (w.heap.size, 0) (by simp)
 have mr := hc3 (w.heap.size, 0) (by simp)
 clear hx hb3 hc3
 unfold ptr
 simp only [Act.put, zqA, zqB, zqC]
 go_wp2_with (first | (with_reducible refine store_vec rfl _ _ rfl y _ rfl rfl 0 hc1 ?_; intro w2 g2) | (with_reducible refine load_vec rfl _ rfl _ rfl _ (blk_sets hA1 g2 ma) ?_))
 have kA := blk_sets hA1 g2 ma
 have kR := blk_sets hR1 g2 mr
 have kB := blk_sets hb1 g2 hbc
 have kC := g2.this
 have kZ := hZ.trans (g2.below.mono hc2)
 clear g2 hc1 hb1 hA1 hR1 hZ mr hbc hc2 hb2 hz
 obtain ⟨W, hW⟩ : ∃ W, W = w2 := ⟨_, rfl⟩
 rw [← hW] at kA kR kB kC kZ ⊢
 clear hW w2
 simp only [cond_true] at kB
 go_loopw [48] (fun j wr => ∃ i : Nat, i ≤ 16 ∧ j = .int .i64 i ∧ St W (w.heap.size + 1) (buildOn a 8 (bitF 79 a b c) i) wr) (fun j _ => 16 - (intOf j).toNat)
 case atStart => exact ⟨0, Nat.zero_le _, rfl, St.start kA⟩
 case round =>
  obtain ⟨i, hi, rfl, hs⟩ := hrel
  by_cases hli : i < 16
  ·have cB : wr.cell? ⟨x, i, none⟩ = some (.int .u8 ((getN b 8 i : Nat) : Int)) := by
    have := hs.kb.get kB (by omega)
    rw [cell_of_row wr x i _ _ _ this, getElem?_cells _ _ (by omega)]; rfl
   have cC : wr.cell? ⟨y, i, none⟩ = some (.int .u8 ((getN c 8 i : Nat) : Int)) := by
    have := hs.kb.get kC (by omega)
    rw [cell_of_row wr y i _ _ _ this, getElem?_cells _ _ (by omega)]; rfl
   have cI := index_vec a i hli
   go_wp2_with (refine store_byte rfl _ _ rfl (w.heap.size + 1) i _ (bitF 79 a b c i) rfl rfl _ hs.this hli (zb_79 a b c i hli) ?_; intro wy hy)
   go_roundw
   case rel => first | exact ⟨i + 1, by omega, by go_num, hs.sets hy⟩ | ((repeat apply Exists.intro); exact ⟨⟨i + 1, by omega, by go_num, hs.sets hy⟩, rfl⟩)
   case measure => (simp [intOf] <;> omega)
  ·obtain rfl : i = 16 := by omega
   have hR' := hs.kb.get kR (by omega)
   go_wp2_with (first | (with_reducible refine load_vec rfl _ rfl _ rfl _ hs.this ?_) | (with_reducible refine store_vec rfl _ _ rfl w.heap.size _ rfl rfl _ hR' ?_; intro wq hq))
   refine bodyPost_ret (results_vec_tmp rfl _ _ w.heap.size _ _ rfl rfl hq.this) rfl ⟨?_, (hs.kb.to_below kZ (by omega)).trans (hq.below.mono (by omega))⟩
   rw [bit_all]; rfl
set_option maxRecDepth 100000 in
set_option maxHeartbeats 2000000 in
theorem bits_80o (a b c : Vec) (w : World) (B cap off : Nat) (hlt : B < w.heap.size) (hA : w.rangeAt B off (cells a).toList) (hB : w.rangeAt B (off + 16) (cells b).toList) (hC : w.rangeAt B (off + 16) (cells c).toList) :
  Calls Tryz.prog 85 #[.int .i64 64848, .slice (some ⟨B, off, none⟩) 2 cap] w fun e w' => e = .returned (.tuple #[.agg (cells (bitV 80 a b c)), .int .i64 0]) ∧ Below w.heap.size w w' := by
 have HA := Lib.hid hA
 have HB := Lib.hid hB
 have HC := Lib.hid hC
 clear hA hB hC
 have e0 : IntKind.i64.wrap 0 = 0 := IntWalk.i64_in _ (by decide)
 have e1 : IntKind.i64.wrap 1 = 1 := IntWalk.i64_in _ (by decide)
 have e2 : IntKind.i64.wrap 2 = 2 := IntWalk.i64_in _ (by decide)
 have hz : ∀ x, Below w.heap.size w (w.alloc x) := fun x => (Below.refl _ _).alloc (Nat.le_refl _) x
 go_enter Tryz.func85, Tryz.ntmps85
 go_wp2_with (first | (with_reducible refine load_at rfl _ rfl _ _ rfl _ (rangeAt_below HA.out hlt (hz _)) ?_) | (with_reducible refine store_vec rfl _ _ rfl (w.heap.size + 1) _ rfl rfl 0 (heap_zz w _ _) ?_; intro w1 g1))
 have z1 : Below w.heap.size w w1 := (((Below.refl w.heap.size w).alloc (Nat.le_refl _) _).alloc (by simp) _).trans (g1.below.mono (by omega))
 have hN : N2 w [(w.heap.size + 1, a), (w.heap.size, 0)] b (none, none, false) w1 := N2.start b z1 (by
  simp only [List.mem_cons, List.not_mem_nil, or_false, forall_eq_or_imp, forall_eq]
  exact ⟨g1.this, blk_sets (by rw [heap_alloc2_old, ← cells_zero]) g1 (by omega)⟩)
 clear g1 z1
 refine region_new2 w [(w.heap.size + 1, a), (w.heap.size, 0)] b 13 10 11 12 [0, 1, 2, 3, 4, 5, 6, 7, 8, 9] (by kernel_rfl) rfl rfl rfl rfl rfl rfl rfl rfl _ _ rfl (by decide) hN.drew ?_
 simp only [opsAt, List.getElem?_cons_zero, List.getElem?_cons_succ, List.drop_succ_cons, List.drop_zero]
 repeat (refine wpDA_pure (v := ?_) rfl (fun u => ?_) ?_; rotate_left; (focus (go_simp; (try with_reducible rfl); done)); simp only [Act.put, zqA, zqB, zqC])
 (refine do_loadM rfl _ rfl _ _ rfl _ (fun D u hS => rangeAt_below HB.out hlt hS.bel) ?_; simp only [Act.put, zqA, zqB, zqC])
 repeat (refine wpDA_pure (v := ?_) rfl (fun u => ?_) ?_; rotate_left; (focus (go_simp; (try with_reducible rfl); done)); simp only [Act.put, zqA, zqB, zqC])
 (refine do_loadM rfl _ rfl _ _ rfl _ (fun D u hS => rangeAt_below HC.out hlt hS.bel) ?_; simp only [Act.put, zqA, zqB, zqC])
 repeat (refine wpDA_pure (v := ?_) rfl (fun u => ?_) ?_; rotate_left; (focus (go_simp; (try with_reducible rfl); done)); simp only [Act.put, zqA, zqB, zqC])
 refine wpDA_nil (fun x y => ⟨rfl, rfl, fun wx hx => ?_⟩)
 clear hN
 obtain ⟨hb1, hb2, hb3⟩ := hx.nb x rfl
 obtain ⟨hc1, hc2, hc3⟩ := hx.nc y rfl
 have hbc := hx.ne x y rfl rfl
 have hA1 := hx.hold (w.heap.size + 1, a) (by simp)
 have hR1 := hx.hold (w.heap.size, 0) (by simp)
 have hZ := hx.bel
 have na := hb3 (w.heap.size + 1, a) (by simp)
 have ma := hc3 (w.heap.size + 1, a) (by simp)
 have nr := hb3 (w.heap.size, 0) (by simp)
 have mr := hc3 (w.heap.size, 0) (by simp)
 clear hx hb3 hc3
 unfold ptr
 simp only [Act.put, zqA, zqB, zqC]
 go_wp2_with (first | (with_reducible refine store_vec rfl _ _ rfl y _ rfl rfl 0 hc1 ?_; intro w2 g2) | (with_reducible refine load_vec rfl _ rfl _ rfl _ (blk_sets hA1 g2 ma) ?_))
 have kA := blk_sets hA1 g2 ma
 have kR := blk_sets hR1 g2 mr
 have kB := blk_sets hb1 g2 hbc
 have kC := g2.this
 have kZ := hZ.trans (g2.below.mono hc2)
 clear g2 hc1 hb1 hA1 hR1 hZ mr hbc hc2 hb2 hz
 obtain ⟨W, hW⟩ : ∃ W, W = w2 := ⟨_, rfl⟩
 rw [← hW] at kA kR kB kC kZ ⊢
 clear hW w2
 simp only [cond_true] at kB
 go_loopw [48] (fun j wr => ∃ i : Nat, i ≤ 16 ∧ j = .int .i64 i ∧ St W (w.heap.size + 1) (buildOn a 8 (bitF 80 a b c) i) wr) (fun j _ => 16 - (intOf j).toNat)
 case atStart => exact ⟨0, Nat.zero_le _, rfl, St.start kA⟩
 case round =>
  obtain ⟨i, hi, rfl, hs⟩ := hrel
  by_cases hli : i < 16
  ·have cB : wr.cell? ⟨x, i, none⟩ = some (.int .u8 ((getN b 8 i : Nat) : Int)) := by
    have := hs.kb.get kB (by omega)
    rw [cell_of_row wr x i _ _ _ this, getElem?_cells _ _ (by omega)]; rfl
   have cC : wr.cell? ⟨y, i, none⟩ = some (.int .u8 ((getN c 8 i : Nat) : Int)) := by
    have := hs.kb.get kC (by omega)
    rw [cell_of_row wr y i _ _ _ this, getElem?_cells _ _ (by omega)]; rfl
   have cI := index_vec a i hli
   go_wp2_with (refine store_byte rfl _ _ rfl (w.heap.size + 1) i _ (bitF 80 a b c i) rfl rfl _ hs.this hli (zb_80 a b c i hli) ?_; intro wy hy)
   go_roundw
   case rel => first | exact ⟨i + 1, by omega, by go_num, hs.sets hy⟩ | ((repeat apply Exists.intro); exact ⟨⟨i + 1, by omega, by go_num, hs.sets hy⟩, rfl⟩)
   case measure => (simp [intOf] <;> omega)
  ·obtain rfl : i = 16 := by omega
   have hR' := hs.kb.get kR (by omega)
   go_wp2_with (first | (with_reducible refine load_vec rfl _ rfl _ rfl _ hs.this ?_) | (with_reducible refine store_vec rfl _ _ rfl w.heap.size _ rfl rfl _ hR' ?_; intro wq hq))
   refine bodyPost_ret (results_vec_tmp rfl _ _ w.heap.size _ _ rfl rfl hq.this) rfl ⟨?_, (hs.kb.to_below kZ (by omega)).trans (hq.below.mono (by omega))⟩
   rw [bit_all]; rfl
set_option maxRecDepth 100000 in
set_option maxHeartbeats 2000000 in
theorem bits_81o (a b c : Vec) (w : World) (B cap off : Nat) (hlt : B < w.heap.size) (hA : w.rangeAt B off (cells a).toList) (hB : w.rangeAt B (off + 16) (cells b).toList) (hC : w.rangeAt B (off + 16) (cells c).toList) :
  Calls Tryz.prog 85 #[.int .i64 64849, .slice (some ⟨B, off, none⟩) 2 cap] w fun e w' => e = .returned (.tuple #[.agg (cells (bitV 81 a b c)), .int .i64 0]) ∧ Below w.heap.size w w' := by
 have HA := Lib.hid hA
 have HB := Lib.hid hB
 have HC := Lib.hid hC
 clear hA hB hC
 have e0 : IntKind.i64.wrap 0 = 0 := IntWalk.i64_in _ (by decide)
 have e1 : IntKind.i64.wrap 1 = 1 := IntWalk.i64_in _ (by decide)
 have e2 : IntKind.i64.wrap 2 = 2 := IntWalk.i64_in _ (by decide)
 have hz : ∀ x, Below w.heap.size w (w.alloc x) := fun x => (Below.refl _ _).alloc (Nat.le_refl _) x
 go_enter Tryz.func85, Tryz.ntmps85
 go_wp2_with (first | (with_reducible refine load_at rfl _ rfl _ _ rfl _ (rangeAt_below HA.out hlt (hz _)) ?_) | (with_reducible refine store_vec rfl _ _ rfl (w.heap.size + 1) _ rfl rfl 0 (heap_zz w _ _) ?_; intro w1 g1))
 have z1 : Below w.heap.size w w1 := (((Below.refl w.heap.size w).alloc (Nat.le_refl _) _).alloc (by simp) _).trans (g1.below.mono (by omega))
 have hN : N2 w [(w.heap.size + 1, a), (w.heap.size, 0)] b (none, none, false) w1 := N2.start b z1 (by
  simp only [List.mem_cons, List.not_mem_nil, or_false, forall_eq_or_imp, forall_eq]
  exact ⟨g1.this, blk_sets (by rw [heap_alloc2_old, ← cells_zero]) g1 (by omega)⟩)
 clear g1 z1
 refine region_new2 w [(w.heap.size + 1, a), (w.heap.size, 0)] b 13 10 11 12 [0, 1, 2, 3, 4, 5, 6, 7, 8, 9] (by kernel_rfl) rfl rfl rfl rfl rfl rfl rfl rfl _ _ rfl (by decide) hN.drew ?_
 simp only [opsAt, List.getElem?_cons_zero, List.getElem?_cons_succ, List.drop_succ_cons, List.drop_zero]
 repeat (refine wpDA_pure (v := ?_) rfl (fun u => ?_) ?_; rotate_left; (focus (go_simp; (try with_reducible rfl); done)); simp only [Act.put, zqA, zqB, zqC])
 (refine do_loadM rfl _ rfl _ _ rfl _ (fun D u hS => rangeAt_below HB.out hlt hS.bel) ?_; simp only [Act.put, zqA, zqB, zqC])
 repeat (refine wpDA_pure (v := ?_) rfl (fun u => ?_) ?_; rotate_left; (focus (go_simp; (try with_reducible rfl); done)); simp only [Act.put, zqA, zqB, zqC])
 (refine do_loadM rfl _ rfl _ _ rfl _ (fun D u hS => rangeAt_below HC.out hlt hS.bel) ?_; simp only [Act.put, zqA, zqB, zqC])
 repeat (refine wpDA_pure (v := ?_) rfl (fun u => ?_) ?_; rotate_left; (focus (go_simp; (try with_reducible rfl); done)); simp only [Act.put, zqA, zqB, zqC])
 refine wpDA_nil (fun x y => ⟨rfl, rfl, fun wx hx => ?_⟩)
 clear hN
 obtain ⟨hb1, hb2, hb3⟩ := hx.nb x rfl
 obtain ⟨hc1, hc2, hc3⟩ := hx.nc y rfl
 have hbc := hx.ne x y rfl rfl
 have hA1 := hx.hold (w.heap.size + 1, a) (by simp)
 have hR1 := hx.hold (w.heap.size, 0) (by simp)
 have hZ := hx.bel
 have na := hb3 (w.heap.size + 1, a) (by simp)
 have ma := hc3 (w.heap.size + 1, a) (by simp)
 have nr := hb3 (w.heap.size, 0) (by simp)
 have mr := hc3 (w.heap.size, 0) (by simp)
 clear hx hb3 hc3
 unfold ptr
 simp only [Act.put, zqA, zqB, zqC]
 go_wp2_with (first | (with_reducible refine store_vec rfl _ _ rfl y _ rfl rfl 0 hc1 ?_; intro w2 g2) | (with_reducible refine load_vec rfl _ rfl _ rfl _ (blk_sets hA1 g2 ma) ?_))
 have kA := blk_sets hA1 g2 ma
 have kR := blk_sets hR1 g2 mr
 have kB := blk_sets hb1 g2 hbc
 have kC := g2.this
 have kZ := hZ.trans (g2.below.mono hc2)
 clear g2 hc1 hb1 hA1 hR1 hZ mr hbc hc2 hb2 hz
 obtain ⟨W, hW⟩ : ∃ W, W = w2 := ⟨_, rfl⟩
 rw [← hW] at kA kR kB kC kZ ⊢
 clear hW w2
 simp only [cond_true] at kB
 go_loopw [48] (fun j wr => ∃ i : Nat, i ≤ 16 ∧ j = .int .i64 i ∧ St W (w.heap.size + 1) (buildOn a 8 (bitF 81 a b c) i) wr) (fun j _ => 16 - (intOf j).toNat)
 case atStart => exact ⟨0, Nat.zero_le _, rfl, St.start kA⟩
 case round =>
  obtain ⟨i, hi, rfl, hs⟩ := hrel
  by_cases hli : i < 16
  ·have cB : wr.cell? ⟨x, i, none⟩ = some (.int .u8 ((getN b 8 i : Nat) : Int)) := by
    have := hs.kb.get kB (by omega)
    rw [cell_of_row wr x i _ _ _ this, getElem?_cells _ _ (by omega)]; rfl
   have cC : wr.cell? ⟨y, i, none⟩ = some (.int .u8 ((getN c 8 i : Nat) : Int)) := by
    have := hs.kb.get kC (by omega)
    rw [cell_of_row wr y i _ _ _ this, getElem?_cells _ _ (by omega)]; rfl
   have cI := index_vec a i hli
   go_wp2_with (refine store_byte rfl _ _ rfl (w.heap.size + 1) i _ (bitF 81 a b c i) rfl rfl _ hs.this hli (zb_81 a b c i hli) ?_; intro wy hy)
   go_roundw
   case rel => first | exact ⟨i + 1, by omega, by go_num, hs.sets hy⟩ | ((repeat apply Exists.intro); exact ⟨⟨i + 1, by omega, by go_num, hs.sets hy⟩, rfl⟩)
   case measure => (simp [intOf] <;> omega)
  ·obtain rfl : i = 16 := by omega
   have hR' := hs.kb.get kR (by omega)
   go_wp2_with (first | (with_reducible refine load_vec rfl _ rfl _ rfl _ hs.this ?_) | (with_reducible refine store_vec rfl _ _ rfl w.heap.size _ rfl rfl _ hR' ?_; intro wq hq))
   refine bodyPost_ret (results_vec_tmp rfl _ _ w.heap.size _ _ rfl rfl hq.this) rfl ⟨?_, (hs.kb.to_below kZ (by omega)).trans (hq.below.mono (by omega))⟩
   rw [bit_all]; rfl
set_option maxRecDepth 100000 in
set_option maxHeartbeats 2000000 in
theorem bits_82o (a b c : Vec) (w : World) (B cap off : Nat) (hlt : B < w.heap.size) (hA : w.rangeAt B off (cells a).toList) (hB : w.rangeAt B (off + 16) (cells b).toList) (hC : w.rangeAt B (off + 32) (cells c).toList) :
  Calls Tryz.prog 85 #[.int .i64 64850, .slice (some ⟨B, off, none⟩) 3 cap] w fun e w' => e = .returned (.tuple #[.agg (cells (bitV 82 a b c)), .int .i64 0]) ∧ Below w.heap.size w w' := by
 have HA := Lib.hid hA
 have HB := Lib.hid hB
 have HC := Lib.hid hC
 clear hA hB hC
 have e0 : IntKind.i64.wrap 0 = 0 := IntWalk.i64_in _ (by decide)
 have e1 : IntKind.i64.wrap 1 = 1 := IntWalk.i64_in _ (by decide)
 have e2 : IntKind.i64.wrap 2 = 2 := IntWalk.i64_in _ (by decide)
 have hz : ∀ x, Below w.heap.size w (w.alloc x) := fun x => (Below.refl _ _).alloc (Nat.le_refl _) x
 go_enter Tryz.func85, Tryz.ntmps85
 go_wp2_with (first | (with_reducible refine load_at rfl _ rfl _ _ rfl _ (rangeAt_below HA.out hlt (hz _)) ?_) | (with_reducible refine store_vec rfl _ _ rfl (w.heap.size + 1) _ rfl rfl 0 (heap_zz w _ _) ?_; intro w1 g1))
 have z1 : Below w.heap.size w w1 := (((Below.refl w.heap.size w).alloc (Nat.le_refl _) _).alloc (by simp) _).trans (g1.below.mono (by omega))
 have hN : N2 w [(w.heap.size + 1, a), (w.heap.size, 0)] b (none, none, false) w1 := N2.start b z1 (by
  simp only [List.mem_cons, List.not_mem_nil, or_false, forall_eq_or_imp, forall_eq]
  exact ⟨g1.this, blk_sets (by rw [heap_alloc2_old, ← cells_zero]) g1 (by omega)⟩)
 clear g1 z1
 refine region_new2 w [(w.heap.size + 1, a), (w.heap.size, 0)] b 13 10 11 12 [0, 1, 2, 3, 4, 5, 6, 7, 8, 9] (by kernel_rfl) rfl rfl rfl rfl rfl rfl rfl rfl _ _ rfl (by decide) hN.drew ?_
 simp only [opsAt, List.getElem?_cons_zero, List.getElem?_cons_succ, List.drop_succ_cons, List.drop_zero]
 repeat (refine wpDA_pure (v := ?_) rfl (fun u => ?_) ?_; rotate_left; (focus (go_simp; (try with_reducible rfl); done)); simp only [Act.put, zqA, zqB, zqC])
 (refine do_loadM rfl _ rfl _ _ rfl _ (fun D u hS => rangeAt_below HB.out hlt hS.bel) ?_; simp only [Act.put, zqA, zqB, zqC])
 repeat (refine wpDA_pure (v := ?_) rfl (fun u => ?_) ?_; rotate_left; (focus (go_simp; (try with_reducible rfl); done)); simp only [Act.put, zqA, zqB, zqC])
 (refine do_loadM rfl _ rfl _ _ rfl _ (fun D u hS => rangeAt_below HC.out hlt hS.bel) ?_; simp only [Act.put, zqA, zqB, zqC])
 repeat (refine wpDA_pure (v := ?_) rfl (fun u => ?_) ?_; rotate_left; (focus (go_simp; (try with_reducible rfl); done)); simp only [Act.put, zqA, zqB, zqC])
 refine wpDA_nil (fun x y => ⟨rfl, rfl, fun wx hx => ?_⟩)
 clear hN
 obtain ⟨hb1, hb2, hb3⟩ := hx.nb x rfl
 obtain ⟨hc1, hc2, hc3⟩ := hx.nc y rfl
 have hbc := hx.ne x y rfl rfl
 have hA1 := hx.hold (w.heap.size + 1, a) (by simp)
 have hR1 := hx.hold (w.heap.size, 0) (by simp)
 have hZ := hx.bel
 have na := hb3 (w.heap.size + 1, a) (by simp)
 have ma := hc3 (w.heap.size + 1, a) (by simp)
 have nr := hb3 (w.heap.size, 0) (by simp)
 have mr := hc3 (w.heap.size, 0) (by simp)
 clear hx hb3 hc3
 unfold ptr
 simp only [Act.put, zqA, zqB, zqC]
 go_wp2_with (first | (with_reducible refine store_vec rfl _ _ rfl y _ rfl rfl 0 hc1 ?_; intro w2 g2) | (with_reducible refine load_vec rfl _ rfl _ rfl _ (blk_sets hA1 g2 ma) ?_))
 have kA := blk_sets hA1 g2 ma
 have kR := blk_sets hR1 g2 mr
 have kB := blk_sets hb1 g2 hbc
 have kC := g2.this
 have kZ := hZ.trans (g2.below.mono hc2)
 clear g2 hc1 hb1 hA1 hR1 hZ mr hbc hc2 hb2 hz
 obtain ⟨W, hW⟩ : ∃ W, W = w2 := ⟨_, rfl⟩
 rw [← hW] at kA kR kB kC kZ ⊢
 clear hW w2
 simp only [cond_true] at kB
 go_loopw [48] (fun j wr => ∃ i : Nat, i ≤ 16 ∧ j = .int .i64 i ∧ St W (w.heap.size + 1) (buildOn a 8 (bitF 82 a b c) i) wr) (fun j _ => 16 - (intOf j).toNat)
 case atStart => exact ⟨0, Nat.zero_le _, rfl, St.start kA⟩
 case round =>
  obtain ⟨i, hi, rfl, hs⟩ := hrel
  by_cases hli : i < 16
  ·have cB : wr.cell? ⟨x, i, none⟩ = some (.int .u8 ((getN b 8 i : Nat) : Int)) := by
    have := hs.kb.get kB (by omega)
    rw [cell_of_row wr x i _ _ _ this, getElem?_cells _ _ (by omega)]; rfl
   have cC : wr.cell? ⟨y, i, none⟩ = some (.int .u8 ((getN c 8 i : Nat) : Int)) := by
    have := hs.kb.get kC (by omega)
    rw [cell_of_row wr y i _ _ _ this, getElem?_cells _ _ (by omega)]; rfl
   have cI := index_vec a i hli
   have zb := zb_82 a b c i hli
   have cO : wr.cell? ⟨w.heap.size + 1, i, none⟩ = some (byteV (buildOn a 8 (bitF 82 a b c) i) i) := by
    rw [cell_of_row wr _ i _ _ _ hs.this, getElem?_cells _ _ hli]
   have fO := frozen_of_row wr (w.heap.size + 1) i _ _ hs.this
   have hn := (hs.sets (sets_setCell i (bitF 82 a b c i) hli hs.this)).drew
   go_wp2_with fail
   go_region
   go_wp2_with fail
   go_roundw
   case rel => first | exact ⟨i + 1, by omega, by go_num, hn⟩ | ((repeat apply Exists.intro); exact ⟨⟨i + 1, by omega, by go_num, hn⟩, rfl⟩)
   case measure => (simp [intOf] <;> omega)
  ·obtain rfl : i = 16 := by omega
   have hR' := hs.kb.get kR (by omega)
   go_wp2_with (first | (with_reducible refine load_vec rfl _ rfl _ rfl _ hs.this ?_) | (with_reducible refine store_vec rfl _ _ rfl w.heap.size _ rfl rfl _ hR' ?_; intro wq hq))
   refine bodyPost_ret (results_vec_tmp rfl _ _ w.heap.size _ _ rfl rfl hq.this) rfl ⟨?_, (hs.kb.to_below kZ (by omega)).trans (hq.below.mono (by omega))⟩
   rw [bit_all]; rfl
end Go.Proofs.YtebpijlmeemfaaaGreatDoor
end
section
namespace Go.Proofs.YtebpijlmeemfaaaGreatDoor
open Go.RowKit Pl
theorem sub_op (op : Int) (ho : -9223372036854775808 ≤ op ∧ op ≤ 9223372036854775807) : ∃ K : Int, IntKind.i64.wrap (op - 64768) = K ∧ (77 ≤ K ∧ K ≤ 82 → op = 64768 + K) ∧ (-9223372036854775808 ≤ K ∧ K ≤ 9223372036854775807) := by
 refine ⟨_, rfl, fun hb => ?_, ?_⟩
 ·rw [IntKind.wrap_i64] at hb ⊢; omega
 ·rw [IntKind.wrap_i64]; omega
set_option maxRecDepth 100000 in
set_option maxHeartbeats 2000000 in
theorem bits_no (op : Int) (ad : Option Addr) (m cap : Nat) (w : World) (ho : -9223372036854775808 ≤ op ∧ op ≤ 9223372036854775807) (hm : m ≤ 9223372036854775807)
  (h : ¬ (op = 64845 ∧ m = 1 ∨ 64846 ≤ op ∧ op ≤ 64849 ∧ m = 2 ∨ op = 64850 ∧ m = 3)) :
  Calls Tryz.prog 85 #[.int .i64 op, .slice ad m cap] w fun e w' => e = .returned (.tuple #[.agg (cells 0), .int .i64 1]) ∧ Below w.heap.size w w' := by
 obtain ⟨K, hK, hw, hKb⟩ := sub_op op ho
 have hx : ∀ x, Below w.heap.size w (w.alloc x) := fun x => (Below.refl _ _).alloc (Nat.le_refl _) x
 by_cases h1 : K < 77
 ·have q0 : (K == 77) = false := beq_eq_false_iff_ne.2 (by omega)
  have q1 : (K == 82) = false := beq_eq_false_iff_ne.2 (by omega)
  clear ho hw h
  go_enter Tryz.func85, Tryz.ntmps85
  go_wp2_with fail
  rw [← cells_zero]
  refine bodyPost_ret (results_vec_tmp rfl _ _ w.heap.size 0 _ rfl rfl (heap_alloc_new _ _)) rfl ⟨rfl, hx _⟩
 ·by_cases h2 : 82 < K
  ·have q0 : (K == 77) = false := beq_eq_false_iff_ne.2 (by omega)
   have q1 : (K == 82) = false := beq_eq_false_iff_ne.2 (by omega)
   clear ho hw h
   go_enter Tryz.func85, Tryz.ntmps85
   go_wp2_with fail
   rw [← cells_zero]
   refine bodyPost_ret (results_vec_tmp rfl _ _ w.heap.size 0 _ rfl rfl (heap_alloc_new _ _)) rfl ⟨rfl, hx _⟩
  ·have hop := hw (by omega)
   clear hw hKb ho
   rcases (show K = 77 ∨ K = 78 ∨ K = 79 ∨ K = 80 ∨ K = 81 ∨ K = 82 by omega) with rfl | rfl | rfl | rfl | rfl | rfl
   ·have hq : ((m : Int) != 1) = true := bne_iff_ne.2 (by omega)
    clear h hop
    go_enter Tryz.func85, Tryz.ntmps85
    go_wp2_with fail
    rw [← cells_zero]
    refine bodyPost_ret (results_vec_tmp rfl _ _ w.heap.size 0 _ rfl rfl (heap_alloc_new _ _)) rfl ⟨rfl, hx _⟩
   ·have hq : ((m : Int) != 2) = true := bne_iff_ne.2 (by omega)
    clear h hop
    go_enter Tryz.func85, Tryz.ntmps85
    go_wp2_with fail
    rw [← cells_zero]
    refine bodyPost_ret (results_vec_tmp rfl _ _ w.heap.size 0 _ rfl rfl (heap_alloc_new _ _)) rfl ⟨rfl, hx _⟩
   ·have hq : ((m : Int) != 2) = true := bne_iff_ne.2 (by omega)
    clear h hop
    go_enter Tryz.func85, Tryz.ntmps85
    go_wp2_with fail
    rw [← cells_zero]
    refine bodyPost_ret (results_vec_tmp rfl _ _ w.heap.size 0 _ rfl rfl (heap_alloc_new _ _)) rfl ⟨rfl, hx _⟩
   ·have hq : ((m : Int) != 2) = true := bne_iff_ne.2 (by omega)
    clear h hop
    go_enter Tryz.func85, Tryz.ntmps85
    go_wp2_with fail
    rw [← cells_zero]
    refine bodyPost_ret (results_vec_tmp rfl _ _ w.heap.size 0 _ rfl rfl (heap_alloc_new _ _)) rfl ⟨rfl, hx _⟩
   ·have hq : ((m : Int) != 2) = true := bne_iff_ne.2 (by omega)
    clear h hop
    go_enter Tryz.func85, Tryz.ntmps85
    go_wp2_with fail
    rw [← cells_zero]
    refine bodyPost_ret (results_vec_tmp rfl _ _ w.heap.size 0 _ rfl rfl (heap_alloc_new _ _)) rfl ⟨rfl, hx _⟩
   ·have hq : ((m : Int) != 3) = true := bne_iff_ne.2 (by omega)
    clear h hop
    go_enter Tryz.func85, Tryz.ntmps85
    go_wp2_with fail
    rw [← cells_zero]
    refine bodyPost_ret (results_vec_tmp rfl _ _ w.heap.size 0 _ rfl rfl (heap_alloc_new _ _)) rfl ⟨rfl, hx _⟩
end Go.Proofs.YtebpijlmeemfaaaGreatDoor
end
section
namespace Go.Proofs.YtebpijlmeemfaaaGreatDoor
open Go.RowKit Pl
def stepS (q : Nat) (i : Nat) (D D' : Bool) : Prop := i = q ∧ D = false ∧ D' = true
def checkS (ops : Array Oper) (n q : Nat) (order : List Nat) : Bool :=
 checkA ops n [q] order && decide (q < n) && (Region.ready .any ops (marks (Array.replicate ops.size false) order) == [q]) &&
 Region.seqB .any ops (ops.size - n) n ((marks (Array.replicate ops.size false) order).setIfInBounds q true)
abbrev S1 (W : World) (O : Nat) (X : Vec) (D : Bool) (u : World) : Prop := St W O (bif D then X else 0) u
theorem region_set1 {id : Nat} {Q : Exit → Act → World → Prop} {a : Act} {w : World} {l : List Oper} (W : World) (O : Nat) (X : Vec) (n q : Nat) (order : List Nat) (hB : checkS l.toArray n q order = true)
  {oq : Oper} (hoq : l[q]? = some oq) (hqn : oq.guard = none) (xo yo : Operand) (hqo : oq.op = .store 23 xo yo) (hS : St W O 0 w.drew)
  (h : wpDA Tryz.prog l.toArray (S1 W O X) (fun a' => a'.eval xo = ptr O ∧ a'.eval yo = .agg (cells X) ∧ ∀ w', St W O X w' → wpList Tryz.prog l.toArray Q (l.drop n) (a'.put oq.dst undef) w') (opsAt l order) a) : (Code.region id l.toArray true).wp Tryz.prog Q a w := by
 simp only [checkS, Bool.and_eq_true, decide_eq_true_eq, beq_iff_eq] at hB
 obtain ⟨⟨⟨hA, hq⟩, hr1⟩, hsq⟩ := hB
 refine region_news (S1 W O X) (stepS q) (fun _ _ => undef) false n [q] order (by kernel_rfl) hA hS ?_
 have mono : ∀ (os : List Oper) (a : Act) (K K' : Act → Prop), (∀ a, K a → K' a) → wpDA Tryz.prog l.toArray (S1 W O X) K os a → wpDA Tryz.prog l.toArray (S1 W O X) K' os a := by
  intro os
  induction os with
  | nil => intro a K K' hk h; exact hk _ h
  | cons o os ih => intro a K K' hk ⟨v, h1, h2⟩; exact ⟨v, h1, ih _ _ _ hk h2⟩
 refine mono _ _ _ _ (fun a' h' => ?_) h
 obtain ⟨hx, hy, hk⟩ := h'
 refine special_one q hr1 hq (by simp) (by simpa using hoq) ⟨by unfold Region.wanted; rw [hqn], fun w hw => ?_⟩ (fun D' hD => ?_)
 ·obtain ⟨w1, h1, h2⟩ := store_run xo yo hqo O X 0 hx hy hw.this
  exact ⟨true, w1, ⟨rfl, rfl, rfl⟩, hw.sets h1, .inr ⟨h2, rfl⟩⟩
 ·obtain ⟨_, _, rfl⟩ := hD
  exact ⟨hsq, hk⟩
theorem run_ldc {o : Oper} {a : Act} {w : World} (T : TypeId) (ha : ∀ w, (isAgg T).run Tryz.prog w = .ok false w) (x : Operand) (ho : o.op = .load T x) (g j : Nat) (hx : a.eval x = .pointer (some ⟨g, j, none⟩)) (z : Value) (h : w.cell? ⟨g, j, none⟩ = some z) :
  (execOp a.eval o).run Tryz.prog w = .ok (.value z) w := by
 have ha := ha w
 unfold execOp
 simp only [ho, hx, Instr.loadAt, Instr.sureAddr, Sem.run_bind, Sem.run_pure, Result.andThen_ok]
 simp [loadVar, Sem.run_bind, ha, h, go_sem]
theorem run_lvm {o : Oper} {a : Act} {w : World} (x : Operand) (ho : o.op = .load 23 x) (b O : Nat) (hx : a.eval x = .pointer (some ⟨b, O, none⟩)) (v : Vec) (h : w.rangeAt b O (cells v).toList) :
  (execOp a.eval o).run Tryz.prog w = .ok (.value (.agg (cells v))) w := by
 unfold execOp
 simp only [ho, hx, Instr.loadAt, Instr.sureAddr, Sem.run_bind, Sem.run_pure, Result.andThen_ok, run_loadVar_mid w b O 23 _ _ h vunder rfl (vsize v)]
theorem run_ixv {o : Oper} {a : Act} {w : World} (x i : Operand) (ho : o.op = .indexAddr 89 x i) (b n c : Nat) (hx : a.eval x = .slice (some ⟨b, 0, none⟩) n c) (k : Nat) (hi : a.eval i = .int .i64 (k : Int)) (hk : k < n) :
  (execOp a.eval o).run Tryz.prog w = .ok (.value (.pointer (some ⟨b, 16 * k, none⟩))) w := by
 have hs : ∀ u, (sizeOf (Tryz.prog.elem 89)).run Tryz.prog u = .ok 16 u := fun u => by kernel_rfl
 have hu : Tryz.prog.underlying 89 = some (.slice (Tryz.prog.elem 89)) := by kernel_rfl
 have h2 : (0 ≤ (k : Int) ∧ (k : Int) < (n : Int)) := by omega
 unfold execOp
 simp only [ho, hx, hi, Sem.run_bind, run_indexAt_slice (h := hu)]
 rw [if_pos h2, hs]
 simp [Go.Addr.add_mid, go_sem, Nat.mul_comm]
set_option maxRecDepth 100000 in
theorem iunder2 : ∃ fs, Tryz.prog.underlying 36 = some (.struct fs) := ⟨_, rfl⟩
theorem isize2 (a b c d e f : Value) : (Tryz.prog.info? 36).map (·.size) = some ([a, b, c, d, e, f] : List Value).length := by kernel_rfl
theorem run_lin {o : Oper} {a : Act} {w : World} (x : Operand) (ho : o.op = .load 36 x) (b : Nat) (hx : a.eval x = .pointer (some ⟨b, 0, none⟩)) (a0 a1 a2 a3 a4 a5 : Value) (h : w.heap[b]? = some (.cells #[a0, a1, a2, a3, a4, a5] 36 (0, 0))) :
  (execOp a.eval o).run Tryz.prog w = .ok (.value (.agg #[a0, a1, a2, a3, a4, a5])) w := by
 obtain ⟨fs, hf⟩ := iunder2
 have hr : w.rangeAt b 0 [a0, a1, a2, a3, a4, a5] := fun j v hj => by simp only [World.cell?, h, Nat.zero_add]; simpa using hj
 unfold execOp
 simp only [ho, hx, Instr.loadAt, Instr.sureAddr, Sem.run_bind, Sem.run_pure, Result.andThen_ok, run_loadVar_mid w b 0 36 _ _ hr hf rfl (isize2 _ _ _ _ _ _)]
structure VSl (w : World) (v : Value) (l : List Vec) : Prop where
 ex : ∃ g c, v = .slice (some ⟨g, 0, none⟩) l.length c ∧ g < w.heap.size ∧ ∀ i x, l[i]? = some x → w.rangeAt g (16 * i) (cells x).toList
theorem vcells_at (l : List Vec) (i : Nat) (x : Vec) (hx : l[i]? = some x) (j : Nat) (y : Value) (hy : (cells x).toList[j]? = some y) : (vcells l)[16 * i + j]? = some y := by
 induction l generalizing i with
 | nil => cases hx
 | cons z l ih =>
  unfold vcells
  rw [List.flatMap_cons]
  have hz : (cells z).toList.length = 16 := by simp
  cases i with
  | zero =>
   injection hx with hx
   subst hx
   rw [List.getElem?_append_left (by have := (List.getElem?_eq_some_iff.1 hy).1; omega)]
   simpa using hy
  | succ i =>
   rw [List.getElem?_append_right (by omega), hz, show 16 * (i + 1) + j - 16 = 16 * i + j by omega]
   exact ih i hx
theorem VSl.of_own {w : World} {B : Nat} {v : Value} {l : List Vec} (h : w.ownsRow B 23 16 v l.length (vcells l)) (h0 : 0 < l.length) : VSl w v l := by
 rcases h.2 with ⟨_, h1⟩ | ⟨g, cap, cur, rfl, _, hg, hn, _, hs, ht⟩
 ·omega
 ·refine ⟨g, cap, rfl, block_lt hg, fun i x hx j y hy => ?_⟩
  have h3 := vcells_at l i x hx j y hy
  have hlt := (List.getElem?_eq_some_iff.1 h3).1
  rw [length_vcells] at hlt
  rw [← ht, List.getElem?_take, if_pos hlt] at h3
  rw [cell_of_row w g _ _ _ _ hg]
  simpa using h3
theorem VSl.below {w w1 : World} {v : Value} {l : List Vec} (h : VSl w v l) (hb : Below w.heap.size w w1) : VSl w1 v l := by
 obtain ⟨g, c, e, hlt, hx⟩ := h.ex
 exact ⟨g, c, e, Nat.lt_of_lt_of_le hlt hb.size, fun i x hi j y hy => by
  have := hx i x hi j y hy
  unfold World.cell? at this ⊢
  rw [hb.block g hlt]
  exact this⟩
end Go.Proofs.YtebpijlmeemfaaaGreatDoor
namespace Pl
open Go
def bitsL (op : Int) (l : List Vec) : Vec × Int :=
 match l with
 | [a] => if op = 64845 then (bitV 77 a a a, 0) else (0, 1)
 | [a, b] => if op = 64846 then (bitV 78 a b b, 0) else if op = 64847 then (bitV 79 a b b, 0) else if op = 64848 then (bitV 80 a b b, 0) else if op = 64849 then (bitV 81 a b b, 0) else (0, 1)
 | [a, b, c] => if op = 64850 then (bitV 82 a b c, 0) else (0, 1)
 | _ => (0, 1)
end Pl
namespace Go.Proofs.YtebpijlmeemfaaaGreatDoor
open Go.RowKit Pl
theorem bits_p (op : Int) (v : Value) (l : List Vec) (w : World) (ho : -9223372036854775808 ≤ op ∧ op ≤ 9223372036854775807) (hv : VSl w v l) (hl : l.length ≤ 9223372036854775807) :
  Calls Tryz.prog 85 #[.int .i64 op, v] w fun e w' => e = .returned (.tuple #[.agg (cells (bitsL op l).1), .int .i64 (bitsL op l).2]) ∧ Below w.heap.size w w' := by
 obtain ⟨g, c, rfl, hlt, hx⟩ := hv.ex
 match l, hx with
 | [], hx => exact bits_no op _ _ _ w ho hl (by simp)
 | [a], hx =>
  have h0 := hx 0 a rfl
  unfold bitsL
  by_cases h : op = 64845
  ·subst h; exact bits_77o a a a w g c 0 hlt h0 h0 h0
  ·simp only [h, if_false]
   exact bits_no op _ _ _ w ho hl (by simp; omega)
 | [a, b], hx =>
  have h0 := hx 0 a rfl
  have h1 := hx 1 b rfl
  unfold bitsL
  by_cases h : op = 64846
  ·subst h; exact bits_78o a b b w g c 0 hlt h0 h1 h1
  ·by_cases h2 : op = 64847
   ·subst h2; exact bits_79o a b b w g c 0 hlt h0 h1 h1
   ·by_cases h3 : op = 64848
    ·subst h3; exact bits_80o a b b w g c 0 hlt h0 h1 h1
    ·by_cases h4 : op = 64849
     ·subst h4; exact bits_81o a b b w g c 0 hlt h0 h1 h1
     ·simp only [h, h2, h3, h4, if_false]
      exact bits_no op _ _ _ w ho hl (by simp; omega)
 | [a, b, d], hx =>
  have h0 := hx 0 a rfl
  have h1 := hx 1 b rfl
  have h2 := hx 2 d rfl
  unfold bitsL
  by_cases h : op = 64850
  ·subst h; exact bits_82o a b d w g c 0 hlt h0 h1 h2
  ·simp only [h, if_false]
   exact bits_no op _ _ _ w ho hl (by simp; omega)
 | _ :: _ :: _ :: _ :: r, hx => exact bits_no op _ _ _ w ho hl (by simp)
end Go.Proofs.YtebpijlmeemfaaaGreatDoor
end
