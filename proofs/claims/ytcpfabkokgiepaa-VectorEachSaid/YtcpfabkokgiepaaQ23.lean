/-
  Texts CmpBo, WidRBR1, WidRBR2.
-/
import Derived.Test.YtcpfabkokgiepaaQ02
import Derived.Test.YtcpfabkokgiepaaQ07
import Derived.Test.YtcpfabkokgiepaaQ22
set_option linter.unusedSimpArgs false
set_option linter.unusedVariables false
set_option maxHeartbeats 8000000
open Pl
section
namespace Go.Proofs.Ytcpfabkokgiepaa
open Go.RowKit Pl
set_option maxRecDepth 100000 in
theorem bits_77o (a b c : Vec) (w : World) (B cap off : Nat) (hlt : B < w.heap.size) (hA : w.rangeAt B off (mY a).toList) (hB : w.rangeAt B off (mY b).toList) (hC : w.rangeAt B off (mY c).toList) :
 Calls Try.prog 19 #[.int .i64 64845, .slice (some ⟨B, off, none⟩) 1 cap] w fun e w' => e = .returned (.tuple #[.agg (mY (uP 77 a b c)), .int .i64 0]) ∧ Below w.heap.size w w' := by
 have HA := Lib.hid hA
 have HB := Lib.hid hB
 have HC := Lib.hid hC
 clear hA hB hC
 have e0 : IntKind.i64.wrap 0 = 0 := IntWalk.i64_in _ (by decide)
 have e1 : IntKind.i64.wrap 1 = 1 := IntWalk.i64_in _ (by decide)
 have e2 : IntKind.i64.wrap 2 = 2 := IntWalk.i64_in _ (by decide)
 have hz : ∀ x, Below w.heap.size w (w.alloc x) := fun x => (Below.refl _ _).alloc (Nat.le_refl _) x
 go_enter Try.func19, Try.ntmps19
 go_wp2_with (first | (with_reducible refine vZ rfl _ rfl _ _ rfl _ (mD HA.out hlt (hz _)) ?_) | (with_reducible refine mK rfl _ _ rfl (w.heap.size + 1) _ rfl rfl 0 (sD w _ _) ?_; intro w1 g1))
 have z1 : Below w.heap.size w w1 := (((Below.refl w.heap.size w).alloc (Nat.le_refl _) _).alloc (by simp) _).trans (g1.below.mono (by omega))
 have hN : N2 w [(w.heap.size + 1, a), (w.heap.size, 0)] b (none, none, false) w1 := N2.start b z1 (by
  simp only [List.mem_cons, List.not_mem_nil, or_false, forall_eq_or_imp, forall_eq]
  exact ⟨g1.this, mR (by rw [heap_alloc2_old, ← mU]) g1 (by omega)⟩)
 clear g1 z1
 refine uZ w [(w.heap.size + 1, a), (w.heap.size, 0)] b 13 10 11 12 [0, 1, 2, 3, 4, 5, 6, 7, 8, 9] (by kernel_rfl) rfl rfl rfl rfl rfl rfl rfl rfl _ _ rfl (by decide) hN.drew ?_
 simp only [vW, List.getElem?_cons_zero, List.getElem?_cons_succ, List.drop_succ_cons, List.drop_zero]
 repeat (refine zX ?_)
 (refine zG rfl _ rfl _ _ rfl _ (fun D u hS => mD HB.out hlt hS.bel) ?_)
 repeat (refine zX ?_)
 (refine zG rfl _ rfl _ _ rfl _ (fun D u hS => mD HC.out hlt hS.bel) ?_)
 repeat (refine zX ?_)
 refine pG (fun x y => ⟨rfl, rfl, fun wx hx => ?_⟩)
 clear hN
 obtain ⟨hb1, hb2, hb3⟩ := hx.nb x rfl
 obtain ⟨hc1, hc2, hc3⟩ := hx.nc y rfl
 have hbc := hx.ne x y rfl rfl
 have hA1 := hx.hold (w.heap.size + 1, a) (by simp)
 have hR1 := hx.hold (w.heap.size, 0) (by simp)
 have hZ := hx.bel
 have na := hb3 (w.heap.size + 1, a) (by simp)
 have ma := hc3 (w.heap.size + 1, a) (by simp)
 have nr := hb3 (w.heap.size, 0) (by simp)
 have mr := hc3 (w.heap.size, 0) (by simp)
 clear hx hb3 hc3
 unfold ptr
 simp only [Act.put, z5, z6, z7]
 go_wp2_with (first | (with_reducible refine mK rfl _ _ rfl y _ rfl rfl 0 hc1 ?_; intro w2 g2) | (with_reducible refine mG rfl _ rfl _ rfl _ (mR hA1 g2 ma) ?_))
 have kA := mR hA1 g2 ma
 have kR := mR hR1 g2 mr
 have kB := mR hb1 g2 hbc
 have kC := g2.this
 have kZ := hZ.trans (g2.below.mono hc2)
 clear g2 hc1 hb1 hA1 hR1 hZ mr hbc hc2 hb2 hz
 obtain ⟨W, hW⟩ : ∃ W, W = w2 := ⟨_, rfl⟩
 rw [← hW] at kA kR kB kC kZ ⊢
 clear hW w2
 simp only [cond_true] at kB
 go_loopw [48] (fun j wr => ∃ i : Nat, i ≤ 16 ∧ j = .int .i64 i ∧ St W (w.heap.size + 1) (mJ a 8 (eW 77 a b c) i) wr) (fun j _ => 16 - (intOf j).toNat)
 case atStart => exact j3
 case round =>
  obtain ⟨i, hi, rfl, hs⟩ := hrel
  by_cases hli : i < 16
  ·have cB : wr.cell? ⟨x, i, none⟩ = some (.int .u8 ((mT b 8 i : Nat) : Int)) := qK
   have cC : wr.cell? ⟨y, i, none⟩ = some (.int .u8 ((mT c 8 i : Nat) : Int)) := qJ
   have cI := hG a i hli
   go_wp2_with (refine mP rfl _ _ rfl (w.heap.size + 1) i _ (eW 77 a b c i) rfl rfl _ hs.this hli (zb_77 a b c i hli) ?_; intro wy hy)
   go_roundw
   case rel => exact yN
   case measure => exact xL
  ·exact y7
set_option maxRecDepth 100000 in
theorem bits_78o (a b c : Vec) (w : World) (B cap off : Nat) (hlt : B < w.heap.size) (hA : w.rangeAt B off (mY a).toList) (hB : w.rangeAt B (off + 16) (mY b).toList) (hC : w.rangeAt B (off + 16) (mY c).toList) :
 Calls Try.prog 19 #[.int .i64 64846, .slice (some ⟨B, off, none⟩) 2 cap] w fun e w' => e = .returned (.tuple #[.agg (mY (uP 78 a b c)), .int .i64 0]) ∧ Below w.heap.size w w' := by
 have HA := Lib.hid hA
 have HB := Lib.hid hB
 have HC := Lib.hid hC
 clear hA hB hC
 have e0 : IntKind.i64.wrap 0 = 0 := IntWalk.i64_in _ (by decide)
 have e1 : IntKind.i64.wrap 1 = 1 := IntWalk.i64_in _ (by decide)
 have e2 : IntKind.i64.wrap 2 = 2 := IntWalk.i64_in _ (by decide)
 have hz : ∀ x, Below w.heap.size w (w.alloc x) := fun x => (Below.refl _ _).alloc (Nat.le_refl _) x
 go_enter Try.func19, Try.ntmps19
 go_wp2_with (first | (with_reducible refine vZ rfl _ rfl _ _ rfl _ (mD HA.out hlt (hz _)) ?_) | (with_reducible refine mK rfl _ _ rfl (w.heap.size + 1) _ rfl rfl 0 (sD w _ _) ?_; intro w1 g1))
 have z1 : Below w.heap.size w w1 := (((Below.refl w.heap.size w).alloc (Nat.le_refl _) _).alloc (by simp) _).trans (g1.below.mono (by omega))
 have hN : N2 w [(w.heap.size + 1, a), (w.heap.size, 0)] b (none, none, false) w1 := N2.start b z1 (by
  simp only [List.mem_cons, List.not_mem_nil, or_false, forall_eq_or_imp, forall_eq]
  exact ⟨g1.this, mR (by rw [heap_alloc2_old, ← mU]) g1 (by omega)⟩)
 clear g1 z1
 refine uZ w [(w.heap.size + 1, a), (w.heap.size, 0)] b 13 10 11 12 [0, 1, 2, 3, 4, 5, 6, 7, 8, 9] (by kernel_rfl) rfl rfl rfl rfl rfl rfl rfl rfl _ _ rfl (by decide) hN.drew ?_
 simp only [vW, List.getElem?_cons_zero, List.getElem?_cons_succ, List.drop_succ_cons, List.drop_zero]
 repeat (refine zX ?_)
 (refine zG rfl _ rfl _ _ rfl _ (fun D u hS => mD HB.out hlt hS.bel) ?_)
 repeat (refine zX ?_)
 (refine zG rfl _ rfl _ _ rfl _ (fun D u hS => mD HC.out hlt hS.bel) ?_)
 repeat (refine zX ?_)
 refine pG (fun x y => ⟨rfl, rfl, fun wx hx => ?_⟩)
 clear hN
 obtain ⟨hb1, hb2, hb3⟩ := hx.nb x rfl
 obtain ⟨hc1, hc2, hc3⟩ := hx.nc y rfl
 have hbc := hx.ne x y rfl rfl
 have hA1 := hx.hold (w.heap.size + 1, a) (by simp)
 have hR1 := hx.hold (w.heap.size, 0) (by simp)
 have hZ := hx.bel
 have na := hb3 (w.heap.size + 1, a) (by simp)
 have ma := hc3 (w.heap.size + 1, a) (by simp)
 have nr := hb3 (w.heap.size, 0) (by simp)
 have mr := hc3 (w.heap.size, 0) (by simp)
 clear hx hb3 hc3
 unfold ptr
 simp only [Act.put, z5, z6, z7]
 go_wp2_with (first | (with_reducible refine mK rfl _ _ rfl y _ rfl rfl 0 hc1 ?_; intro w2 g2) | (with_reducible refine mG rfl _ rfl _ rfl _ (mR hA1 g2 ma) ?_))
 have kA := mR hA1 g2 ma
 have kR := mR hR1 g2 mr
 have kB := mR hb1 g2 hbc
 have kC := g2.this
 have kZ := hZ.trans (g2.below.mono hc2)
 clear g2 hc1 hb1 hA1 hR1 hZ mr hbc hc2 hb2 hz
 obtain ⟨W, hW⟩ : ∃ W, W = w2 := ⟨_, rfl⟩
 rw [← hW] at kA kR kB kC kZ ⊢
 clear hW w2
 simp only [cond_true] at kB
 go_loopw [48] (fun j wr => ∃ i : Nat, i ≤ 16 ∧ j = .int .i64 i ∧ St W (w.heap.size + 1) (mJ a 8 (eW 78 a b c) i) wr) (fun j _ => 16 - (intOf j).toNat)
 case atStart => exact j3
 case round =>
  obtain ⟨i, hi, rfl, hs⟩ := hrel
  by_cases hli : i < 16
  ·have cB : wr.cell? ⟨x, i, none⟩ = some (.int .u8 ((mT b 8 i : Nat) : Int)) := qK
   have cC : wr.cell? ⟨y, i, none⟩ = some (.int .u8 ((mT c 8 i : Nat) : Int)) := qJ
   have cI := hG a i hli
   go_wp2_with (refine mP rfl _ _ rfl (w.heap.size + 1) i _ (eW 78 a b c i) rfl rfl _ hs.this hli (zb_78 a b c i hli) ?_; intro wy hy)
   go_roundw
   case rel => exact yN
   case measure => exact xL
  ·exact y7
set_option maxRecDepth 100000 in
theorem bits_79o (a b c : Vec) (w : World) (B cap off : Nat) (hlt : B < w.heap.size) (hA : w.rangeAt B off (mY a).toList) (hB : w.rangeAt B (off + 16) (mY b).toList) (hC : w.rangeAt B (off + 16) (mY c).toList) :
 Calls Try.prog 19 #[.int .i64 64847, .slice (some ⟨B, off, none⟩) 2 cap] w fun e w' => e = .returned (.tuple #[.agg (mY (uP 79 a b c)), .int .i64 0]) ∧ Below w.heap.size w w' := by
 have HA := Lib.hid hA
 have HB := Lib.hid hB
 have HC := Lib.hid hC
 clear hA hB hC
 have e0 : IntKind.i64.wrap 0 = 0 := IntWalk.i64_in _ (by decide)
 have e1 : IntKind.i64.wrap 1 = 1 := IntWalk.i64_in _ (by decide)
 have e2 : IntKind.i64.wrap 2 = 2 := IntWalk.i64_in _ (by decide)
 have hz : ∀ x, Below w.heap.size w (w.alloc x) := fun x => (Below.refl _ _).alloc (Nat.le_refl _) x
 go_enter Try.func19, Try.ntmps19
 go_wp2_with (first | (with_reducible refine vZ rfl _ rfl _ _ rfl _ (mD HA.out hlt (hz _)) ?_) | (with_reducible refine mK rfl _ _ rfl (w.heap.size + 1) _ rfl rfl 0 (sD w _ _) ?_; intro w1 g1))
 have z1 : Below w.heap.size w w1 := (((Below.refl w.heap.size w).alloc (Nat.le_refl _) _).alloc (by simp) _).trans (g1.below.mono (by omega))
 have hN : N2 w [(w.heap.size + 1, a), (w.heap.size, 0)] b (none, none, false) w1 := N2.start b z1 (by
  simp only [List.mem_cons, List.not_mem_nil, or_false, forall_eq_or_imp, forall_eq]
  exact ⟨g1.this, mR (by rw [heap_alloc2_old, ← mU]) g1 (by omega)⟩)
 clear g1 z1
 refine uZ w [(w.heap.size + 1, a), (w.heap.size, 0)] b 13 10 11 12 [0, 1, 2, 3, 4, 5, 6, 7, 8, 9] (by kernel_rfl) rfl rfl rfl rfl rfl rfl rfl rfl _ _ rfl (by decide) hN.drew ?_
 simp only [vW, List.getElem?_cons_zero, List.getElem?_cons_succ, List.drop_succ_cons, List.drop_zero]
 repeat (refine zX ?_)
 (refine zG rfl _ rfl _ _ rfl _ (fun D u hS => mD HB.out hlt hS.bel) ?_)
 repeat (refine zX ?_)
 (refine zG rfl _ rfl _ _ rfl _ (fun D u hS => mD HC.out hlt hS.bel) ?_)
 repeat (refine zX ?_)
 refine pG (fun x y => ⟨rfl, rfl, fun wx hx => ?_⟩)
 clear hN
 obtain ⟨hb1, hb2, hb3⟩ := hx.nb x rfl
 obtain ⟨hc1, hc2, hc3⟩ := hx.nc y rfl
 have hbc := hx.ne x y rfl rfl
 have hA1 := hx.hold (w.heap.size + 1, a) (by simp)
 have hR1 := hx.hold (w.heap.size, 0) (by simp)
 have hZ := hx.bel
 have na := hb3 (w.heap.size + 1, a) (by simp)
 have ma := hc3 (w.heap.size + 1, a) (by simp)
 have nr := hb3 (w.heap.size, 0) (by simp)
 have mr := hc3 (w.heap.size, 0) (by simp)
 clear hx hb3 hc3
 unfold ptr
 simp only [Act.put, z5, z6, z7]
 go_wp2_with (first | (with_reducible refine mK rfl _ _ rfl y _ rfl rfl 0 hc1 ?_; intro w2 g2) | (with_reducible refine mG rfl _ rfl _ rfl _ (mR hA1 g2 ma) ?_))
 have kA := mR hA1 g2 ma
 have kR := mR hR1 g2 mr
 have kB := mR hb1 g2 hbc
 have kC := g2.this
 have kZ := hZ.trans (g2.below.mono hc2)
 clear g2 hc1 hb1 hA1 hR1 hZ mr hbc hc2 hb2 hz
 obtain ⟨W, hW⟩ : ∃ W, W = w2 := ⟨_, rfl⟩
 rw [← hW] at kA kR kB kC kZ ⊢
 clear hW w2
 simp only [cond_true] at kB
 go_loopw [48] (fun j wr => ∃ i : Nat, i ≤ 16 ∧ j = .int .i64 i ∧ St W (w.heap.size + 1) (mJ a 8 (eW 79 a b c) i) wr) (fun j _ => 16 - (intOf j).toNat)
 case atStart => exact j3
 case round =>
  obtain ⟨i, hi, rfl, hs⟩ := hrel
  by_cases hli : i < 16
  ·have cB : wr.cell? ⟨x, i, none⟩ = some (.int .u8 ((mT b 8 i : Nat) : Int)) := qK
   have cC : wr.cell? ⟨y, i, none⟩ = some (.int .u8 ((mT c 8 i : Nat) : Int)) := qJ
   have cI := hG a i hli
   go_wp2_with (refine mP rfl _ _ rfl (w.heap.size + 1) i _ (eW 79 a b c i) rfl rfl _ hs.this hli (zb_79 a b c i hli) ?_; intro wy hy)
   go_roundw
   case rel => exact yN
   case measure => exact xL
  ·exact y7
set_option maxRecDepth 100000 in
theorem bits_80o (a b c : Vec) (w : World) (B cap off : Nat) (hlt : B < w.heap.size) (hA : w.rangeAt B off (mY a).toList) (hB : w.rangeAt B (off + 16) (mY b).toList) (hC : w.rangeAt B (off + 16) (mY c).toList) :
 Calls Try.prog 19 #[.int .i64 64848, .slice (some ⟨B, off, none⟩) 2 cap] w fun e w' => e = .returned (.tuple #[.agg (mY (uP 80 a b c)), .int .i64 0]) ∧ Below w.heap.size w w' := by
 have HA := Lib.hid hA
 have HB := Lib.hid hB
 have HC := Lib.hid hC
 clear hA hB hC
 have e0 : IntKind.i64.wrap 0 = 0 := IntWalk.i64_in _ (by decide)
 have e1 : IntKind.i64.wrap 1 = 1 := IntWalk.i64_in _ (by decide)
 have e2 : IntKind.i64.wrap 2 = 2 := IntWalk.i64_in _ (by decide)
 have hz : ∀ x, Below w.heap.size w (w.alloc x) := fun x => (Below.refl _ _).alloc (Nat.le_refl _) x
 go_enter Try.func19, Try.ntmps19
 go_wp2_with (first | (with_reducible refine vZ rfl _ rfl _ _ rfl _ (mD HA.out hlt (hz _)) ?_) | (with_reducible refine mK rfl _ _ rfl (w.heap.size + 1) _ rfl rfl 0 (sD w _ _) ?_; intro w1 g1))
 have z1 : Below w.heap.size w w1 := (((Below.refl w.heap.size w).alloc (Nat.le_refl _) _).alloc (by simp) _).trans (g1.below.mono (by omega))
 have hN : N2 w [(w.heap.size + 1, a), (w.heap.size, 0)] b (none, none, false) w1 := N2.start b z1 (by
  simp only [List.mem_cons, List.not_mem_nil, or_false, forall_eq_or_imp, forall_eq]
  exact ⟨g1.this, mR (by rw [heap_alloc2_old, ← mU]) g1 (by omega)⟩)
 clear g1 z1
 refine uZ w [(w.heap.size + 1, a), (w.heap.size, 0)] b 13 10 11 12 [0, 1, 2, 3, 4, 5, 6, 7, 8, 9] (by kernel_rfl) rfl rfl rfl rfl rfl rfl rfl rfl _ _ rfl (by decide) hN.drew ?_
 simp only [vW, List.getElem?_cons_zero, List.getElem?_cons_succ, List.drop_succ_cons, List.drop_zero]
 repeat (refine zX ?_)
 (refine zG rfl _ rfl _ _ rfl _ (fun D u hS => mD HB.out hlt hS.bel) ?_)
 repeat (refine zX ?_)
 (refine zG rfl _ rfl _ _ rfl _ (fun D u hS => mD HC.out hlt hS.bel) ?_)
 repeat (refine zX ?_)
 refine pG (fun x y => ⟨rfl, rfl, fun wx hx => ?_⟩)
 clear hN
 obtain ⟨hb1, hb2, hb3⟩ := hx.nb x rfl
 obtain ⟨hc1, hc2, hc3⟩ := hx.nc y rfl
 have hbc := hx.ne x y rfl rfl
 have hA1 := hx.hold (w.heap.size + 1, a) (by simp)
 have hR1 := hx.hold (w.heap.size, 0) (by simp)
 have hZ := hx.bel
 have na := hb3 (w.heap.size + 1, a) (by simp)
 have ma := hc3 (w.heap.size + 1, a) (by simp)
 have nr := hb3 (w.heap.size, 0) (by simp)
 have mr := hc3 (w.heap.size, 0) (by simp)
 clear hx hb3 hc3
 unfold ptr
 simp only [Act.put, z5, z6, z7]
 go_wp2_with (first | (with_reducible refine mK rfl _ _ rfl y _ rfl rfl 0 hc1 ?_; intro w2 g2) | (with_reducible refine mG rfl _ rfl _ rfl _ (mR hA1 g2 ma) ?_))
 have kA := mR hA1 g2 ma
 have kR := mR hR1 g2 mr
 have kB := mR hb1 g2 hbc
 have kC := g2.this
 have kZ := hZ.trans (g2.below.mono hc2)
 clear g2 hc1 hb1 hA1 hR1 hZ mr hbc hc2 hb2 hz
 obtain ⟨W, hW⟩ : ∃ W, W = w2 := ⟨_, rfl⟩
 rw [← hW] at kA kR kB kC kZ ⊢
 clear hW w2
 simp only [cond_true] at kB
 go_loopw [48] (fun j wr => ∃ i : Nat, i ≤ 16 ∧ j = .int .i64 i ∧ St W (w.heap.size + 1) (mJ a 8 (eW 80 a b c) i) wr) (fun j _ => 16 - (intOf j).toNat)
 case atStart => exact j3
 case round =>
  obtain ⟨i, hi, rfl, hs⟩ := hrel
  by_cases hli : i < 16
  ·have cB : wr.cell? ⟨x, i, none⟩ = some (.int .u8 ((mT b 8 i : Nat) : Int)) := qK
   have cC : wr.cell? ⟨y, i, none⟩ = some (.int .u8 ((mT c 8 i : Nat) : Int)) := qJ
   have cI := hG a i hli
   go_wp2_with (refine mP rfl _ _ rfl (w.heap.size + 1) i _ (eW 80 a b c i) rfl rfl _ hs.this hli (zb_80 a b c i hli) ?_; intro wy hy)
   go_roundw
   case rel => exact yN
   case measure => exact xL
  ·exact y7
set_option maxRecDepth 100000 in
theorem bits_81o (a b c : Vec) (w : World) (B cap off : Nat) (hlt : B < w.heap.size) (hA : w.rangeAt B off (mY a).toList) (hB : w.rangeAt B (off + 16) (mY b).toList) (hC : w.rangeAt B (off + 16) (mY c).toList) :
 Calls Try.prog 19 #[.int .i64 64849, .slice (some ⟨B, off, none⟩) 2 cap] w fun e w' => e = .returned (.tuple #[.agg (mY (uP 81 a b c)), .int .i64 0]) ∧ Below w.heap.size w w' := by
 have HA := Lib.hid hA
 have HB := Lib.hid hB
 have HC := Lib.hid hC
 clear hA hB hC
 have e0 : IntKind.i64.wrap 0 = 0 := IntWalk.i64_in _ (by decide)
 have e1 : IntKind.i64.wrap 1 = 1 := IntWalk.i64_in _ (by decide)
 have e2 : IntKind.i64.wrap 2 = 2 := IntWalk.i64_in _ (by decide)
 have hz : ∀ x, Below w.heap.size w (w.alloc x) := fun x => (Below.refl _ _).alloc (Nat.le_refl _) x
 go_enter Try.func19, Try.ntmps19
 go_wp2_with (first | (with_reducible refine vZ rfl _ rfl _ _ rfl _ (mD HA.out hlt (hz _)) ?_) | (with_reducible refine mK rfl _ _ rfl (w.heap.size + 1) _ rfl rfl 0 (sD w _ _) ?_; intro w1 g1))
 have z1 : Below w.heap.size w w1 := (((Below.refl w.heap.size w).alloc (Nat.le_refl _) _).alloc (by simp) _).trans (g1.below.mono (by omega))
 have hN : N2 w [(w.heap.size + 1, a), (w.heap.size, 0)] b (none, none, false) w1 := N2.start b z1 (by
  simp only [List.mem_cons, List.not_mem_nil, or_false, forall_eq_or_imp, forall_eq]
  exact ⟨g1.this, mR (by rw [heap_alloc2_old, ← mU]) g1 (by omega)⟩)
 clear g1 z1
 refine uZ w [(w.heap.size + 1, a), (w.heap.size, 0)] b 13 10 11 12 [0, 1, 2, 3, 4, 5, 6, 7, 8, 9] (by kernel_rfl) rfl rfl rfl rfl rfl rfl rfl rfl _ _ rfl (by decide) hN.drew ?_
 simp only [vW, List.getElem?_cons_zero, List.getElem?_cons_succ, List.drop_succ_cons, List.drop_zero]
 repeat (refine zX ?_)
 (refine zG rfl _ rfl _ _ rfl _ (fun D u hS => mD HB.out hlt hS.bel) ?_)
 repeat (refine zX ?_)
 (refine zG rfl _ rfl _ _ rfl _ (fun D u hS => mD HC.out hlt hS.bel) ?_)
 repeat (refine zX ?_)
 refine pG (fun x y => ⟨rfl, rfl, fun wx hx => ?_⟩)
 clear hN
 obtain ⟨hb1, hb2, hb3⟩ := hx.nb x rfl
 obtain ⟨hc1, hc2, hc3⟩ := hx.nc y rfl
 have hbc := hx.ne x y rfl rfl
 have hA1 := hx.hold (w.heap.size + 1, a) (by simp)
 have hR1 := hx.hold (w.heap.size, 0) (by simp)
 have hZ := hx.bel
 have na := hb3 (w.heap.size + 1, a) (by simp)
 have ma := hc3 (w.heap.size + 1, a) (by simp)
 have nr := hb3 (w.heap.size, 0) (by simp)
 have mr := hc3 (w.heap.size, 0) (by simp)
 clear hx hb3 hc3
 unfold ptr
 simp only [Act.put, z5, z6, z7]
 go_wp2_with (first | (with_reducible refine mK rfl _ _ rfl y _ rfl rfl 0 hc1 ?_; intro w2 g2) | (with_reducible refine mG rfl _ rfl _ rfl _ (mR hA1 g2 ma) ?_))
 have kA := mR hA1 g2 ma
 have kR := mR hR1 g2 mr
 have kB := mR hb1 g2 hbc
 have kC := g2.this
 have kZ := hZ.trans (g2.below.mono hc2)
 clear g2 hc1 hb1 hA1 hR1 hZ mr hbc hc2 hb2 hz
 obtain ⟨W, hW⟩ : ∃ W, W = w2 := ⟨_, rfl⟩
 rw [← hW] at kA kR kB kC kZ ⊢
 clear hW w2
 simp only [cond_true] at kB
 go_loopw [48] (fun j wr => ∃ i : Nat, i ≤ 16 ∧ j = .int .i64 i ∧ St W (w.heap.size + 1) (mJ a 8 (eW 81 a b c) i) wr) (fun j _ => 16 - (intOf j).toNat)
 case atStart => exact j3
 case round =>
  obtain ⟨i, hi, rfl, hs⟩ := hrel
  by_cases hli : i < 16
  ·have cB : wr.cell? ⟨x, i, none⟩ = some (.int .u8 ((mT b 8 i : Nat) : Int)) := qK
   have cC : wr.cell? ⟨y, i, none⟩ = some (.int .u8 ((mT c 8 i : Nat) : Int)) := qJ
   have cI := hG a i hli
   go_wp2_with (refine mP rfl _ _ rfl (w.heap.size + 1) i _ (eW 81 a b c i) rfl rfl _ hs.this hli (zb_81 a b c i hli) ?_; intro wy hy)
   go_roundw
   case rel => exact yN
   case measure => exact xL
  ·exact y7
set_option maxRecDepth 100000 in
theorem bits_82o (a b c : Vec) (w : World) (B cap off : Nat) (hlt : B < w.heap.size) (hA : w.rangeAt B off (mY a).toList) (hB : w.rangeAt B (off + 16) (mY b).toList) (hC : w.rangeAt B (off + 32) (mY c).toList) :
 Calls Try.prog 19 #[.int .i64 64850, .slice (some ⟨B, off, none⟩) 3 cap] w fun e w' => e = .returned (.tuple #[.agg (mY (uP 82 a b c)), .int .i64 0]) ∧ Below w.heap.size w w' := by
 have HA := Lib.hid hA
 have HB := Lib.hid hB
 have HC := Lib.hid hC
 clear hA hB hC
 have e0 : IntKind.i64.wrap 0 = 0 := IntWalk.i64_in _ (by decide)
 have e1 : IntKind.i64.wrap 1 = 1 := IntWalk.i64_in _ (by decide)
 have e2 : IntKind.i64.wrap 2 = 2 := IntWalk.i64_in _ (by decide)
 have hz : ∀ x, Below w.heap.size w (w.alloc x) := fun x => (Below.refl _ _).alloc (Nat.le_refl _) x
 go_enter Try.func19, Try.ntmps19
 go_wp2_with (first | (with_reducible refine vZ rfl _ rfl _ _ rfl _ (mD HA.out hlt (hz _)) ?_) | (with_reducible refine mK rfl _ _ rfl (w.heap.size + 1) _ rfl rfl 0 (sD w _ _) ?_; intro w1 g1))
 have z1 : Below w.heap.size w w1 := (((Below.refl w.heap.size w).alloc (Nat.le_refl _) _).alloc (by simp) _).trans (g1.below.mono (by omega))
 have hN : N2 w [(w.heap.size + 1, a), (w.heap.size, 0)] b (none, none, false) w1 := N2.start b z1 (by
  simp only [List.mem_cons, List.not_mem_nil, or_false, forall_eq_or_imp, forall_eq]
  exact ⟨g1.this, mR (by rw [heap_alloc2_old, ← mU]) g1 (by omega)⟩)
 clear g1 z1
 refine uZ w [(w.heap.size + 1, a), (w.heap.size, 0)] b 13 10 11 12 [0, 1, 2, 3, 4, 5, 6, 7, 8, 9] (by kernel_rfl) rfl rfl rfl rfl rfl rfl rfl rfl _ _ rfl (by decide) hN.drew ?_
 simp only [vW, List.getElem?_cons_zero, List.getElem?_cons_succ, List.drop_succ_cons, List.drop_zero]
 repeat (refine zX ?_)
 (refine zG rfl _ rfl _ _ rfl _ (fun D u hS => mD HB.out hlt hS.bel) ?_)
 repeat (refine zX ?_)
 (refine zG rfl _ rfl _ _ rfl _ (fun D u hS => mD HC.out hlt hS.bel) ?_)
 repeat (refine zX ?_)
 refine pG (fun x y => ⟨rfl, rfl, fun wx hx => ?_⟩)
 clear hN
 obtain ⟨hb1, hb2, hb3⟩ := hx.nb x rfl
 obtain ⟨hc1, hc2, hc3⟩ := hx.nc y rfl
 have hbc := hx.ne x y rfl rfl
 have hA1 := hx.hold (w.heap.size + 1, a) (by simp)
 have hR1 := hx.hold (w.heap.size, 0) (by simp)
 have hZ := hx.bel
 have na := hb3 (w.heap.size + 1, a) (by simp)
 have ma := hc3 (w.heap.size + 1, a) (by simp)
 have nr := hb3 (w.heap.size, 0) (by simp)
 have mr := hc3 (w.heap.size, 0) (by simp)
 clear hx hb3 hc3
 unfold ptr
 simp only [Act.put, z5, z6, z7]
 go_wp2_with (first | (with_reducible refine mK rfl _ _ rfl y _ rfl rfl 0 hc1 ?_; intro w2 g2) | (with_reducible refine mG rfl _ rfl _ rfl _ (mR hA1 g2 ma) ?_))
 have kA := mR hA1 g2 ma
 have kR := mR hR1 g2 mr
 have kB := mR hb1 g2 hbc
 have kC := g2.this
 have kZ := hZ.trans (g2.below.mono hc2)
 clear g2 hc1 hb1 hA1 hR1 hZ mr hbc hc2 hb2 hz
 obtain ⟨W, hW⟩ : ∃ W, W = w2 := ⟨_, rfl⟩
 rw [← hW] at kA kR kB kC kZ ⊢
 clear hW w2
 simp only [cond_true] at kB
 go_loopw [48] (fun j wr => ∃ i : Nat, i ≤ 16 ∧ j = .int .i64 i ∧ St W (w.heap.size + 1) (mJ a 8 (eW 82 a b c) i) wr) (fun j _ => 16 - (intOf j).toNat)
 case atStart => exact j3
 case round =>
  obtain ⟨i, hi, rfl, hs⟩ := hrel
  by_cases hli : i < 16
  ·have cB : wr.cell? ⟨x, i, none⟩ = some (.int .u8 ((mT b 8 i : Nat) : Int)) := qK
   have cC : wr.cell? ⟨y, i, none⟩ = some (.int .u8 ((mT c 8 i : Nat) : Int)) := qJ
   have cI := hG a i hli
   have zb := zb_82 a b c i hli
   have cO : wr.cell? ⟨w.heap.size + 1, i, none⟩ = some (sP (mJ a 8 (eW 82 a b c) i) i) := by
    rw [cell_of_row wr _ i _ _ _ hs.this, getElem?_cells _ _ hli]
   have fO := frozen_of_row wr (w.heap.size + 1) i _ _ hs.this
   have hn := (hs.sets (sets_setCell i (eW 82 a b c i) hli hs.this)).drew
   go_wp2_with fail
   go_region
   go_wp2_with fail
   go_roundw
   case rel => first | exact ⟨i + 1, by omega, by go_num, hn⟩ | ((repeat apply Exists.intro); exact ⟨⟨i + 1, by omega, by go_num, hn⟩, rfl⟩)
   case measure => exact xL
  ·exact y7
end Go.Proofs.Ytcpfabkokgiepaa
end
section
namespace Go.Proofs.Ytcpfabkokgiepaa
open Go.RowKit Pl
set_option maxRecDepth 100000 in
theorem rbin_row8_1 (a b : Vec) (w : World) :
 Calls Try.prog 81 #[.int .i64 64925, .agg (mY a), .agg (mY b)] w fun e w' => e = .returned (.tuple #[.agg (mY (mJ 0 16 (tK 16 ((unW 64904 a).1) ((unW 64904 b).1)) 8)), .int .i64 0]) ∧ Below w.heap.size w w' := by
 go_enter Try.func81, Try.ntmps81
 go_wp2_with fail
 rw [← mU]
 obtain ⟨W, hW, hA, hB, hR, hO, hX, hY, hZ⟩ := pF w (.cells (mY a) 45) (.cells (mY b) 45) (.cells (mY 0) 45) (.cells (mY 0) 45) (.cells (mY 0) 45) (.cells (mY 0) 45)
 rw [← hW]
 clear hW
 refine wp_loop_rounds 1 ?_
 iterate 0 (rw [rounds_succ]; go_wp2_with fail)
 rw [rounds_succ]
 go_wp2_with (first | (with_reducible refine mG rfl _ rfl _ rfl _ hA ?_) | (go_at_call 77; (with_reducible refine (pM 64904 a _).mono ?_); rintro e u2 ⟨rfl, hb⟩; have z1 := hZ.trans (hb.mono (by have := mF hY; omega)); have kB1 := mV hB hb; have kR1 := mV hR hb; have kO1 := mV hO hb; have kX1 := mV hX hb; have kY1 := mV hY hb; clear hb) | (with_reducible refine mK rfl _ _ rfl (w.heap.size + 4) _ rfl rfl _ kX1 ?_; intro w3 h3; have z2 := z1.trans (h3.below.mono (by omega)); have kB2 := mR kB1 h3 (by omega); have kR2 := mR kR1 h3 (by omega); have kO2 := mR kO1 h3 (by omega); have kY2 := mR kY1 h3 (by omega); have kX2 := h3.this; clear h3 kB1 kR1 kO1 kX1 kY1 z1) | (with_reducible refine mG rfl _ rfl _ rfl _ kB2 ?_) | (go_at_call 77; (with_reducible refine (pM 64904 b _).mono ?_); rintro e u4 ⟨rfl, hb⟩; have z3 := z2.trans (hb.mono (by have := mF kY2; omega)); have kB3 := mV kB2 hb; have kR3 := mV kR2 hb; have kO3 := mV kO2 hb; have kX3 := mV kX2 hb; have kY3 := mV kY2 hb; clear hb kB2 kR2 kO2 kX2 kY2 z2) | (with_reducible refine mK rfl _ _ rfl (w.heap.size + 5) _ rfl rfl _ kY3 ?_; intro w5 h5; have z4 := z3.trans (h5.below.mono (by omega)); have kB4 := mR kB3 h5 (by omega); have kR4 := mR kR3 h5 (by omega); have kO4 := mR kO3 h5 (by omega); have kX4 := mR kX3 h5 (by omega); have kY4 := h5.this; clear h5 kB3 kR3 kO3 kX3 kY3 z3))
 refine wp_loop_rounds 1 ?_
 iterate 0 (rw [rounds_succ]; go_wp2_with fail)
 rw [rounds_succ]
 go_wp2_with fail
 clear kB4 hA hB hR hO hX hY hZ
 go_loopw [25] (fun jv wr => ∃ k : Nat, k ≤ 8 ∧ jv = .int .i64 k ∧ St w5 (w.heap.size + 3) (mJ 0 16 (tK 16 ((unW 64904 a).1) ((unW 64904 b).1)) k) wr) (fun jv _ => 8 - (intOf jv).toNat)
 case atStart => exact qR
 case round =>
  obtain ⟨k, hk, rfl, hs⟩ := hrel
  by_cases hlt : k < 8
  ·go_wp2_with fail
   refine mN (St w5 (w.heap.size + 3) (mJ 0 16 (tK 16 ((unW 64904 a).1) ((unW 64904 b).1)) k)) 13 (by kernel_rfl) (by kernel_rfl) hs.drew ?_
   simp only [zP, zN, zM, zL]
   (refine zK rfl _ rfl _ rfl _ (fun u hS => hS.this) ?_)
   repeat (refine z8 ?_)
   (refine zK rfl _ rfl _ rfl _ (fun u hS => hS.kb.get kX4 (by omega)) ?_)
   repeat (refine z8 ?_)
   (refine zZ (.int .u64 (mT ((unW 64904 a).1) 16 k : Nat)) 74 (c := fun u hS => by exact vA _ _ k _ rfl (by omega)) (r := ?_))
   (refine zK rfl _ rfl _ rfl _ (fun u hS => hS.kb.get kY4 (by omega)) ?_)
   repeat (refine z8 ?_)
   (refine zZ (.int .u64 (mT ((unW 64904 b).1) 16 k : Nat)) 74 (c := fun u hS => by exact vA _ _ k _ rfl (by omega)) (r := ?_))
   repeat (refine z8 ?_)
   (refine zZ (.agg (mY (t7 (mJ 0 16 (tK 16 ((unW 64904 a).1) ((unW 64904 b).1)) k) 16 k (tK 16 ((unW 64904 a).1) ((unW 64904 b).1) k)))) 68 (c := fun u hS => by exact v4 _ _ _ k (tK 16 ((unW 64904 a).1) ((unW 64904 b).1) k) _ rfl (vD _ _) (by omega) (Nat.mod_lt _ (by decide))) (r := ?_))
   refine mH (fun wr2 hr => ?_)
   go_wp2_with ((with_reducible refine mK rfl _ _ rfl (w.heap.size + 3) _ rfl rfl _ hr.this ?_; intro wy hy))
   go_roundw
   case rel => exact xD
   case measure => exact xL
  ·exact m0
set_option maxRecDepth 100000 in
theorem rbin_row16_1 (a b : Vec) (w : World) :
 Calls Try.prog 81 #[.int .i64 64957, .agg (mY a), .agg (mY b)] w fun e w' => e = .returned (.tuple #[.agg (mY (mJ 0 32 (tK 32 ((unW 64936 a).1) ((unW 64936 b).1)) 4)), .int .i64 0]) ∧ Below w.heap.size w w' := by
 go_enter Try.func81, Try.ntmps81
 go_wp2_with fail
 rw [← mU]
 obtain ⟨W, hW, hA, hB, hR, hO, hX, hY, hZ⟩ := pF w (.cells (mY a) 45) (.cells (mY b) 45) (.cells (mY 0) 45) (.cells (mY 0) 45) (.cells (mY 0) 45) (.cells (mY 0) 45)
 rw [← hW]
 clear hW
 refine wp_loop_rounds 2 ?_
 iterate 1 (rw [rounds_succ]; go_wp2_with fail)
 rw [rounds_succ]
 go_wp2_with (first | (with_reducible refine mG rfl _ rfl _ rfl _ hA ?_) | (go_at_call 77; (with_reducible refine (pM 64936 a _).mono ?_); rintro e u2 ⟨rfl, hb⟩; have z1 := hZ.trans (hb.mono (by have := mF hY; omega)); have kB1 := mV hB hb; have kR1 := mV hR hb; have kO1 := mV hO hb; have kX1 := mV hX hb; have kY1 := mV hY hb; clear hb) | (with_reducible refine mK rfl _ _ rfl (w.heap.size + 4) _ rfl rfl _ kX1 ?_; intro w3 h3; have z2 := z1.trans (h3.below.mono (by omega)); have kB2 := mR kB1 h3 (by omega); have kR2 := mR kR1 h3 (by omega); have kO2 := mR kO1 h3 (by omega); have kY2 := mR kY1 h3 (by omega); have kX2 := h3.this; clear h3 kB1 kR1 kO1 kX1 kY1 z1) | (with_reducible refine mG rfl _ rfl _ rfl _ kB2 ?_) | (go_at_call 77; (with_reducible refine (pM 64936 b _).mono ?_); rintro e u4 ⟨rfl, hb⟩; have z3 := z2.trans (hb.mono (by have := mF kY2; omega)); have kB3 := mV kB2 hb; have kR3 := mV kR2 hb; have kO3 := mV kO2 hb; have kX3 := mV kX2 hb; have kY3 := mV kY2 hb; clear hb kB2 kR2 kO2 kX2 kY2 z2) | (with_reducible refine mK rfl _ _ rfl (w.heap.size + 5) _ rfl rfl _ kY3 ?_; intro w5 h5; have z4 := z3.trans (h5.below.mono (by omega)); have kB4 := mR kB3 h5 (by omega); have kR4 := mR kR3 h5 (by omega); have kO4 := mR kO3 h5 (by omega); have kX4 := mR kX3 h5 (by omega); have kY4 := h5.this; clear h5 kB3 kR3 kO3 kX3 kY3 z3))
 refine wp_loop_rounds 2 ?_
 iterate 1 (rw [rounds_succ]; go_wp2_with fail)
 rw [rounds_succ]
 go_wp2_with fail
 clear kB4 hA hB hR hO hX hY hZ
 go_loopw [25] (fun jv wr => ∃ k : Nat, k ≤ 4 ∧ jv = .int .i64 k ∧ St w5 (w.heap.size + 3) (mJ 0 32 (tK 32 ((unW 64936 a).1) ((unW 64936 b).1)) k) wr) (fun jv _ => 4 - (intOf jv).toNat)
 case atStart => exact qR
 case round =>
  obtain ⟨k, hk, rfl, hs⟩ := hrel
  by_cases hlt : k < 4
  ·go_wp2_with fail
   refine mN (St w5 (w.heap.size + 3) (mJ 0 32 (tK 32 ((unW 64936 a).1) ((unW 64936 b).1)) k)) 13 (by kernel_rfl) (by kernel_rfl) hs.drew ?_
   simp only [zP, zN, zM, zL]
   (refine zK rfl _ rfl _ rfl _ (fun u hS => hS.this) ?_)
   repeat (refine z8 ?_)
   (refine zK rfl _ rfl _ rfl _ (fun u hS => hS.kb.get kX4 (by omega)) ?_)
   repeat (refine z8 ?_)
   (refine zZ (.int .u64 (mT ((unW 64936 a).1) 32 k : Nat)) 74 (c := fun u hS => by exact vL _ _ k _ rfl (by omega)) (r := ?_))
   (refine zK rfl _ rfl _ rfl _ (fun u hS => hS.kb.get kY4 (by omega)) ?_)
   repeat (refine z8 ?_)
   (refine zZ (.int .u64 (mT ((unW 64936 b).1) 32 k : Nat)) 74 (c := fun u hS => by exact vL _ _ k _ rfl (by omega)) (r := ?_))
   repeat (refine z8 ?_)
   (refine zZ (.agg (mY (t7 (mJ 0 32 (tK 32 ((unW 64936 a).1) ((unW 64936 b).1)) k) 32 k (tK 32 ((unW 64936 a).1) ((unW 64936 b).1) k)))) 68 (c := fun u hS => by exact vM _ _ _ k (tK 32 ((unW 64936 a).1) ((unW 64936 b).1) k) _ rfl (vD _ _) (by omega) (Nat.mod_lt _ (by decide))) (r := ?_))
   refine mH (fun wr2 hr => ?_)
   go_wp2_with ((with_reducible refine mK rfl _ _ rfl (w.heap.size + 3) _ rfl rfl _ hr.this ?_; intro wy hy))
   go_roundw
   case rel => exact xD
   case measure => exact xL
  ·exact m1
set_option maxRecDepth 100000 in
theorem rbin_row32_1 (a b : Vec) (w : World) :
 Calls Try.prog 81 #[.int .i64 64989, .agg (mY a), .agg (mY b)] w fun e w' => e = .returned (.tuple #[.agg (mY (mJ 0 64 (tK 64 ((unW 64968 a).1) ((unW 64968 b).1)) 2)), .int .i64 0]) ∧ Below w.heap.size w w' := by
 go_enter Try.func81, Try.ntmps81
 go_wp2_with fail
 rw [← mU]
 obtain ⟨W, hW, hA, hB, hR, hO, hX, hY, hZ⟩ := pF w (.cells (mY a) 45) (.cells (mY b) 45) (.cells (mY 0) 45) (.cells (mY 0) 45) (.cells (mY 0) 45) (.cells (mY 0) 45)
 rw [← hW]
 clear hW
 refine wp_loop_rounds 3 ?_
 iterate 2 (rw [rounds_succ]; go_wp2_with fail)
 rw [rounds_succ]
 go_wp2_with (first | (with_reducible refine mG rfl _ rfl _ rfl _ hA ?_) | (go_at_call 77; (with_reducible refine (pM 64968 a _).mono ?_); rintro e u2 ⟨rfl, hb⟩; have z1 := hZ.trans (hb.mono (by have := mF hY; omega)); have kB1 := mV hB hb; have kR1 := mV hR hb; have kO1 := mV hO hb; have kX1 := mV hX hb; have kY1 := mV hY hb; clear hb) | (with_reducible refine mK rfl _ _ rfl (w.heap.size + 4) _ rfl rfl _ kX1 ?_; intro w3 h3; have z2 := z1.trans (h3.below.mono (by omega)); have kB2 := mR kB1 h3 (by omega); have kR2 := mR kR1 h3 (by omega); have kO2 := mR kO1 h3 (by omega); have kY2 := mR kY1 h3 (by omega); have kX2 := h3.this; clear h3 kB1 kR1 kO1 kX1 kY1 z1) | (with_reducible refine mG rfl _ rfl _ rfl _ kB2 ?_) | (go_at_call 77; (with_reducible refine (pM 64968 b _).mono ?_); rintro e u4 ⟨rfl, hb⟩; have z3 := z2.trans (hb.mono (by have := mF kY2; omega)); have kB3 := mV kB2 hb; have kR3 := mV kR2 hb; have kO3 := mV kO2 hb; have kX3 := mV kX2 hb; have kY3 := mV kY2 hb; clear hb kB2 kR2 kO2 kX2 kY2 z2) | (with_reducible refine mK rfl _ _ rfl (w.heap.size + 5) _ rfl rfl _ kY3 ?_; intro w5 h5; have z4 := z3.trans (h5.below.mono (by omega)); have kB4 := mR kB3 h5 (by omega); have kR4 := mR kR3 h5 (by omega); have kO4 := mR kO3 h5 (by omega); have kX4 := mR kX3 h5 (by omega); have kY4 := h5.this; clear h5 kB3 kR3 kO3 kX3 kY3 z3))
 refine wp_loop_rounds 3 ?_
 iterate 2 (rw [rounds_succ]; go_wp2_with fail)
 rw [rounds_succ]
 go_wp2_with fail
 clear kB4 hA hB hR hO hX hY hZ
 go_loopw [25] (fun jv wr => ∃ k : Nat, k ≤ 2 ∧ jv = .int .i64 k ∧ St w5 (w.heap.size + 3) (mJ 0 64 (tK 64 ((unW 64968 a).1) ((unW 64968 b).1)) k) wr) (fun jv _ => 2 - (intOf jv).toNat)
 case atStart => exact qR
 case round =>
  obtain ⟨k, hk, rfl, hs⟩ := hrel
  by_cases hlt : k < 2
  ·go_wp2_with fail
   refine mN (St w5 (w.heap.size + 3) (mJ 0 64 (tK 64 ((unW 64968 a).1) ((unW 64968 b).1)) k)) 13 (by kernel_rfl) (by kernel_rfl) hs.drew ?_
   simp only [zP, zN, zM, zL]
   (refine zK rfl _ rfl _ rfl _ (fun u hS => hS.this) ?_)
   repeat (refine z8 ?_)
   (refine zK rfl _ rfl _ rfl _ (fun u hS => hS.kb.get kX4 (by omega)) ?_)
   repeat (refine z8 ?_)
   (refine zZ (.int .u64 (mT ((unW 64968 a).1) 64 k : Nat)) 74 (c := fun u hS => by exact vU _ _ k _ rfl (by omega)) (r := ?_))
   (refine zK rfl _ rfl _ rfl _ (fun u hS => hS.kb.get kY4 (by omega)) ?_)
   repeat (refine z8 ?_)
   (refine zZ (.int .u64 (mT ((unW 64968 b).1) 64 k : Nat)) 74 (c := fun u hS => by exact vU _ _ k _ rfl (by omega)) (r := ?_))
   repeat (refine z8 ?_)
   (refine zZ (.agg (mY (t7 (mJ 0 64 (tK 64 ((unW 64968 a).1) ((unW 64968 b).1)) k) 64 k (tK 64 ((unW 64968 a).1) ((unW 64968 b).1) k)))) 68 (c := fun u hS => by exact vN _ _ _ k (tK 64 ((unW 64968 a).1) ((unW 64968 b).1) k) _ rfl (vD _ _) (by omega) (Nat.mod_lt _ (by decide))) (r := ?_))
   refine mH (fun wr2 hr => ?_)
   go_wp2_with ((with_reducible refine mK rfl _ _ rfl (w.heap.size + 3) _ rfl rfl _ hr.this ?_; intro wy hy))
   go_roundw
   case rel => exact xD
   case measure => exact xL
  ·exact m3
end Go.Proofs.Ytcpfabkokgiepaa
end
section
namespace Go.Proofs.Ytcpfabkokgiepaa
open Go.RowKit Pl
set_option maxRecDepth 100000 in
theorem rbin_row8_2 (a b : Vec) (w : World) :
 Calls Try.prog 81 #[.int .i64 64926, .agg (mY a), .agg (mY b)] w fun e w' => e = .returned (.tuple #[.agg (mY (mJ 0 16 (tK 16 ((unW 64905 a).1) ((unW 64905 b).1)) 8)), .int .i64 0]) ∧ Below w.heap.size w w' := by
 go_enter Try.func81, Try.ntmps81
 go_wp2_with fail
 rw [← mU]
 obtain ⟨W, hW, hA, hB, hR, hO, hX, hY, hZ⟩ := pF w (.cells (mY a) 45) (.cells (mY b) 45) (.cells (mY 0) 45) (.cells (mY 0) 45) (.cells (mY 0) 45) (.cells (mY 0) 45)
 rw [← hW]
 clear hW
 refine wp_loop_rounds 1 ?_
 iterate 0 (rw [rounds_succ]; go_wp2_with fail)
 rw [rounds_succ]
 go_wp2_with (first | (with_reducible refine mG rfl _ rfl _ rfl _ hA ?_) | (go_at_call 77; (with_reducible refine (pM 64905 a _).mono ?_); rintro e u2 ⟨rfl, hb⟩; have z1 := hZ.trans (hb.mono (by have := mF hY; omega)); have kB1 := mV hB hb; have kR1 := mV hR hb; have kO1 := mV hO hb; have kX1 := mV hX hb; have kY1 := mV hY hb; clear hb) | (with_reducible refine mK rfl _ _ rfl (w.heap.size + 4) _ rfl rfl _ kX1 ?_; intro w3 h3; have z2 := z1.trans (h3.below.mono (by omega)); have kB2 := mR kB1 h3 (by omega); have kR2 := mR kR1 h3 (by omega); have kO2 := mR kO1 h3 (by omega); have kY2 := mR kY1 h3 (by omega); have kX2 := h3.this; clear h3 kB1 kR1 kO1 kX1 kY1 z1) | (with_reducible refine mG rfl _ rfl _ rfl _ kB2 ?_) | (go_at_call 77; (with_reducible refine (pM 64905 b _).mono ?_); rintro e u4 ⟨rfl, hb⟩; have z3 := z2.trans (hb.mono (by have := mF kY2; omega)); have kB3 := mV kB2 hb; have kR3 := mV kR2 hb; have kO3 := mV kO2 hb; have kX3 := mV kX2 hb; have kY3 := mV kY2 hb; clear hb kB2 kR2 kO2 kX2 kY2 z2) | (with_reducible refine mK rfl _ _ rfl (w.heap.size + 5) _ rfl rfl _ kY3 ?_; intro w5 h5; have z4 := z3.trans (h5.below.mono (by omega)); have kB4 := mR kB3 h5 (by omega); have kR4 := mR kR3 h5 (by omega); have kO4 := mR kO3 h5 (by omega); have kX4 := mR kX3 h5 (by omega); have kY4 := h5.this; clear h5 kB3 kR3 kO3 kX3 kY3 z3))
 refine wp_loop_rounds 1 ?_
 iterate 0 (rw [rounds_succ]; go_wp2_with fail)
 rw [rounds_succ]
 go_wp2_with fail
 clear kB4 hA hB hR hO hX hY hZ
 go_loopw [25] (fun jv wr => ∃ k : Nat, k ≤ 8 ∧ jv = .int .i64 k ∧ St w5 (w.heap.size + 3) (mJ 0 16 (tK 16 ((unW 64905 a).1) ((unW 64905 b).1)) k) wr) (fun jv _ => 8 - (intOf jv).toNat)
 case atStart => exact qR
 case round =>
  obtain ⟨k, hk, rfl, hs⟩ := hrel
  by_cases hlt : k < 8
  ·go_wp2_with fail
   refine mN (St w5 (w.heap.size + 3) (mJ 0 16 (tK 16 ((unW 64905 a).1) ((unW 64905 b).1)) k)) 13 (by kernel_rfl) (by kernel_rfl) hs.drew ?_
   simp only [zP, zN, zM, zL]
   (refine zK rfl _ rfl _ rfl _ (fun u hS => hS.this) ?_)
   repeat (refine z8 ?_)
   (refine zK rfl _ rfl _ rfl _ (fun u hS => hS.kb.get kX4 (by omega)) ?_)
   repeat (refine z8 ?_)
   (refine zZ (.int .u64 (mT ((unW 64905 a).1) 16 k : Nat)) 74 (c := fun u hS => by exact vA _ _ k _ rfl (by omega)) (r := ?_))
   (refine zK rfl _ rfl _ rfl _ (fun u hS => hS.kb.get kY4 (by omega)) ?_)
   repeat (refine z8 ?_)
   (refine zZ (.int .u64 (mT ((unW 64905 b).1) 16 k : Nat)) 74 (c := fun u hS => by exact vA _ _ k _ rfl (by omega)) (r := ?_))
   repeat (refine z8 ?_)
   (refine zZ (.agg (mY (t7 (mJ 0 16 (tK 16 ((unW 64905 a).1) ((unW 64905 b).1)) k) 16 k (tK 16 ((unW 64905 a).1) ((unW 64905 b).1) k)))) 68 (c := fun u hS => by exact v4 _ _ _ k (tK 16 ((unW 64905 a).1) ((unW 64905 b).1) k) _ rfl (vD _ _) (by omega) (Nat.mod_lt _ (by decide))) (r := ?_))
   refine mH (fun wr2 hr => ?_)
   go_wp2_with ((with_reducible refine mK rfl _ _ rfl (w.heap.size + 3) _ rfl rfl _ hr.this ?_; intro wy hy))
   go_roundw
   case rel => exact xD
   case measure => exact xL
  ·exact m0
set_option maxRecDepth 100000 in
theorem rbin_row16_2 (a b : Vec) (w : World) :
 Calls Try.prog 81 #[.int .i64 64958, .agg (mY a), .agg (mY b)] w fun e w' => e = .returned (.tuple #[.agg (mY (mJ 0 32 (tK 32 ((unW 64937 a).1) ((unW 64937 b).1)) 4)), .int .i64 0]) ∧ Below w.heap.size w w' := by
 go_enter Try.func81, Try.ntmps81
 go_wp2_with fail
 rw [← mU]
 obtain ⟨W, hW, hA, hB, hR, hO, hX, hY, hZ⟩ := pF w (.cells (mY a) 45) (.cells (mY b) 45) (.cells (mY 0) 45) (.cells (mY 0) 45) (.cells (mY 0) 45) (.cells (mY 0) 45)
 rw [← hW]
 clear hW
 refine wp_loop_rounds 2 ?_
 iterate 1 (rw [rounds_succ]; go_wp2_with fail)
 rw [rounds_succ]
 go_wp2_with (first | (with_reducible refine mG rfl _ rfl _ rfl _ hA ?_) | (go_at_call 77; (with_reducible refine (pM 64937 a _).mono ?_); rintro e u2 ⟨rfl, hb⟩; have z1 := hZ.trans (hb.mono (by have := mF hY; omega)); have kB1 := mV hB hb; have kR1 := mV hR hb; have kO1 := mV hO hb; have kX1 := mV hX hb; have kY1 := mV hY hb; clear hb) | (with_reducible refine mK rfl _ _ rfl (w.heap.size + 4) _ rfl rfl _ kX1 ?_; intro w3 h3; have z2 := z1.trans (h3.below.mono (by omega)); have kB2 := mR kB1 h3 (by omega); have kR2 := mR kR1 h3 (by omega); have kO2 := mR kO1 h3 (by omega); have kY2 := mR kY1 h3 (by omega); have kX2 := h3.this; clear h3 kB1 kR1 kO1 kX1 kY1 z1) | (with_reducible refine mG rfl _ rfl _ rfl _ kB2 ?_) | (go_at_call 77; (with_reducible refine (pM 64937 b _).mono ?_); rintro e u4 ⟨rfl, hb⟩; have z3 := z2.trans (hb.mono (by have := mF kY2; omega)); have kB3 := mV kB2 hb; have kR3 := mV kR2 hb; have kO3 := mV kO2 hb; have kX3 := mV kX2 hb; have kY3 := mV kY2 hb; clear hb kB2 kR2 kO2 kX2 kY2 z2) | (with_reducible refine mK rfl _ _ rfl (w.heap.size + 5) _ rfl rfl _ kY3 ?_; intro w5 h5; have z4 := z3.trans (h5.below.mono (by omega)); have kB4 := mR kB3 h5 (by omega); have kR4 := mR kR3 h5 (by omega); have kO4 := mR kO3 h5 (by omega); have kX4 := mR kX3 h5 (by omega); have kY4 := h5.this; clear h5 kB3 kR3 kO3 kX3 kY3 z3))
 refine wp_loop_rounds 2 ?_
 iterate 1 (rw [rounds_succ]; go_wp2_with fail)
 rw [rounds_succ]
 go_wp2_with fail
 clear kB4 hA hB hR hO hX hY hZ
 go_loopw [25] (fun jv wr => ∃ k : Nat, k ≤ 4 ∧ jv = .int .i64 k ∧ St w5 (w.heap.size + 3) (mJ 0 32 (tK 32 ((unW 64937 a).1) ((unW 64937 b).1)) k) wr) (fun jv _ => 4 - (intOf jv).toNat)
 case atStart => exact qR
 case round =>
  obtain ⟨k, hk, rfl, hs⟩ := hrel
  by_cases hlt : k < 4
  ·go_wp2_with fail
   refine mN (St w5 (w.heap.size + 3) (mJ 0 32 (tK 32 ((unW 64937 a).1) ((unW 64937 b).1)) k)) 13 (by kernel_rfl) (by kernel_rfl) hs.drew ?_
   simp only [zP, zN, zM, zL]
   (refine zK rfl _ rfl _ rfl _ (fun u hS => hS.this) ?_)
   repeat (refine z8 ?_)
   (refine zK rfl _ rfl _ rfl _ (fun u hS => hS.kb.get kX4 (by omega)) ?_)
   repeat (refine z8 ?_)
   (refine zZ (.int .u64 (mT ((unW 64937 a).1) 32 k : Nat)) 74 (c := fun u hS => by exact vL _ _ k _ rfl (by omega)) (r := ?_))
   (refine zK rfl _ rfl _ rfl _ (fun u hS => hS.kb.get kY4 (by omega)) ?_)
   repeat (refine z8 ?_)
   (refine zZ (.int .u64 (mT ((unW 64937 b).1) 32 k : Nat)) 74 (c := fun u hS => by exact vL _ _ k _ rfl (by omega)) (r := ?_))
   repeat (refine z8 ?_)
   (refine zZ (.agg (mY (t7 (mJ 0 32 (tK 32 ((unW 64937 a).1) ((unW 64937 b).1)) k) 32 k (tK 32 ((unW 64937 a).1) ((unW 64937 b).1) k)))) 68 (c := fun u hS => by exact vM _ _ _ k (tK 32 ((unW 64937 a).1) ((unW 64937 b).1) k) _ rfl (vD _ _) (by omega) (Nat.mod_lt _ (by decide))) (r := ?_))
   refine mH (fun wr2 hr => ?_)
   go_wp2_with ((with_reducible refine mK rfl _ _ rfl (w.heap.size + 3) _ rfl rfl _ hr.this ?_; intro wy hy))
   go_roundw
   case rel => exact xD
   case measure => exact xL
  ·exact m1
set_option maxRecDepth 100000 in
theorem rbin_row32_2 (a b : Vec) (w : World) :
 Calls Try.prog 81 #[.int .i64 64990, .agg (mY a), .agg (mY b)] w fun e w' => e = .returned (.tuple #[.agg (mY (mJ 0 64 (tK 64 ((unW 64969 a).1) ((unW 64969 b).1)) 2)), .int .i64 0]) ∧ Below w.heap.size w w' := by
 go_enter Try.func81, Try.ntmps81
 go_wp2_with fail
 rw [← mU]
 obtain ⟨W, hW, hA, hB, hR, hO, hX, hY, hZ⟩ := pF w (.cells (mY a) 45) (.cells (mY b) 45) (.cells (mY 0) 45) (.cells (mY 0) 45) (.cells (mY 0) 45) (.cells (mY 0) 45)
 rw [← hW]
 clear hW
 refine wp_loop_rounds 3 ?_
 iterate 2 (rw [rounds_succ]; go_wp2_with fail)
 rw [rounds_succ]
 go_wp2_with (first | (with_reducible refine mG rfl _ rfl _ rfl _ hA ?_) | (go_at_call 77; (with_reducible refine (pM 64969 a _).mono ?_); rintro e u2 ⟨rfl, hb⟩; have z1 := hZ.trans (hb.mono (by have := mF hY; omega)); have kB1 := mV hB hb; have kR1 := mV hR hb; have kO1 := mV hO hb; have kX1 := mV hX hb; have kY1 := mV hY hb; clear hb) | (with_reducible refine mK rfl _ _ rfl (w.heap.size + 4) _ rfl rfl _ kX1 ?_; intro w3 h3; have z2 := z1.trans (h3.below.mono (by omega)); have kB2 := mR kB1 h3 (by omega); have kR2 := mR kR1 h3 (by omega); have kO2 := mR kO1 h3 (by omega); have kY2 := mR kY1 h3 (by omega); have kX2 := h3.this; clear h3 kB1 kR1 kO1 kX1 kY1 z1) | (with_reducible refine mG rfl _ rfl _ rfl _ kB2 ?_) | (go_at_call 77; (with_reducible refine (pM 64969 b _).mono ?_); rintro e u4 ⟨rfl, hb⟩; have z3 := z2.trans (hb.mono (by have := mF kY2; omega)); have kB3 := mV kB2 hb; have kR3 := mV kR2 hb; have kO3 := mV kO2 hb; have kX3 := mV kX2 hb; have kY3 := mV kY2 hb; clear hb kB2 kR2 kO2 kX2 kY2 z2) | (with_reducible refine mK rfl _ _ rfl (w.heap.size + 5) _ rfl rfl _ kY3 ?_; intro w5 h5; have z4 := z3.trans (h5.below.mono (by omega)); have kB4 := mR kB3 h5 (by omega); have kR4 := mR kR3 h5 (by omega); have kO4 := mR kO3 h5 (by omega); have kX4 := mR kX3 h5 (by omega); have kY4 := h5.this; clear h5 kB3 kR3 kO3 kX3 kY3 z3))
 refine wp_loop_rounds 3 ?_
 iterate 2 (rw [rounds_succ]; go_wp2_with fail)
 rw [rounds_succ]
 go_wp2_with fail
 clear kB4 hA hB hR hO hX hY hZ
 go_loopw [25] (fun jv wr => ∃ k : Nat, k ≤ 2 ∧ jv = .int .i64 k ∧ St w5 (w.heap.size + 3) (mJ 0 64 (tK 64 ((unW 64969 a).1) ((unW 64969 b).1)) k) wr) (fun jv _ => 2 - (intOf jv).toNat)
 case atStart => exact qR
 case round =>
  obtain ⟨k, hk, rfl, hs⟩ := hrel
  by_cases hlt : k < 2
  ·go_wp2_with fail
   refine mN (St w5 (w.heap.size + 3) (mJ 0 64 (tK 64 ((unW 64969 a).1) ((unW 64969 b).1)) k)) 13 (by kernel_rfl) (by kernel_rfl) hs.drew ?_
   simp only [zP, zN, zM, zL]
   (refine zK rfl _ rfl _ rfl _ (fun u hS => hS.this) ?_)
   repeat (refine z8 ?_)
   (refine zK rfl _ rfl _ rfl _ (fun u hS => hS.kb.get kX4 (by omega)) ?_)
   repeat (refine z8 ?_)
   (refine zZ (.int .u64 (mT ((unW 64969 a).1) 64 k : Nat)) 74 (c := fun u hS => by exact vU _ _ k _ rfl (by omega)) (r := ?_))
   (refine zK rfl _ rfl _ rfl _ (fun u hS => hS.kb.get kY4 (by omega)) ?_)
   repeat (refine z8 ?_)
   (refine zZ (.int .u64 (mT ((unW 64969 b).1) 64 k : Nat)) 74 (c := fun u hS => by exact vU _ _ k _ rfl (by omega)) (r := ?_))
   repeat (refine z8 ?_)
   (refine zZ (.agg (mY (t7 (mJ 0 64 (tK 64 ((unW 64969 a).1) ((unW 64969 b).1)) k) 64 k (tK 64 ((unW 64969 a).1) ((unW 64969 b).1) k)))) 68 (c := fun u hS => by exact vN _ _ _ k (tK 64 ((unW 64969 a).1) ((unW 64969 b).1) k) _ rfl (vD _ _) (by omega) (Nat.mod_lt _ (by decide))) (r := ?_))
   refine mH (fun wr2 hr => ?_)
   go_wp2_with ((with_reducible refine mK rfl _ _ rfl (w.heap.size + 3) _ rfl rfl _ hr.this ?_; intro wy hy))
   go_roundw
   case rel => exact xD
   case measure => exact xL
  ·exact m3
end Go.Proofs.Ytcpfabkokgiepaa
end
