/-
  Texts VcS.
-/
import Derived.Test.YtcpfabkokgiepaaQ24
import Derived.Deep.Cut
set_option linter.unusedSimpArgs false
set_option linter.unusedVariables false
set_option maxHeartbeats 8000000
open Pl
namespace Go.Proofs.Ytcpfabkokgiepaa
open Go.RowKit Pl
theorem store_zv {ops : Array Oper} {rest : List Oper} {o : Oper} {a : Act} {w : World} {Q : Exit → Act → World → Prop} (hgd : o.guard = none) (x y : Operand) (ho : o.op = .store 45 x y)
 (g : Nat) (hx : a.eval x = .pointer (some ⟨g, 0, none⟩)) (hy : a.eval y = .agg #[.int .u8 0, .int .u8 0, .int .u8 0, .int .u8 0, .int .u8 0, .int .u8 0, .int .u8 0, .int .u8 0, .int .u8 0, .int .u8 0, .int .u8 0, .int .u8 0, .int .u8 0, .int .u8 0, .int .u8 0, .int .u8 0]) (v : Vec) (hg : w.heap[g]? = some (.cells (mY v) 45 (0, 0)))
 (h : ∀ w', Sets w g 0 w' → wpList Try.prog ops Q rest (a.put o.dst undef) w') : wpList Try.prog ops Q (o :: rest) a w :=
 mK hgd x y ho g 0 hx (by rw [hy, mU]) v hg h
theorem heap5_0 (w : World) (A B C D E : Obj) : (((((w.alloc A).alloc B).alloc C).alloc D).alloc E).heap[w.heap.size]? = some A := by
 rw [heap_alloc_old _ _ (by simp; omega), rU]
theorem heap5_1 (w : World) (A B C D E : Obj) : (((((w.alloc A).alloc B).alloc C).alloc D).alloc E).heap[w.heap.size + 1]? = some B := by
 rw [heap_alloc_old _ _ (by simp), rV]
theorem heap5_2 (w : World) (A B C D E : Obj) : (((((w.alloc A).alloc B).alloc C).alloc D).alloc E).heap[w.heap.size + 2]? = some C := by
 rw [heap_alloc_old _ _ (by simp), rG]
theorem heap5_3 (w : World) (A B C D E : Obj) : (((((w.alloc A).alloc B).alloc C).alloc D).alloc E).heap[w.heap.size + 3]? = some D := by
 rw [heap_alloc_old _ _ (by simp), rK]
theorem heap5_4 (w : World) (A B C D E : Obj) : (((((w.alloc A).alloc B).alloc C).alloc D).alloc E).heap[w.heap.size + 4]? = some E := wX
theorem below5 (w : World) (A B C D E : Obj) : Below w.heap.size w (((((w.alloc A).alloc B).alloc C).alloc D).alloc E) := (vY w A B C D).alloc (by simp; omega) _
theorem cell_vec {w : World} {g : Nat} {v : Vec} (h : w.heap[g]? = some (.cells (mY v) 45 (0, 0))) (j : Nat) (hj : j < 16) : w.cell? ⟨g, j, none⟩ = some (.int .u8 ((mT v 8 j : Nat) : Int)) := by
 rw [cell_of_row w g j _ _ _ h, getElem?_cells _ _ hj]; rfl
theorem dN (v : Vec) (i : Nat) (hi : i < 16) (z : Int) (hz : ((mT v 8 i : Nat) : Int) = z) (u : World) : (Instr.index 45 (.agg (mY v)) (.int .i64 (i : Int))).run Try.prog u = .ok (.int .u8 z) u := by
 rw [← hz]; exact hG v i hi u
theorem build_skip (f : Nat → Nat) (i : Nat) (hi : i < 16) (h : f i = 0) : mJ 0 8 f (i + 1) = mJ 0 8 f i := by
 apply rL 8 16 (by decide) (by decide)
 intro k hk
 rw [pX _ _ _ _ _ (by omega), pX _ _ _ _ _ (by omega)]
 by_cases h1 : k < i
 ·rw [if_pos h1, if_pos (by omega)]
 ·by_cases h2 : k = i
  ·subst h2
   rw [if_pos (by omega), if_neg (by omega), h]
   have : mT (0 : Vec) 8 k = 0 := by simp [mT, tW]
   rw [this]
  ·rw [if_neg (by omega), if_neg (by omega)]
set_option maxRecDepth 100000 in
theorem shuffle_r (s a b : Vec) (R : Vec) (E : Int) (h1 : (∀ k, k < 16 → mT s 8 k < 32) → R = mJ 0 8 (sA s a b) 16 ∧ E = 0) (h2 : ∀ k, k < 16 → ¬ mT s 8 k < 32 → R = 0 ∧ E = 1) (w : World) :
 Calls Try.prog 29 #[.agg (mY s), .agg (mY a), .agg (mY b)] w fun e w' => e = .returned (.tuple #[.agg (mY R), .int .i64 E]) ∧ Below w.heap.size w w' := by
 have H1 := Lib.hid h1
 have H2 := Lib.hid h2
 clear h1 h2
 go_enter Try.func29, Try.ntmps29
 go_upto_region 2 with fail
 rw [← mU]
 obtain ⟨W, hW⟩ : ∃ W, W = (((((w.alloc (.cells (mY s) 45)).alloc (.cells (mY a) 45)).alloc (.cells (mY b) 45)).alloc (.cells (mY 0) 45)).alloc (.cells (mY 0) 45)) := ⟨_, rfl⟩
 have hA : W.heap[w.heap.size + 1]? = some (.cells (mY a) 45 (0, 0)) := by rw [hW]; exact heap5_1 _ _ _ _ _ _
 have hB : W.heap[w.heap.size + 2]? = some (.cells (mY b) 45 (0, 0)) := by rw [hW]; exact heap5_2 _ _ _ _ _ _
 have hR : W.heap[w.heap.size + 3]? = some (.cells (mY 0) 45 (0, 0)) := by rw [hW]; exact heap5_3 _ _ _ _ _ _
 have hO : W.heap[w.heap.size + 4]? = some (.cells (mY 0) 45 (0, 0)) := by rw [hW]; exact heap5_4 _ _ _ _ _ _
 have hZ : Below w.heap.size w W := by rw [hW]; exact below5 _ _ _ _ _ _
 have hS : W.heap[w.heap.size]? = some (.cells (mY s) 45 (0, 0)) := by rw [hW]; exact heap5_0 _ _ _ _ _ _
 rw [← hW]
 clear hW
 go_wp2_with (with_reducible refine mG rfl _ rfl _ rfl _ hS ?_)
 go_loopw [12] (fun j wr => ∃ i : Nat, i ≤ 16 ∧ j = .int .i64 i ∧ Hid (∀ k, k < i → mT s 8 k < 32) ∧ St W (w.heap.size + 4) (mJ 0 8 (sA s a b) i) wr) (fun j _ => 16 - (intOf j).toNat)
 case atStart => exact ⟨0, Nat.zero_le _, rfl, Lib.hid (fun k hk => absurd hk (Nat.not_lt_zero _)), St.start hO⟩
 case round =>
  obtain ⟨i, hi, rfl, HN, hs⟩ := hrel
  by_cases hli : i < 16
  ·have hA1 := hs.kb.get hA (by omega)
   have hB1 := hs.kb.get hB (by omega)
   have hR1 := hs.kb.get hR (by omega)
   by_cases h32 : mT s 8 i < 32
   ·by_cases h16 : 16 ≤ mT s 8 i
    ·obtain ⟨m, hm⟩ : ∃ m, mT s 8 i = m + 16 := ⟨mT s 8 i - 16, by omega⟩
     have hm16 : m < 16 := by omega
     have cI := dN s i hli ((m : Int) + 16) (by rw [hm]; rfl)
     have cB := cell_vec hB1 m hm16
     have hv : sA s a b i = mT b 8 m := by unfold sA; rw [if_pos h16, hm]; rfl
     have hvl := mL b 8 m
     have hz : ((mT b 8 m : Nat) : Int) = ((sA s a b i % 256 : Nat) : Int) := by rw [hv, Nat.mod_eq_of_lt hvl]
     have HV := Lib.hid hz
     have HNx : Hid (∀ k, k < i + 1 → mT s 8 k < 32) := Lib.hid (fun k hk => by
      by_cases e : k = i
      ·subst e; exact h32
      ·exact HN.out k (by omega))
     clear hz hv h32 h16 hm
     generalize mT b 8 m = bz at cB HV hvl
     exact nV
    ·obtain ⟨m, hm⟩ : ∃ m, mT s 8 i = m := ⟨_, rfl⟩
     have hm16 : m < 16 := by omega
     have cI := dN s i hli (m : Int) (by rw [hm])
     have cA := cell_vec hA1 m hm16
     have hv : sA s a b i = mT a 8 m := by unfold sA; rw [if_neg h16, hm]
     have hvl := mL a 8 m
     have hz : ((mT a 8 m : Nat) : Int) = ((sA s a b i % 256 : Nat) : Int) := by rw [hv, Nat.mod_eq_of_lt hvl]
     have HV := Lib.hid hz
     have HNx : Hid (∀ k, k < i + 1 → mT s 8 k < 32) := Lib.hid (fun k hk => by
      by_cases e : k = i
      ·subst e; exact h32
      ·exact HN.out k (by omega))
     clear hz hv h32 h16 hm
     generalize mT a 8 m = bz at cA HV hvl
     exact nV
   ·obtain ⟨rfl, rfl⟩ := H2.out i hli h32
    obtain ⟨m, hm⟩ : ∃ m, mT s 8 i = m := ⟨_, rfl⟩
    have cI := dN s i hli (m : Int) (by rw [hm])
    have hm32 : (32 : Int) ≤ (m : Int) := by omega
    clear h32 hm
    go_wp2_with (with_reducible refine store_zv rfl _ _ rfl (w.heap.size + 3) rfl rfl _ hR1 ?_; intro wq hq)
    exact bodyPost_ret (mS rfl _ _ (w.heap.size + 3) _ _ rfl rfl hq.this) rfl ⟨rfl, (hs.kb.to_below hZ (by omega)).trans (hq.below.mono (by omega))⟩
  ·obtain rfl : i = 16 := by omega
   have hR1 := hs.kb.get hR (by omega)
   obtain ⟨rfl, rfl⟩ := H1.out HN.out
   go_wp2_with (first | (with_reducible refine mG rfl _ rfl _ rfl _ hs.this ?_) | (with_reducible refine mK rfl _ _ rfl (w.heap.size + 3) _ rfl rfl _ hR1 ?_; intro wq hq))
   exact bodyPost_ret (mS rfl _ _ (w.heap.size + 3) _ _ rfl rfl hq.this) rfl ⟨rfl, (hs.kb.to_below hZ (by omega)).trans (hq.below.mono (by omega))⟩
theorem shuffle_k (s a b : Vec) (w : World) :
 Calls Try.prog 29 #[.agg (mY s), .agg (mY a), .agg (mY b)] w fun e w' => e = .returned (.tuple #[.agg (mY (rC s a b).1), .int .i64 (rC s a b).2]) ∧ Below w.heap.size w w' := by
 refine shuffle_r s a b _ _ (fun h => ?_) (fun k hk h => ?_) w
 ·unfold rC
  rw [if_pos]
  ·exact ⟨rfl, rfl⟩
  ·rw [List.all_eq_true]
   intro k hk
   have := h k (List.mem_range.1 hk)
   simp [this]
 ·unfold rC
  rw [if_neg]
  ·exact ⟨rfl, rfl⟩
  ·intro h'
   have := List.all_eq_true.1 h' k (List.mem_range.2 hk)
   simp at this
   omega
set_option maxRecDepth 100000 in
theorem swizzle_k (a b : Vec) (w : World) :
 Calls Try.prog 30 #[.agg (mY a), .agg (mY b)] w fun e w' => e = .returned (.agg (mY (swizV a b))) ∧ Below w.heap.size w w' := by
 go_enter Try.func30, Try.ntmps30
 go_wp2_with (with_reducible refine mG rfl _ rfl _ rfl _ (rV _ _ _ _ _) ?_)
 rw [← mU]
 obtain ⟨W, hW, hA, hR, hO, hZ⟩ := xQ w a b
 rw [← hW]
 clear hW
 go_loopw [9] (fun j wr => ∃ i : Nat, i ≤ 16 ∧ j = .int .i64 i ∧ St W (w.heap.size + 3) (mJ 0 8 (sH a b) i) wr) (fun j _ => 16 - (intOf j).toNat)
 case atStart => exact xE
 case round =>
  obtain ⟨i, hi, rfl, hs⟩ := hrel
  by_cases hli : i < 16
  ·have hA1 := hs.kb.get hA (by omega)
   obtain ⟨m, hm⟩ : ∃ m, mT b 8 i = m := ⟨_, rfl⟩
   have cI := dN b i hli (m : Int) (by rw [hm])
   by_cases h16 : m < 16
   ·have cA := cell_vec hA1 m h16
    have hv : sH a b i = mT a 8 m := by unfold sH; rw [hm, if_pos h16]
    have hvl := mL a 8 m
    have hz : ((mT a 8 m : Nat) : Int) = ((sH a b i % 256 : Nat) : Int) := by rw [hv, Nat.mod_eq_of_lt hvl]
    have HV := Lib.hid hz
    clear hz hv hm
    generalize mT a 8 m = bz at cA HV hvl
    go_wp2_with (refine mP rfl _ _ rfl (w.heap.size + 3) i _ (sH a b i) rfl rfl _ hs.this hli HV.out ?_; intro wy hy)
    go_roundw
    case rel => exact yY
    case measure => exact xL
   ·have hv : sH a b i = 0 := by unfold sH; rw [hm, if_neg h16]
    have hst : St W (w.heap.size + 3) (mJ 0 8 (sH a b) (i + 1)) wr := by rw [build_skip _ _ hli hv]; exact hs
    have h17 : (16 : Int) ≤ (m : Int) := by omega
    clear hv hm h16
    go_wp2_with fail
    go_roundw
    case rel => exact ⟨i + 1, by omega, by go_num, hst⟩
    case measure => exact xL
  ·obtain rfl : i = 16 := by omega
   have hR1 := hs.kb.get hR (by omega)
   go_wp2_with (first | (with_reducible refine mG rfl _ rfl _ rfl _ hs.this ?_) | (with_reducible refine mK rfl _ _ rfl (w.heap.size + 2) _ rfl rfl _ hR1 ?_; intro wq hq))
   exact bodyPost_ret (results_cell_row rfl _ _ (w.heap.size + 2) _ _ _ _ rfl hq.this r5 rfl (sY _)) rfl ⟨rfl, (hs.kb.to_below hZ (by omega)).trans (hq.below.mono (by omega))⟩
end Go.Proofs.Ytcpfabkokgiepaa
