/- A part of the proof that plaittop.CoreLanes returns true. -/
import Derived.Deep.Cut
import Derived.Test.YtebpijlmeemfaaaGreatDoorA04
import Derived.Test.YtebpijlmeemfaaaGreatDoorA08
import Derived.Test.YtebpijlmeemfaaaGreatDoorA10
set_option linter.all false
set_option linter.unusedSectionVars false
set_option linter.unusedSimpArgs false
set_option linter.unusedVariables false
section
namespace Pl
open Go
def laneW (κ : Int) : Nat × Bool :=
 if κ = 21 ∨ κ = 22 then (8, false) else if κ = 23 then (8, true) else if κ = 24 ∨ κ = 25 then (16, false) else if κ = 26 then (16, true) else
 if κ = 27 then (32, false) else if κ = 28 then (32, true) else if κ = 29 then (64, false) else if κ = 30 then (64, true) else (0, false)
def lanesN (w : Nat) : Nat := if w = 8 then 16 else if w = 16 then 8 else if w = 32 then 4 else if w = 64 then 2 else 0
def extV (κ i : Int) (v : Vec) : Nat × Int :=
 if (laneW κ).1 = 0 ∨ (laneW κ).2 = true ∨ i < 0 ∨ (lanesN (laneW κ).1 : Int) ≤ i then (0, 1)
 else if κ = 21 ∨ κ = 24 then (((sgn (laneW κ).1 (getN v (laneW κ).1 i.toNat)) % 4294967296).toNat, 0)
 else (getN v (laneW κ).1 i.toNat, 0)
def replV (κ i : Int) (v : Vec) (x : Nat) : Vec × Int :=
 if (laneW κ).1 = 0 ∨ (laneW κ).2 = false ∨ i < 0 ∨ (lanesN (laneW κ).1 : Int) ≤ i then (0, 1)
 else (setN v (laneW κ).1 i.toNat x, 0)
def splatV (κ : Int) (x : Nat) : Vec × Int :=
 if κ = 15 then (buildOn 0 8 (fun _ => x) 16, 0) else if κ = 16 then (buildOn 0 16 (fun _ => x) 8, 0) else if κ = 17 then (buildOn 0 32 (fun _ => x) 4, 0) else if κ = 18 then (buildOn 0 64 (fun _ => x) 2, 0) else (0, 1)
def shufF (s a b : Vec) (i : Nat) : Nat := if 16 ≤ getN s 8 i then getN b 8 (getN s 8 i - 16) else getN a 8 (getN s 8 i)
def shufV (s a b : Vec) : Vec × Int := if (List.range 16).all (fun i => decide (getN s 8 i < 32)) = true then (buildOn 0 8 (shufF s a b) 16, 0) else (0, 1)
def swizF (a b : Vec) (i : Nat) : Nat := if getN b 8 i < 16 then getN a 8 (getN b 8 i) else 0
def swizV (a b : Vec) : Vec := buildOn 0 8 (swizF a b) 16
end Pl
namespace Go.Proofs.YtebpijlmeemfaaaGreatDoor
open Go.RowKit Pl
theorem below_alloc2' (w : World) (x y : Obj) : Below w.heap.size w ((w.alloc x).alloc y) := ((Below.refl _ _).alloc (Nat.le_refl _) _).alloc (by simp) _
theorem below_alloc2 (w : World) (x y : Obj) {u : World} (h : Below ((w.alloc x).alloc y).heap.size ((w.alloc x).alloc y) u) : Below w.heap.size w u := (below_alloc2' w x y).trans (h.mono (by simp; omega))
end Go.Proofs.YtebpijlmeemfaaaGreatDoor
end
section
namespace Go.Proofs.YtebpijlmeemfaaaGreatDoor
open Go.RowKit Pl
theorem store_zv {ops : Array Oper} {rest : List Oper} {o : Oper} {a : Act} {w : World} {Q : Exit → Act → World → Prop} (hgd : o.guard = none) (x y : Operand) (ho : o.op = .store 23 x y)
  (g : Nat) (hx : a.eval x = .pointer (some ⟨g, 0, none⟩)) (hy : a.eval y = .agg #[.int .u8 0, .int .u8 0, .int .u8 0, .int .u8 0, .int .u8 0, .int .u8 0, .int .u8 0, .int .u8 0, .int .u8 0, .int .u8 0, .int .u8 0, .int .u8 0, .int .u8 0, .int .u8 0, .int .u8 0, .int .u8 0]) (v : Vec) (hg : w.heap[g]? = some (.cells (cells v) 23 (0, 0)))
  (h : ∀ w', Sets w g 0 w' → wpList Tryz.prog ops Q rest (a.put o.dst undef) w') : wpList Tryz.prog ops Q (o :: rest) a w :=
 store_vec hgd x y ho g 0 hx (by rw [hy, cells_zero]) v hg h
theorem heap5_0 (w : World) (A B C D E : Obj) : (((((w.alloc A).alloc B).alloc C).alloc D).alloc E).heap[w.heap.size]? = some A := by
 rw [heap_alloc_old _ _ (by simp; omega), heap_alloc4_0]
theorem heap5_1 (w : World) (A B C D E : Obj) : (((((w.alloc A).alloc B).alloc C).alloc D).alloc E).heap[w.heap.size + 1]? = some B := by
 rw [heap_alloc_old _ _ (by simp), heap_alloc4_1]
theorem heap5_2 (w : World) (A B C D E : Obj) : (((((w.alloc A).alloc B).alloc C).alloc D).alloc E).heap[w.heap.size + 2]? = some C := by
 rw [heap_alloc_old _ _ (by simp), heap_alloc4_2]
theorem heap5_3 (w : World) (A B C D E : Obj) : (((((w.alloc A).alloc B).alloc C).alloc D).alloc E).heap[w.heap.size + 3]? = some D := by
 rw [heap_alloc_old _ _ (by simp), heap_alloc4_3]
theorem heap5_4 (w : World) (A B C D E : Obj) : (((((w.alloc A).alloc B).alloc C).alloc D).alloc E).heap[w.heap.size + 4]? = some E := by
 have := heap_alloc_new ((((w.alloc A).alloc B).alloc C).alloc D) E
 simpa using this
theorem below5 (w : World) (A B C D E : Obj) : Below w.heap.size w (((((w.alloc A).alloc B).alloc C).alloc D).alloc E) := (below_alloc4 w A B C D).alloc (by simp; omega) _
theorem cell_vec {w : World} {g : Nat} {v : Vec} (h : w.heap[g]? = some (.cells (cells v) 23 (0, 0))) (j : Nat) (hj : j < 16) : w.cell? ⟨g, j, none⟩ = some (.int .u8 ((getN v 8 j : Nat) : Int)) := by
 rw [cell_of_row w g j _ _ _ h, getElem?_cells _ _ hj]; rfl
theorem index_vec2 (v : Vec) (i : Nat) (hi : i < 16) (z : Int) (hz : ((getN v 8 i : Nat) : Int) = z) (u : World) : (Instr.index 23 (.agg (cells v)) (.int .i64 (i : Int))).run Tryz.prog u = .ok (.int .u8 z) u := by
 rw [← hz]; exact index_vec v i hi u
theorem build_skip (f : Nat → Nat) (i : Nat) (hi : i < 16) (h : f i = 0) : buildOn 0 8 f (i + 1) = buildOn 0 8 f i := by
 apply lanes_ext 8 16 (by decide) (by decide)
 intro k hk
 rw [getN_buildOn _ _ _ _ _ (by omega), getN_buildOn _ _ _ _ _ (by omega)]
 by_cases h1 : k < i
 ·rw [if_pos h1, if_pos (by omega)]
 ·by_cases h2 : k = i
  ·subst h2
   rw [if_pos (by omega), if_neg (by omega), h]
   have : getN (0 : Vec) 8 k = 0 := by simp [getN, bitsAt]
   rw [this]
  ·rw [if_neg (by omega), if_neg (by omega)]
set_option maxRecDepth 100000 in
set_option maxHeartbeats 2000000 in
theorem shuffle_r (s a b : Vec) (R : Vec) (E : Int) (h1 : (∀ k, k < 16 → getN s 8 k < 32) → R = buildOn 0 8 (shufF s a b) 16 ∧ E = 0) (h2 : ∀ k, k < 16 → ¬ getN s 8 k < 32 → R = 0 ∧ E = 1) (w : World) :
  Calls Tryz.prog 80 #[.agg (cells s), .agg (cells a), .agg (cells b)] w fun e w' => e = .returned (.tuple #[.agg (cells R), .int .i64 E]) ∧ Below w.heap.size w w' := by
 have H1 := Lib.hid h1
 have H2 := Lib.hid h2
 clear h1 h2
 go_enter Tryz.func80, Tryz.ntmps80
 go_upto_region 2 with fail
 rw [← cells_zero]
 obtain ⟨W, hW⟩ : ∃ W, W = (((((w.alloc (.cells (cells s) 23)).alloc (.cells (cells a) 23)).alloc (.cells (cells b) 23)).alloc (.cells (cells 0) 23)).alloc (.cells (cells 0) 23)) := ⟨_, rfl⟩
 have hA : W.heap[w.heap.size + 1]? = some (.cells (cells a) 23 (0, 0)) := by rw [hW]; exact heap5_1 _ _ _ _ _ _
 have hB : W.heap[w.heap.size + 2]? = some (.cells (cells b) 23 (0, 0)) := by rw [hW]; exact heap5_2 _ _ _ _ _ _
 have hR : W.heap[w.heap.size + 3]? = some (.cells (cells 0) 23 (0, 0)) := by rw [hW]; exact heap5_3 _ _ _ _ _ _
 have hO : W.heap[w.heap.size + 4]? = some (.cells (cells 0) 23 (0, 0)) := by rw [hW]; exact heap5_4 _ _ _ _ _ _
 have hZ : Below w.heap.size w W := by rw [hW]; exact below5 _ _ _ _ _ _
 have hS : W.heap[w.heap.size]? = some (.cells (cells s) 23 (0, 0)) := by rw [hW]; exact heap5_0 _ _ _ _ _ _
 rw [← hW]
 clear hW
 go_wp2_with (with_reducible refine load_vec rfl _ rfl _ rfl _ hS ?_)
 go_loopw [12] (fun j wr => ∃ i : Nat, i ≤ 16 ∧ j = .int .i64 i ∧ Hid (∀ k, k < i → getN s 8 k < 32) ∧ St W (w.heap.size + 4) (buildOn 0 8 (shufF s a b) i) wr) (fun j _ => 16 - (intOf j).toNat)
 case atStart => exact ⟨0, Nat.zero_le _, rfl, Lib.hid (fun k hk => absurd hk (Nat.not_lt_zero _)), St.start hO⟩
 case round =>
  obtain ⟨i, hi, rfl, HN, hs⟩ := hrel
  by_cases hli : i < 16
  ·have hA1 := hs.kb.get hA (by omega)
   have hB1 := hs.kb.get hB (by omega)
   have hR1 := hs.kb.get hR (by omega)
   by_cases h32 : getN s 8 i < 32
   ·by_cases h16 : 16 ≤ getN s 8 i
    ·obtain ⟨m, hm⟩ : ∃ m, getN s 8 i = m + 16 := ⟨getN s 8 i - 16, by omega⟩
     have hm16 : m < 16 := by omega
     have cI := index_vec2 s i hli ((m : Int) + 16) (by rw [hm]; rfl)
     have cB := cell_vec hB1 m hm16
     have hv : shufF s a b i = getN b 8 m := by unfold shufF; rw [if_pos h16, hm]; rfl
     have hvl := getN_lt b 8 m
     have hz : ((getN b 8 m : Nat) : Int) = ((shufF s a b i % 256 : Nat) : Int) := by rw [hv, Nat.mod_eq_of_lt hvl]
     have HV := Lib.hid hz
     have HNx : Hid (∀ k, k < i + 1 → getN s 8 k < 32) := Lib.hid (fun k hk => by
      by_cases e : k = i
      ·subst e; exact h32
      ·exact HN.out k (by omega))
     clear hz hv h32 h16 hm
     generalize getN b 8 m = bz at cB HV hvl
     go_wp2_with (refine store_byte rfl _ _ rfl (w.heap.size + 4) i _ (shufF s a b i) rfl rfl _ hs.this hli HV.out ?_; intro wy hy)
     go_roundw
     case rel => exact ⟨i + 1, by omega, by go_num, HNx, hs.sets hy⟩
     case measure => (simp [intOf] <;> omega)
    ·obtain ⟨m, hm⟩ : ∃ m, getN s 8 i = m := ⟨_, rfl⟩
     have hm16 : m < 16 := by omega
     have cI := index_vec2 s i hli (m : Int) (by rw [hm])
     have cA := cell_vec hA1 m hm16
     have hv : shufF s a b i = getN a 8 m := by unfold shufF; rw [if_neg h16, hm]
     have hvl := getN_lt a 8 m
     have hz : ((getN a 8 m : Nat) : Int) = ((shufF s a b i % 256 : Nat) : Int) := by rw [hv, Nat.mod_eq_of_lt hvl]
     have HV := Lib.hid hz
     have HNx : Hid (∀ k, k < i + 1 → getN s 8 k < 32) := Lib.hid (fun k hk => by
      by_cases e : k = i
      ·subst e; exact h32
      ·exact HN.out k (by omega))
     clear hz hv h32 h16 hm
     generalize getN a 8 m = bz at cA HV hvl
     go_wp2_with (refine store_byte rfl _ _ rfl (w.heap.size + 4) i _ (shufF s a b i) rfl rfl _ hs.this hli HV.out ?_; intro wy hy)
     go_roundw
     case rel => exact ⟨i + 1, by omega, by go_num, HNx, hs.sets hy⟩
     case measure => (simp [intOf] <;> omega)
   ·obtain ⟨rfl, rfl⟩ := H2.out i hli h32
    obtain ⟨m, hm⟩ : ∃ m, getN s 8 i = m := ⟨_, rfl⟩
    have cI := index_vec2 s i hli (m : Int) (by rw [hm])
    have hm32 : (32 : Int) ≤ (m : Int) := by omega
    clear h32 hm
    go_wp2_with (with_reducible refine store_zv rfl _ _ rfl (w.heap.size + 3) rfl rfl _ hR1 ?_; intro wq hq)
    exact bodyPost_ret (results_vec_tmp rfl _ _ (w.heap.size + 3) _ _ rfl rfl hq.this) rfl ⟨rfl, (hs.kb.to_below hZ (by omega)).trans (hq.below.mono (by omega))⟩
  ·obtain rfl : i = 16 := by omega
   have hR1 := hs.kb.get hR (by omega)
   obtain ⟨rfl, rfl⟩ := H1.out HN.out
   go_wp2_with (first | (with_reducible refine load_vec rfl _ rfl _ rfl _ hs.this ?_) | (with_reducible refine store_vec rfl _ _ rfl (w.heap.size + 3) _ rfl rfl _ hR1 ?_; intro wq hq))
   exact bodyPost_ret (results_vec_tmp rfl _ _ (w.heap.size + 3) _ _ rfl rfl hq.this) rfl ⟨rfl, (hs.kb.to_below hZ (by omega)).trans (hq.below.mono (by omega))⟩
theorem shuffle_k (s a b : Vec) (w : World) :
  Calls Tryz.prog 80 #[.agg (cells s), .agg (cells a), .agg (cells b)] w fun e w' => e = .returned (.tuple #[.agg (cells (shufV s a b).1), .int .i64 (shufV s a b).2]) ∧ Below w.heap.size w w' := by
 refine shuffle_r s a b _ _ (fun h => ?_) (fun k hk h => ?_) w
 ·unfold shufV
  rw [if_pos]
  ·exact ⟨rfl, rfl⟩
  ·rw [List.all_eq_true]
   intro k hk
   have := h k (List.mem_range.1 hk)
   simp [this]
 ·unfold shufV
  rw [if_neg]
  ·exact ⟨rfl, rfl⟩
  ·intro h'
   have := List.all_eq_true.1 h' k (List.mem_range.2 hk)
   simp at this
   omega
set_option maxRecDepth 100000 in
set_option maxHeartbeats 2000000 in
theorem swizzle_k (a b : Vec) (w : World) :
  Calls Tryz.prog 83 #[.agg (cells a), .agg (cells b)] w fun e w' => e = .returned (.agg (cells (swizV a b))) ∧ Below w.heap.size w w' := by
 go_enter Tryz.func83, Tryz.ntmps83
 go_wp2_with (with_reducible refine load_vec rfl _ rfl _ rfl _ (heap_alloc4_1 _ _ _ _ _) ?_)
 rw [← cells_zero]
 obtain ⟨W, hW⟩ : ∃ W, W = ((((w.alloc (.cells (cells a) 23)).alloc (.cells (cells b) 23)).alloc (.cells (cells 0) 23)).alloc (.cells (cells 0) 23)) := ⟨_, rfl⟩
 have hA : W.heap[w.heap.size]? = some (.cells (cells a) 23 (0, 0)) := by rw [hW]; exact heap_alloc4_0 _ _ _ _ _
 have hR : W.heap[w.heap.size + 2]? = some (.cells (cells 0) 23 (0, 0)) := by rw [hW]; exact heap_alloc4_2 _ _ _ _ _
 have hO : W.heap[w.heap.size + 3]? = some (.cells (cells 0) 23 (0, 0)) := by rw [hW]; exact heap_alloc4_3 _ _ _ _ _
 have hZ : Below w.heap.size w W := by rw [hW]; exact below_alloc4 _ _ _ _ _
 rw [← hW]
 clear hW
 go_loopw [9] (fun j wr => ∃ i : Nat, i ≤ 16 ∧ j = .int .i64 i ∧ St W (w.heap.size + 3) (buildOn 0 8 (swizF a b) i) wr) (fun j _ => 16 - (intOf j).toNat)
 case atStart => exact ⟨0, Nat.zero_le _, rfl, St.start hO⟩
 case round =>
  obtain ⟨i, hi, rfl, hs⟩ := hrel
  by_cases hli : i < 16
  ·have hA1 := hs.kb.get hA (by omega)
   obtain ⟨m, hm⟩ : ∃ m, getN b 8 i = m := ⟨_, rfl⟩
   have cI := index_vec2 b i hli (m : Int) (by rw [hm])
   by_cases h16 : m < 16
   ·have cA := cell_vec hA1 m h16
    have hv : swizF a b i = getN a 8 m := by unfold swizF; rw [hm, if_pos h16]
    have hvl := getN_lt a 8 m
    have hz : ((getN a 8 m : Nat) : Int) = ((swizF a b i % 256 : Nat) : Int) := by rw [hv, Nat.mod_eq_of_lt hvl]
    have HV := Lib.hid hz
    clear hz hv hm
    generalize getN a 8 m = bz at cA HV hvl
    go_wp2_with (refine store_byte rfl _ _ rfl (w.heap.size + 3) i _ (swizF a b i) rfl rfl _ hs.this hli HV.out ?_; intro wy hy)
    go_roundw
    case rel => exact ⟨i + 1, by omega, by go_num, hs.sets hy⟩
    case measure => (simp [intOf] <;> omega)
   ·have hv : swizF a b i = 0 := by unfold swizF; rw [hm, if_neg h16]
    have hst : St W (w.heap.size + 3) (buildOn 0 8 (swizF a b) (i + 1)) wr := by rw [build_skip _ _ hli hv]; exact hs
    have h17 : (16 : Int) ≤ (m : Int) := by omega
    clear hv hm h16
    go_wp2_with fail
    go_roundw
    case rel => exact ⟨i + 1, by omega, by go_num, hst⟩
    case measure => (simp [intOf] <;> omega)
  ·obtain rfl : i = 16 := by omega
   have hR1 := hs.kb.get hR (by omega)
   go_wp2_with (first | (with_reducible refine load_vec rfl _ rfl _ rfl _ hs.this ?_) | (with_reducible refine store_vec rfl _ _ rfl (w.heap.size + 2) _ rfl rfl _ hR1 ?_; intro wq hq))
   exact bodyPost_ret (results_cell_row rfl _ _ (w.heap.size + 2) _ _ _ _ rfl hq.this vunder rfl (vsize _)) rfl ⟨rfl, (hs.kb.to_below hZ (by omega)).trans (hq.below.mono (by omega))⟩
end Go.Proofs.YtebpijlmeemfaaaGreatDoor
end
