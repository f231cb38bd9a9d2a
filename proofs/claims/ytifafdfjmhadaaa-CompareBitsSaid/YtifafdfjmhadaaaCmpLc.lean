/-
  plaitlaw06.cmp, two, not: their contracts.
-/
import Derived.Deep.Cut
import Derived.Test.YtifafdfjmhadaaaBuild
import Derived.Test.YtifafdfjmhadaaaCmpO
set_option linter.unusedSimpArgs false
set_option linter.unusedVariables false
namespace Go.Proofs.Ytifafdfjmhadaaa
open Go.RowKit Pl

theorem lcm_any (op : Int) (a b : Vec) (w : World) (ho : -9223372036854775808 ≤ op ∧ op ≤ 9223372036854775807) :
    Calls Try.prog 18 #[.int .i64 op, .agg (cells a), .agg (cells b)] w fun e w' => e = .returned (.agg (cells (cmpV op a b).1)) ∧ Below w.heap.size w w' := by
  have H := Lib.hid ho
  clear ho
  go_enter Try.func18, Try.ntmps18
  go_wp2_with (first | (with_reducible refine load_vec rfl _ rfl _ rfl _ (heap_alloc3_0 _ _ _ _) ?_) | (with_reducible refine load_vec rfl _ rfl _ rfl _ (heap_alloc3_1 _ _ _ _) ?_))
  refine (cmp_any op a b _ H.out).mono ?_
  rintro e u1 ⟨rfl, hb⟩
  have hX := blk_keep (heap_z3 w _ _ _) hb
  have hZ := (below_alloc3 w (.cells (cells a) 23) (.cells (cells b) 23) _).trans (hb.mono (by simp; omega))
  go_wp2_with (first | (with_reducible refine store_vec rfl _ _ rfl _ _ rfl rfl 0 (heap_new_zero _) ?_; intro wA hA; have hR2 := blk_sets (blk_alloc hX _) hA (Nat.ne_of_lt (block_lt hX)); have hZ2 := below_store hZ (Nat.le_refl _) hA) | (with_reducible refine load_vec rfl _ rfl _ rfl _ hA.this ?_) | (with_reducible refine store_vec rfl _ _ rfl (w.heap.size + 2) _ rfl rfl _ hR2 ?_; intro wq hq))
  exact bodyPost_ret (results_cell_row rfl _ _ (w.heap.size + 2) _ _ _ _ rfl hq.this vunder rfl (vsize _)) rfl ⟨rfl, hZ2.trans (hq.below.mono (by omega))⟩
theorem do_loadK {ops : Array Oper} {S : World → Prop} {L : Act → Prop} {o : Oper} {rest : List Oper} {a : Act} (hg : o.guard = none) (x : Operand) (ho : o.op = .load 3 x) (g j : Nat)
    (hx : a.eval x = .pointer (some ⟨g, j, none⟩)) (z : Value) (h : ∀ w, S w → w.cell? ⟨g, j, none⟩ = some z)
    (hr : wpD Try.prog ops S L rest (a.put o.dst z)) : wpD Try.prog ops S L (o :: rest) a :=
  wpD_here hg (fun w hS => by
    have ha : (isAgg 3).run Try.prog w = .ok false w := by kernel_rfl
    unfold execOp
    simp only [ho, hx, Instr.loadAt, Instr.sureAddr, Sem.run_bind, Sem.run_pure, Result.andThen_ok]
    simp [loadVar, Sem.run_bind, ha, h w hS, go_sem]) hr
theorem heap_z2 (w : World) (A : Obj) (t : TypeId) : ((w.alloc A).alloc (.cells #[.int .u8 0, .int .u8 0, .int .u8 0, .int .u8 0, .int .u8 0, .int .u8 0, .int .u8 0, .int .u8 0, .int .u8 0, .int .u8 0, .int .u8 0, .int .u8 0, .int .u8 0, .int .u8 0, .int .u8 0, .int .u8 0] t)).heap[w.heap.size + 1]? = some (.cells (cells 0) t (0, 0)) := by
  rw [cells_zero]; exact heap_alloc2_new _ _ _
theorem one_laidB (a : Vec) (u : World) (t : TypeId) (B : Nat) (hB : B = u.heap.size) : (u.alloc (.cells (Array.foldl (fun cs x => cs.setIfInBounds x.2 x.1) #[.int .u8 0, .int .u8 0, .int .u8 0, .int .u8 0, .int .u8 0, .int .u8 0, .int .u8 0, .int .u8 0, .int .u8 0, .int .u8 0, .int .u8 0, .int .u8 0, .int .u8 0, .int .u8 0, .int .u8 0, .int .u8 0] (cells a).zipIdx 0 16) t)).rangeAt B 0 (cells a).toList := hB ▸ one_laid a u t
theorem two_laid0 (a b : Vec) (u : World) (t : TypeId) (B : Nat) (hB : B = u.heap.size) : (u.alloc (.cells (Array.foldl (fun cs x => cs.setIfInBounds (16 + x.2) x.1) (Array.foldl (fun cs x => cs.setIfInBounds x.2 x.1) #[.int .u8 0, .int .u8 0, .int .u8 0, .int .u8 0, .int .u8 0, .int .u8 0, .int .u8 0, .int .u8 0, .int .u8 0, .int .u8 0, .int .u8 0, .int .u8 0, .int .u8 0, .int .u8 0, .int .u8 0, .int .u8 0, .int .u8 0, .int .u8 0, .int .u8 0, .int .u8 0, .int .u8 0, .int .u8 0, .int .u8 0, .int .u8 0, .int .u8 0, .int .u8 0, .int .u8 0, .int .u8 0, .int .u8 0, .int .u8 0, .int .u8 0, .int .u8 0] (cells a).zipIdx 0 16) (cells b).zipIdx 0 16) t)).rangeAt B 0 (cells a).toList := hB ▸ (two_laid a b u t).1
theorem two_laid1 (a b : Vec) (u : World) (t : TypeId) (B : Nat) (hB : B = u.heap.size) : (u.alloc (.cells (Array.foldl (fun cs x => cs.setIfInBounds (16 + x.2) x.1) (Array.foldl (fun cs x => cs.setIfInBounds x.2 x.1) #[.int .u8 0, .int .u8 0, .int .u8 0, .int .u8 0, .int .u8 0, .int .u8 0, .int .u8 0, .int .u8 0, .int .u8 0, .int .u8 0, .int .u8 0, .int .u8 0, .int .u8 0, .int .u8 0, .int .u8 0, .int .u8 0, .int .u8 0, .int .u8 0, .int .u8 0, .int .u8 0, .int .u8 0, .int .u8 0, .int .u8 0, .int .u8 0, .int .u8 0, .int .u8 0, .int .u8 0, .int .u8 0, .int .u8 0, .int .u8 0, .int .u8 0, .int .u8 0] (cells a).zipIdx 0 16) (cells b).zipIdx 0 16) t)).rangeAt B 16 (cells b).toList := hB ▸ (two_laid a b u t).2
set_option maxRecDepth 100000 in
set_option maxHeartbeats 400000 in
theorem lnot_any (a : Vec) (w : World) :
    Calls Try.prog 17 #[.agg (cells a)] w fun e w' => e = .returned (.agg (cells (~~~a))) ∧ Below w.heap.size w w' := by
  go_enter Try.func17, Try.ntmps17
  go_wp2_with (with_reducible refine load_vec rfl _ rfl _ rfl _ (heap_alloc2_old _ _ _) ?_)
  refine (bits_77 a a a _ _ _ (by simp) (one_laidB a _ _ _ (by simp)) (one_laidB a _ _ _ (by simp)) (one_laidB a _ _ _ (by simp))).mono ?_
  rintro e u1 ⟨rfl, hb⟩
  have hX := blk_keep (blk_alloc (heap_z2 w _ _) _) hb
  have hZ := ((((Below.refl _ w).alloc (Nat.le_refl _) (.cells (cells a) 23)).alloc (by simp) _).alloc (by simp; omega) _).trans (hb.mono (by simp; omega))
  go_wp2_with (first | (with_reducible refine store_vec rfl _ _ rfl _ _ rfl rfl 0 (heap_new_zero _) ?_; intro wA hA; have hR2 := blk_sets (blk_alloc hX _) hA (Nat.ne_of_lt (block_lt hX)); have hZ2 := below_store hZ (Nat.le_refl _) hA) | (with_reducible refine load_vec rfl _ rfl _ rfl _ hA.this ?_) | (with_reducible refine store_vec rfl _ _ rfl (w.heap.size + 1) _ rfl rfl _ hR2 ?_; intro wq hq))
  exact bodyPost_ret (results_cell_row rfl _ _ (w.heap.size + 1) _ _ _ _ rfl hq.this vunder rfl (vsize _)) rfl ⟨rfl, hZ2.trans (hq.below.mono (by omega))⟩

set_option maxRecDepth 100000 in
set_option maxHeartbeats 400000 in
theorem ltwo_78 (a b : Vec) (w : World) :
    Calls Try.prog 19 #[.int .i64 78, .agg (cells a), .agg (cells b)] w fun e w' => e = .returned (.agg (cells (a &&& b))) ∧ Below w.heap.size w w' := by
  go_enter Try.func19, Try.ntmps19
  go_upto_region 1 with fail
  rw [← cells_zero]
  obtain ⟨W, hW⟩ : ∃ W, W = ((w.alloc (.cells (cells a) 23)).alloc (.cells (cells b) 23)).alloc (.cells (cells 0) 23) := ⟨_, rfl⟩
  have hs := HL.three w a b 0
  have hZ0 : Below w.heap.size w W := hW ▸ below_alloc3 _ _ _ _
  have hN : W.heap.size = w.heap.size + 3 := by rw [hW]; simp
  rw [← hW] at hs ⊢
  clear hW
  have HN := Lib.hid hN
  clear hN
  go_wp2_with (first | (with_reducible refine load_vec rfl _ rfl _ rfl _ (hs.hold (_, a) (List.mem_cons_of_mem _ (List.mem_cons_of_mem _ List.mem_cons_self))) ?_) | (with_reducible refine load_vec rfl _ rfl _ rfl _ (hs.hold (_, b) (List.mem_cons_of_mem _ List.mem_cons_self)) ?_) | (with_reducible refine build2 rfl _ _ rfl a b rfl rfl ?_; intro wB hB))
  refine (bits_78 a b b _ _ _ hB.lt hB.r0 hB.r1 hB.r1).mono ?_
  rintro e u1 ⟨rfl, hb⟩
  have hX := blk_keep (blk_keep (hs.hold (_, 0) List.mem_cons_self) hB.bel) hb
  have hZ := (hZ0.trans (hB.bel.mono hZ0.size)).trans (hb.mono (Nat.le_trans hZ0.size (Nat.le_of_lt hB.lt)))
  clear hs hZ0 hb
  go_wp2_with (first | (with_reducible refine store_vec rfl _ _ rfl _ _ rfl rfl 0 (heap_new_zero _) ?_; intro wA hA; have hR2 := blk_sets (blk_alloc hX _) hA (Nat.ne_of_lt (block_lt hX)); have hZ2 := below_store hZ (Nat.le_refl _) hA) | (with_reducible refine load_vec rfl _ rfl _ rfl _ hA.this ?_) | (with_reducible refine store_vec rfl _ _ rfl (w.heap.size + 2) _ rfl rfl _ hR2 ?_; intro wq hq))
  exact bodyPost_ret (results_cell_row rfl _ _ (w.heap.size + 2) _ _ _ _ rfl hq.this vunder rfl (vsize _)) rfl ⟨rfl, hZ2.trans (hq.below.mono (by omega))⟩

set_option maxRecDepth 100000 in
set_option maxHeartbeats 400000 in
theorem ltwo_79 (a b : Vec) (w : World) :
    Calls Try.prog 19 #[.int .i64 79, .agg (cells a), .agg (cells b)] w fun e w' => e = .returned (.agg (cells (a &&& ~~~b))) ∧ Below w.heap.size w w' := by
  go_enter Try.func19, Try.ntmps19
  go_upto_region 1 with fail
  rw [← cells_zero]
  obtain ⟨W, hW⟩ : ∃ W, W = ((w.alloc (.cells (cells a) 23)).alloc (.cells (cells b) 23)).alloc (.cells (cells 0) 23) := ⟨_, rfl⟩
  have hs := HL.three w a b 0
  have hZ0 : Below w.heap.size w W := hW ▸ below_alloc3 _ _ _ _
  have hN : W.heap.size = w.heap.size + 3 := by rw [hW]; simp
  rw [← hW] at hs ⊢
  clear hW
  have HN := Lib.hid hN
  clear hN
  go_wp2_with (first | (with_reducible refine load_vec rfl _ rfl _ rfl _ (hs.hold (_, a) (List.mem_cons_of_mem _ (List.mem_cons_of_mem _ List.mem_cons_self))) ?_) | (with_reducible refine load_vec rfl _ rfl _ rfl _ (hs.hold (_, b) (List.mem_cons_of_mem _ List.mem_cons_self)) ?_) | (with_reducible refine build2 rfl _ _ rfl a b rfl rfl ?_; intro wB hB))
  refine (bits_79 a b b _ _ _ hB.lt hB.r0 hB.r1 hB.r1).mono ?_
  rintro e u1 ⟨rfl, hb⟩
  have hX := blk_keep (blk_keep (hs.hold (_, 0) List.mem_cons_self) hB.bel) hb
  have hZ := (hZ0.trans (hB.bel.mono hZ0.size)).trans (hb.mono (Nat.le_trans hZ0.size (Nat.le_of_lt hB.lt)))
  clear hs hZ0 hb
  go_wp2_with (first | (with_reducible refine store_vec rfl _ _ rfl _ _ rfl rfl 0 (heap_new_zero _) ?_; intro wA hA; have hR2 := blk_sets (blk_alloc hX _) hA (Nat.ne_of_lt (block_lt hX)); have hZ2 := below_store hZ (Nat.le_refl _) hA) | (with_reducible refine load_vec rfl _ rfl _ rfl _ hA.this ?_) | (with_reducible refine store_vec rfl _ _ rfl (w.heap.size + 2) _ rfl rfl _ hR2 ?_; intro wq hq))
  exact bodyPost_ret (results_cell_row rfl _ _ (w.heap.size + 2) _ _ _ _ rfl hq.this vunder rfl (vsize _)) rfl ⟨rfl, hZ2.trans (hq.below.mono (by omega))⟩

set_option maxRecDepth 100000 in
set_option maxHeartbeats 400000 in
theorem ltwo_80 (a b : Vec) (w : World) :
    Calls Try.prog 19 #[.int .i64 80, .agg (cells a), .agg (cells b)] w fun e w' => e = .returned (.agg (cells (a ||| b))) ∧ Below w.heap.size w w' := by
  go_enter Try.func19, Try.ntmps19
  go_upto_region 1 with fail
  rw [← cells_zero]
  obtain ⟨W, hW⟩ : ∃ W, W = ((w.alloc (.cells (cells a) 23)).alloc (.cells (cells b) 23)).alloc (.cells (cells 0) 23) := ⟨_, rfl⟩
  have hs := HL.three w a b 0
  have hZ0 : Below w.heap.size w W := hW ▸ below_alloc3 _ _ _ _
  have hN : W.heap.size = w.heap.size + 3 := by rw [hW]; simp
  rw [← hW] at hs ⊢
  clear hW
  have HN := Lib.hid hN
  clear hN
  go_wp2_with (first | (with_reducible refine load_vec rfl _ rfl _ rfl _ (hs.hold (_, a) (List.mem_cons_of_mem _ (List.mem_cons_of_mem _ List.mem_cons_self))) ?_) | (with_reducible refine load_vec rfl _ rfl _ rfl _ (hs.hold (_, b) (List.mem_cons_of_mem _ List.mem_cons_self)) ?_) | (with_reducible refine build2 rfl _ _ rfl a b rfl rfl ?_; intro wB hB))
  refine (bits_80 a b b _ _ _ hB.lt hB.r0 hB.r1 hB.r1).mono ?_
  rintro e u1 ⟨rfl, hb⟩
  have hX := blk_keep (blk_keep (hs.hold (_, 0) List.mem_cons_self) hB.bel) hb
  have hZ := (hZ0.trans (hB.bel.mono hZ0.size)).trans (hb.mono (Nat.le_trans hZ0.size (Nat.le_of_lt hB.lt)))
  clear hs hZ0 hb
  go_wp2_with (first | (with_reducible refine store_vec rfl _ _ rfl _ _ rfl rfl 0 (heap_new_zero _) ?_; intro wA hA; have hR2 := blk_sets (blk_alloc hX _) hA (Nat.ne_of_lt (block_lt hX)); have hZ2 := below_store hZ (Nat.le_refl _) hA) | (with_reducible refine load_vec rfl _ rfl _ rfl _ hA.this ?_) | (with_reducible refine store_vec rfl _ _ rfl (w.heap.size + 2) _ rfl rfl _ hR2 ?_; intro wq hq))
  exact bodyPost_ret (results_cell_row rfl _ _ (w.heap.size + 2) _ _ _ _ rfl hq.this vunder rfl (vsize _)) rfl ⟨rfl, hZ2.trans (hq.below.mono (by omega))⟩

set_option maxRecDepth 100000 in
set_option maxHeartbeats 400000 in
theorem ltwo_81 (a b : Vec) (w : World) :
    Calls Try.prog 19 #[.int .i64 81, .agg (cells a), .agg (cells b)] w fun e w' => e = .returned (.agg (cells (a ^^^ b))) ∧ Below w.heap.size w w' := by
  go_enter Try.func19, Try.ntmps19
  go_upto_region 1 with fail
  rw [← cells_zero]
  obtain ⟨W, hW⟩ : ∃ W, W = ((w.alloc (.cells (cells a) 23)).alloc (.cells (cells b) 23)).alloc (.cells (cells 0) 23) := ⟨_, rfl⟩
  have hs := HL.three w a b 0
  have hZ0 : Below w.heap.size w W := hW ▸ below_alloc3 _ _ _ _
  have hN : W.heap.size = w.heap.size + 3 := by rw [hW]; simp
  rw [← hW] at hs ⊢
  clear hW
  have HN := Lib.hid hN
  clear hN
  go_wp2_with (first | (with_reducible refine load_vec rfl _ rfl _ rfl _ (hs.hold (_, a) (List.mem_cons_of_mem _ (List.mem_cons_of_mem _ List.mem_cons_self))) ?_) | (with_reducible refine load_vec rfl _ rfl _ rfl _ (hs.hold (_, b) (List.mem_cons_of_mem _ List.mem_cons_self)) ?_) | (with_reducible refine build2 rfl _ _ rfl a b rfl rfl ?_; intro wB hB))
  refine (bits_81 a b b _ _ _ hB.lt hB.r0 hB.r1 hB.r1).mono ?_
  rintro e u1 ⟨rfl, hb⟩
  have hX := blk_keep (blk_keep (hs.hold (_, 0) List.mem_cons_self) hB.bel) hb
  have hZ := (hZ0.trans (hB.bel.mono hZ0.size)).trans (hb.mono (Nat.le_trans hZ0.size (Nat.le_of_lt hB.lt)))
  clear hs hZ0 hb
  go_wp2_with (first | (with_reducible refine store_vec rfl _ _ rfl _ _ rfl rfl 0 (heap_new_zero _) ?_; intro wA hA; have hR2 := blk_sets (blk_alloc hX _) hA (Nat.ne_of_lt (block_lt hX)); have hZ2 := below_store hZ (Nat.le_refl _) hA) | (with_reducible refine load_vec rfl _ rfl _ rfl _ hA.this ?_) | (with_reducible refine store_vec rfl _ _ rfl (w.heap.size + 2) _ rfl rfl _ hR2 ?_; intro wq hq))
  exact bodyPost_ret (results_cell_row rfl _ _ (w.heap.size + 2) _ _ _ _ rfl hq.this vunder rfl (vsize _)) rfl ⟨rfl, hZ2.trans (hq.below.mono (by omega))⟩

theorem lcv8 (c : Nat) (hc : c < 10) (a b : Vec) (w : World) : Calls Try.prog 18 #[.int .i64 (64803 + (c : Int)), .agg (cells a), .agg (cells b)] w fun e w' => e = .returned (.agg (cells (CV 8 c a b))) ∧ Below w.heap.size w w' := by
  have h := lcm_any (64803 + (c : Int)) a b w (by omega)
  unfold cmpV at h
  rw [if_pos (by omega), show (64803 : Int) + (c : Int) - 64803 = c by omega] at h
  exact h
theorem lcv16 (c : Nat) (hc : c < 10) (a b : Vec) (w : World) : Calls Try.prog 18 #[.int .i64 (64813 + (c : Int)), .agg (cells a), .agg (cells b)] w fun e w' => e = .returned (.agg (cells (CV 16 c a b))) ∧ Below w.heap.size w w' := by
  have h := lcm_any (64813 + (c : Int)) a b w (by omega)
  unfold cmpV at h
  rw [if_neg (by omega), if_pos (by omega), show (64813 : Int) + (c : Int) - 64813 = c by omega] at h
  exact h
theorem lcv32 (c : Nat) (hc : c < 10) (a b : Vec) (w : World) : Calls Try.prog 18 #[.int .i64 (64823 + (c : Int)), .agg (cells a), .agg (cells b)] w fun e w' => e = .returned (.agg (cells (CV 32 c a b))) ∧ Below w.heap.size w w' := by
  have h := lcm_any (64823 + (c : Int)) a b w (by omega)
  unfold cmpV at h
  rw [if_neg (by omega), if_neg (by omega), if_pos (by omega), show (64823 : Int) + (c : Int) - 64823 = c by omega] at h
  exact h
theorem lcv64_0 (a b : Vec) (w : World) : Calls Try.prog 18 #[.int .i64 64982, .agg (cells a), .agg (cells b)] w fun e w' => e = .returned (.agg (cells (CV 64 0 a b))) ∧ Below w.heap.size w w' :=
  lcm_any 64982 a b w (by decide)
theorem lcv64_1 (a b : Vec) (w : World) : Calls Try.prog 18 #[.int .i64 64983, .agg (cells a), .agg (cells b)] w fun e w' => e = .returned (.agg (cells (CV 64 1 a b))) ∧ Below w.heap.size w w' :=
  lcm_any 64983 a b w (by decide)
theorem lcv64_2 (a b : Vec) (w : World) : Calls Try.prog 18 #[.int .i64 64984, .agg (cells a), .agg (cells b)] w fun e w' => e = .returned (.agg (cells (CV 64 2 a b))) ∧ Below w.heap.size w w' :=
  lcm_any 64984 a b w (by decide)
theorem lcv64_4 (a b : Vec) (w : World) : Calls Try.prog 18 #[.int .i64 64985, .agg (cells a), .agg (cells b)] w fun e w' => e = .returned (.agg (cells (CV 64 4 a b))) ∧ Below w.heap.size w w' :=
  lcm_any 64985 a b w (by decide)
theorem lcv64_6 (a b : Vec) (w : World) : Calls Try.prog 18 #[.int .i64 64986, .agg (cells a), .agg (cells b)] w fun e w' => e = .returned (.agg (cells (CV 64 6 a b))) ∧ Below w.heap.size w w' :=
  lcm_any 64986 a b w (by decide)
theorem lcv64_8 (a b : Vec) (w : World) : Calls Try.prog 18 #[.int .i64 64987, .agg (cells a), .agg (cells b)] w fun e w' => e = .returned (.agg (cells (CV 64 8 a b))) ∧ Below w.heap.size w w' :=
  lcm_any 64987 a b w (by decide)
end Go.Proofs.Ytifafdfjmhadaaa
