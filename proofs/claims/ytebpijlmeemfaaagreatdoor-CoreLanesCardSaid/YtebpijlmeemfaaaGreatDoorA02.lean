/- A part of the proof that plaittop.CoreLanes returns true. -/
import Derived.Test.YtebpijlmeemfaaaGreatDoorA01
set_option linter.all false
set_option linter.unusedSectionVars false
set_option linter.unusedSimpArgs false
set_option linter.unusedVariables false
section
namespace Go.Proofs.YtebpijlmeemfaaaGreatDoor
open Go.RowKit Pl
theorem vsize (v : Vec) : (Tryz.prog.info? 23).map (·.size) = some (cells v).size := by rw [size_cells]; kernel_rfl
theorem vunder : Tryz.prog.underlying 23 = some (.array 16 5) := by kernel_rfl
theorem load_vec {ops : Array Oper} {rest : List Oper} {o : Oper} {a : Act} {w : World} {Q : Exit → Act → World → Prop} (hgd : o.guard = none) (x : Operand) (ho : o.op = .load 23 x)
  (g : Nat) (hx : a.eval x = .pointer (some ⟨g, 0, none⟩)) (v : Vec) (hg : w.heap[g]? = some (.cells (cells v) 23 (0, 0)))
  (h : wpList Tryz.prog ops Q rest (a.put o.dst (.agg (cells v))) w) : wpList Tryz.prog ops Q (o :: rest) a w :=
 wpList_load_row hgd _ x ho g hx _ _ _ _ hg vunder rfl (vsize v) h
structure Sets (w : World) (g : Nat) (v : Vec) (w' : World) : Prop where
 os : w'.os = w.os
 tape : w'.tape = w.tape
 output : w'.output = w.output
 size : w'.heap.size = w.heap.size
 this : w'.heap[g]? = some (.cells (cells v) 23 (0, 0))
 other : ∀ k, k ≠ g → w'.heap[k]? = w.heap[k]?
theorem sets_setRow {w : World} {g : Nat} {u : Vec} (v : Vec) (hg : w.heap[g]? = some (.cells (cells u) 23 (0, 0))) : Sets w g v (w.setRow g (cells v)) :=
 ⟨rfl, rfl, rfl, size_setRow _ _ _, setRow_heap w g _ _ _ _ hg, fun k hk => setRow_other w g k _ hk⟩
theorem store_vec {ops : Array Oper} {rest : List Oper} {o : Oper} {a : Act} {w : World} {Q : Exit → Act → World → Prop} (hgd : o.guard = none) (x y : Operand) (ho : o.op = .store 23 x y)
  (g : Nat) (v : Vec) (hx : a.eval x = .pointer (some ⟨g, 0, none⟩)) (hy : a.eval y = .agg (cells v)) (u : Vec) (hg : w.heap[g]? = some (.cells (cells u) 23 (0, 0)))
  (h : ∀ w', Sets w g v w' → wpList Tryz.prog ops Q rest (a.put o.dst undef) w') : wpList Tryz.prog ops Q (o :: rest) a w :=
 wpList_store_row hgd _ x y ho g (cells v) hx hy _ _ hg (vsize v) (by simp) (all_cells v) (h _ (sets_setRow v hg))
theorem run_store_byte (w : World) (b j : Nat) (x : Int) (y : Value) (hc : w.cell? ⟨b, j, none⟩ = some y) (hf : w.frozen? ⟨b, j, none⟩ = false) :
  (Instr.storeAt 5 (.pointer (some ⟨b, j, none⟩)) (.int .u8 x)).run Tryz.prog w = .ok () (w.setCell ⟨b, j, none⟩ (.int .u8 x)) := by
 have h1 : (sizeOf 5).run Tryz.prog w = .ok 1 w := by kernel_rfl
 simp [Instr.storeAt, Instr.sureAddr, storeVar, h1, Value.cells, storeCells, Addr.add, hc, hf, go_sem]
theorem sets_setCell {w : World} {g : Nat} {v : Vec} (j n : Nat) (hj : j < 16) (hg : w.heap[g]? = some (.cells (cells v) 23 (0, 0))) :
  Sets w g (putAt v (8 * j) 8 n) (w.setCell ⟨g, j, none⟩ (.int .u8 ((n % 256 : Nat) : Int))) :=
 ⟨rfl, rfl, rfl, by simp [World.setCell], by rw [heap_setCell_same w g j _ _ _ hg, set_cells v j n hj], fun k hk => heap_setCell_other w _ k _ hk⟩
theorem store_byte {ops : Array Oper} {rest : List Oper} {o : Oper} {a : Act} {w : World} {Q : Exit → Act → World → Prop} (hgd : o.guard = none) (x y : Operand) (ho : o.op = .store 5 x y)
  (g j : Nat) (z : Int) (n : Nat) (hx : a.eval x = .pointer (some ⟨g, j, none⟩)) (hy : a.eval y = .int .u8 z) (v : Vec) (hg : w.heap[g]? = some (.cells (cells v) 23 (0, 0)))
  (hj : j < 16) (hz : z = (n % 256 : Nat))
  (h : ∀ w', Sets w g (putAt v (8 * j) 8 n) w' → wpList Tryz.prog ops Q rest (a.put o.dst undef) w') : wpList Tryz.prog ops Q (o :: rest) a w := by
 subst hz
 refine wpList_plain hgd fun _ hK => ?_
 unfold Oper.wp execOp
 simp only [ho, hx, hy]
 rw [Sem.run_bind, run_store_byte w g j _ (byteV v j) (by rw [cell_of_row w g j _ _ _ hg, getElem?_cells _ _ hj]) (frozen_of_row w g j _ _ hg)]
 exact hK _ _ (h _ (sets_setCell j n hj hg))
theorem Sets.refl {w : World} {g : Nat} {v : Vec} (hg : w.heap[g]? = some (.cells (cells v) 23 (0, 0))) : Sets w g v w := ⟨rfl, rfl, rfl, rfl, hg, fun _ _ => rfl⟩
theorem Sets.trans {w w1 w2 : World} {g : Nat} {u v : Vec} (h : Sets w g u w1) (k : Sets w1 g v w2) : Sets w g v w2 :=
 ⟨k.os.trans h.os, k.tape.trans h.tape, k.output.trans h.output, k.size.trans h.size, k.this, fun i hi => (k.other i hi).trans (h.other i hi)⟩
theorem Sets.below {w w1 : World} {g : Nat} {v : Vec} (h : Sets w g v w1) : Below g w w1 := ⟨h.os, h.tape, h.output, Nat.le_of_eq h.size.symm, fun k hk => h.other k (by omega)⟩
structure Kb (base : World) (O : Nat) (w1 : World) : Prop where
 os : w1.os = base.os
 tape : w1.tape = base.tape
 output : w1.output = base.output
 size : base.heap.size ≤ w1.heap.size
 other : ∀ k, k < base.heap.size → k ≠ O → w1.heap[k]? = base.heap[k]?
structure St (base : World) (O : Nat) (X : Vec) (w1 : World) : Prop where
 kb : Kb base O w1
 this : w1.heap[O]? = some (.cells (cells X) 23 (0, 0))
theorem Kb.refl (base : World) (O : Nat) : Kb base O base := ⟨rfl, rfl, rfl, Nat.le_refl _, fun _ _ _ => rfl⟩
theorem Kb.below {base w1 w2 : World} {O : Nat} (h : Kb base O w1) (hb : Below w1.heap.size w1 w2) : Kb base O w2 :=
 ⟨hb.os.trans h.os, hb.tape.trans h.tape, hb.output.trans h.output, Nat.le_trans h.size hb.size, fun k hk hO => (hb.block k (Nat.lt_of_lt_of_le hk h.size)).trans (h.other k hk hO)⟩
theorem Kb.sets {base w1 w2 : World} {O : Nat} {v : Vec} (h : Kb base O w1) (hs : Sets w1 O v w2) : Kb base O w2 :=
 ⟨hs.os.trans h.os, hs.tape.trans h.tape, hs.output.trans h.output, by rw [hs.size]; exact h.size, fun k hk hO => (hs.other k hO).trans (h.other k hk hO)⟩
theorem Kb.drew {base w1 : World} {O : Nat} (h : Kb base O w1) : Kb base O w1.drew := ⟨h.os, h.tape, h.output, h.size, h.other⟩
theorem Kb.to_below {w base w1 : World} {O : Nat} (hb : Below w.heap.size w base) (hO : w.heap.size ≤ O) (h : Kb base O w1) : Below w.heap.size w w1 :=
 ⟨h.os.trans hb.os, h.tape.trans hb.tape, h.output.trans hb.output, Nat.le_trans hb.size h.size, fun k hk => (h.other k (Nat.lt_of_lt_of_le hk hb.size) (by omega)).trans (hb.block k hk)⟩
theorem block_lt {w : World} {k : Nat} {o : Obj} (h : w.heap[k]? = some o) : k < w.heap.size := (Array.getElem?_eq_some_iff.1 h).1
theorem Kb.get {base w1 : World} {O k : Nat} {o : Obj} (h : Kb base O w1) (hk : base.heap[k]? = some o) (hO : k ≠ O) : w1.heap[k]? = some o := (h.other k (block_lt hk) hO).trans hk
theorem St.start {base : World} {O : Nat} {X : Vec} (h : base.heap[O]? = some (.cells (cells X) 23 (0, 0))) : St base O X base := ⟨Kb.refl _ _, h⟩
theorem St.below {base w1 w2 : World} {O : Nat} {X : Vec} (h : St base O X w1) (hb : Below w1.heap.size w1 w2) : St base O X w2 := ⟨h.kb.below hb, (hb.block O (block_lt h.this)).trans h.this⟩
theorem St.sets {base w1 w2 : World} {O : Nat} {X Y : Vec} (h : St base O X w1) (hs : Sets w1 O Y w2) : St base O Y w2 := ⟨h.kb.sets hs, hs.this⟩
theorem St.drew {base w1 : World} {O : Nat} {X : Vec} (h : St base O X w1) : St base O X w1.drew := ⟨h.kb.drew, h.this⟩
theorem do_load {ops : Array Oper} {S : World → Prop} {L : Act → Prop} {o : Oper} {rest : List Oper} {a : Act} (hg : o.guard = none) (x : Operand) (ho : o.op = .load 23 x) (g : Nat)
  (hx : a.eval x = .pointer (some ⟨g, 0, none⟩)) (v : Vec) (h : ∀ w, S w → w.heap[g]? = some (.cells (cells v) 23 (0, 0)))
  (hr : wpD Tryz.prog ops S L rest (a.put o.dst (.agg (cells v)))) : wpD Tryz.prog ops S L (o :: rest) a :=
 wpD_here hg (fun w hS => by
  unfold execOp
  simp only [ho, hx, Instr.loadAt, Instr.sureAddr, Sem.run_bind, Sem.run_pure, Result.andThen_ok, run_loadVar_row w g 23 23 (cells v) (0, 0) _ (h w hS) vunder rfl (vsize v)]) hr
theorem results_vec_tmp {fn : Func} {p q : Tmp} (h : fn.results = #[.cell p 23, .tmp q]) (tmps : Array Value) (w : World) (g : Nat) (v : Vec) (y : Value)
  (hp : tmps.getD p undef = .pointer (some ⟨g, 0, none⟩)) (hq : tmps.getD q undef = y) (hg : w.heap[g]? = some (.cells (cells v) 23 (0, 0))) :
  (results fn tmps).run Tryz.prog w = .ok (.tuple #[.agg (cells v), y]) w := by
 have hp' : tmps[p]?.getD undef = .pointer (some ⟨g, 0, none⟩) := by simpa using hp
 have hq' : tmps[q]?.getD undef = y := by simpa using hq
 simp [results, h, hp', hq', asAddr, run_loadVar_row w g 23 23 (cells v) (0, 0) _ hg vunder rfl (vsize v)]
theorem heap_new_zero (w : World) : (w.alloc (.cells #[.int .u8 0, .int .u8 0, .int .u8 0, .int .u8 0, .int .u8 0, .int .u8 0, .int .u8 0, .int .u8 0, .int .u8 0, .int .u8 0, .int .u8 0, .int .u8 0, .int .u8 0, .int .u8 0, .int .u8 0, .int .u8 0] 23)).heap[w.heap.size]? = some (.cells (cells 0) 23 (0, 0)) := by
 rw [cells_zero]; exact heap_alloc_new _ _
theorem blk_keep {w w1 : World} {b : Nat} {o : Obj} (h : w.heap[b]? = some o) (hb : Below w.heap.size w w1) : w1.heap[b]? = some o := (hb.block b (block_lt h)).trans h
theorem blk_alloc {w : World} {b : Nat} {o : Obj} (h : w.heap[b]? = some o) (x : Obj) : (w.alloc x).heap[b]? = some o := by rw [heap_alloc_old _ _ (block_lt h), h]
theorem blk_sets {w w1 : World} {b g : Nat} {o : Obj} {v : Vec} (h : w.heap[b]? = some o) (hs : Sets w g v w1) (hne : b ≠ g) : w1.heap[b]? = some o := (hs.other b hne).trans h
theorem below_new {B : Nat} {w w1 w2 : World} (h : Below B w w1) (hB : B ≤ w.heap.size) (x : Obj) (hb : Below (w1.alloc x).heap.size (w1.alloc x) w2) : Below B w w2 :=
 (h.alloc (Nat.le_trans hB h.size) x).trans (hb.mono (by have := h.size; simp; omega))
theorem below_next {B : Nat} {w w1 w2 : World} (h : Below B w w1) (hB : B ≤ w.heap.size) (hb : Below w1.heap.size w1 w2) : Below B w w2 :=
 h.trans (hb.mono (Nat.le_trans hB h.size))
theorem below_store {B : Nat} {w w1 w2 : World} {x : Obj} {v : Vec} (h : Below B w w1) (hB : B ≤ w.heap.size) (hs : Sets (w1.alloc x) w1.heap.size v w2) : Below B w w2 :=
 (h.alloc (Nat.le_trans hB h.size) x).trans (hs.below.mono (Nat.le_trans hB h.size))
theorem ret_u64 {a b : Nat} (h : a = b) : Ending.returned (.int .u64 (a : Int)) = Ending.returned (.int .u64 (b : Int)) := by rw [h]
theorem ret_i64 {a b : Int} (h : a = b) : Ending.returned (.int .i64 a) = Ending.returned (.int .i64 b) := by rw [h]
theorem lanes_any (x : Int) (w : World) :
  Calls Tryz.prog 50 #[.int .i64 x] w fun e w' => e = .returned (.int .i64 (lanesOf x)) ∧ w = w' := by
 by_cases h1 : x = 8
 ·subst h1; go_enter Tryz.func50, Tryz.ntmps50; go_wp2; go_ret; exact ⟨rfl, rfl⟩
 by_cases h2 : x = 16
 ·subst h2; go_enter Tryz.func50, Tryz.ntmps50; go_wp2; go_ret; exact ⟨rfl, rfl⟩
 by_cases h3 : x = 32
 ·subst h3; go_enter Tryz.func50, Tryz.ntmps50; go_wp2; go_ret; exact ⟨rfl, rfl⟩
 by_cases h4 : x = 64
 ·subst h4; go_enter Tryz.func50, Tryz.ntmps50; go_wp2; go_ret; exact ⟨rfl, rfl⟩
 have e : lanesOf x = 0 := by simp [lanesOf, h1, h2, h3, h4]
 rw [e]
 have h1' := beq_eq_false_iff_ne.2 h1
 have h2' := beq_eq_false_iff_ne.2 h2
 have h3' := beq_eq_false_iff_ne.2 h3
 have h4' := beq_eq_false_iff_ne.2 h4
 clear e h1 h2 h3 h4
 go_enter Tryz.func50, Tryz.ntmps50
 go_wp2
 go_ret
 exact ⟨rfl, rfl⟩
theorem lanes8 (w : World) : Calls Tryz.prog 50 #[.int .i64 8] w fun e w' => e = .returned (.int .i64 16) ∧ w = w' := lanes_any 8 w
theorem lanes16 (w : World) : Calls Tryz.prog 50 #[.int .i64 16] w fun e w' => e = .returned (.int .i64 8) ∧ w = w' := lanes_any 16 w
theorem lanes32 (w : World) : Calls Tryz.prog 50 #[.int .i64 32] w fun e w' => e = .returned (.int .i64 4) ∧ w = w' := lanes_any 32 w
theorem lanes64 (w : World) : Calls Tryz.prog 50 #[.int .i64 64] w fun e w' => e = .returned (.int .i64 2) ∧ w = w' := lanes_any 64 w
theorem half_any (v : Vec) (b s l : Nat) (c : Nat) (w : World) (h : s + l ≤ 16) (hl : l ≤ 8) (hb : w.heap[b]? = some (.cells (cells v) 23 (0, 0))) :
  Calls Tryz.prog 20 #[.slice (some ⟨b, s, none⟩) l c] w fun e w' => e = .returned (.int .u64 (bitsAt v (8 * s) (8 * l) : Nat)) ∧ w = w' := by
 go_enter Tryz.func20, Tryz.ntmps20
 go_wp2
 go_loop [3, 8] (fun x i => ∃ k : Nat, k ≤ l ∧ i = .int .i64 k ∧ x = .int .u64 (bitsAt v (8 * s) (8 * k) : Nat)) (fun _ i => l - (intOf i).toNat)
 case atStart => exact ⟨0, Nat.zero_le _, rfl, by simp [bitsAt, Nat.mod_one]⟩
 case round =>
  obtain ⟨k, hk, rfl, rfl⟩ := hrel
  by_cases hlt : k < l
  ·have hcell : w.cell? ⟨b, s + k, none⟩ = some (byteV v (s + k)) := by
    rw [cell_of_row w b (s + k) _ _ _ hb, getElem?_cells _ _ (by omega)]
   unfold byteV at hcell
   go_wp2
   go_round
   case rel => exact ⟨k + 1, by omega, by go_num, by rw [or_step v s k (by omega)]⟩
   case measure => (simp [intOf] <;> omega)
  ·obtain rfl : k = l := by omega
   go_wp2
   go_ret
   exact ⟨rfl, rfl⟩
theorem slice_vec (b : Nat) (l h : Int) (i n : Nat) (hl : l = (i * n : Nat)) (hh : h = (i * n : Nat) + n) (h1 : 0 < n) (h2 : i * n + n ≤ 16) (W : World) :
  (Instr.sliceAt 23 (.pointer (some ⟨b, 0, none⟩)) (some (.int .i64 l)) (some (.int .i64 h)) none).run Tryz.prog W = .ok (.slice (some ⟨b, i * n, none⟩) n (16 - i * n)) W := by
 have ha : Tryz.prog.arrayLen 23 = 16 := by kernel_rfl
 have hz : ∀ w, (sizeOf (Tryz.prog.elem 23)).run Tryz.prog w = .ok 1 w := fun w => by kernel_rfl
 subst hl hh
 rw [run_sliceAt_array_lh W _ _ (by kernel_rfl) _ _ _ _ (by omega) (by omega) (by rw [ha]; omega), hz, ha]
 generalize i * n = k at *
 simp only [slicedAt, Result.andThen_ok, Int.toNat_natCast, Nat.mul_one]
 rw [if_neg (by omega)]
 have e : ((k : Int) + n).toNat = k + n := by omega
 rw [e, Nat.add_sub_cancel_left]
 simp [Addr.add]
 omega
theorem get8 (v : Vec) (i : Nat) (w : World) (hi : i < 16) :
  Calls Tryz.prog 82 #[.agg (cells v), .int .i64 8, .int .i64 i] w fun e w' => e = .returned (.int .u64 (getN v 8 i : Nat)) ∧ Below w.heap.size w w' := by
 have hh := fun c => half_any v w.heap.size (i) 1 c (w.alloc (.cells (cells v) 23)) (by omega) (by omega) (heap_alloc_new _ _)
 have hs := slice_vec w.heap.size (i : Int) ((i : Int) + 1) i 1 (by omega) (by omega) (by omega) (by omega)
 have hi' : (i : Int) < 16 := by omega
 simp only [Nat.mul_one] at hs
 go_enter Tryz.func82, Tryz.ntmps82
 go_wp2_with (first | (go_at_call 50; ((with_reducible refine (lanes8 _).mono ?_); rintro e w' ⟨rfl, rfl⟩)) | (go_at_call 20; refine (hh _).mono ?_; rintro e w' ⟨rfl, rfl⟩))
 go_ret
 refine ⟨ret_u64 ?_, (Below.refl _ _).alloc (Nat.le_refl _) _⟩
 unfold getN
 rw [show 8 * (i) = 8 * i by omega]
theorem signed8 (v : Vec) (i : Nat) (w : World) (hi : i < 16) :
  Calls Tryz.prog 122 #[.agg (cells v), .int .i64 8, .int .i64 i] w fun e w' => e = .returned (.int .i64 (sgn 8 (getN v 8 i))) ∧ Below w.heap.size w w' := by
 have hg := get8 v i (w.alloc (.cells (cells v) 23)) hi
 go_enter Tryz.func122, Tryz.ntmps122
 go_wp2_with (first | (go_at_call 50; ((with_reducible refine (lanes8 _).mono ?_); rintro e w' ⟨rfl, rfl⟩)) | (with_reducible refine load_vec rfl _ rfl _ rfl v (heap_alloc_new _ _) ?_) | (go_at_call 82; refine hg.mono ?_; rintro e w' ⟨rfl, hb⟩))
 go_ret
 exact ⟨ret_i64 (sgn_8 _ (getN_lt v 8 i)), ((Below.refl _ _).alloc (Nat.le_refl _) _).trans (hb.mono (by simp))⟩
theorem get16 (v : Vec) (i : Nat) (w : World) (hi : i < 8) :
  Calls Tryz.prog 82 #[.agg (cells v), .int .i64 16, .int .i64 i] w fun e w' => e = .returned (.int .u64 (getN v 16 i : Nat)) ∧ Below w.heap.size w w' := by
 have hh := fun c => half_any v w.heap.size (i * 2) 2 c (w.alloc (.cells (cells v) 23)) (by omega) (by omega) (heap_alloc_new _ _)
 have hs := slice_vec w.heap.size ((i : Int) * 2) (((i : Int) * 2) + 2) i 2 (by omega) (by omega) (by omega) (by omega)
 have hi' : (i : Int) < 8 := by omega
 go_enter Tryz.func82, Tryz.ntmps82
 go_wp2_with (first | (go_at_call 50; ((with_reducible refine (lanes16 _).mono ?_); rintro e w' ⟨rfl, rfl⟩)) | (go_at_call 20; refine (hh _).mono ?_; rintro e w' ⟨rfl, rfl⟩))
 go_ret
 refine ⟨ret_u64 ?_, (Below.refl _ _).alloc (Nat.le_refl _) _⟩
 unfold getN
 rw [show 8 * (i * 2) = 16 * i by omega]
theorem signed16 (v : Vec) (i : Nat) (w : World) (hi : i < 8) :
  Calls Tryz.prog 122 #[.agg (cells v), .int .i64 16, .int .i64 i] w fun e w' => e = .returned (.int .i64 (sgn 16 (getN v 16 i))) ∧ Below w.heap.size w w' := by
 have hg := get16 v i (w.alloc (.cells (cells v) 23)) hi
 go_enter Tryz.func122, Tryz.ntmps122
 go_wp2_with (first | (go_at_call 50; ((with_reducible refine (lanes16 _).mono ?_); rintro e w' ⟨rfl, rfl⟩)) | (with_reducible refine load_vec rfl _ rfl _ rfl v (heap_alloc_new _ _) ?_) | (go_at_call 82; refine hg.mono ?_; rintro e w' ⟨rfl, hb⟩))
 go_ret
 exact ⟨ret_i64 (sgn_16 _ (getN_lt v 16 i)), ((Below.refl _ _).alloc (Nat.le_refl _) _).trans (hb.mono (by simp))⟩
theorem get32 (v : Vec) (i : Nat) (w : World) (hi : i < 4) :
  Calls Tryz.prog 82 #[.agg (cells v), .int .i64 32, .int .i64 i] w fun e w' => e = .returned (.int .u64 (getN v 32 i : Nat)) ∧ Below w.heap.size w w' := by
 have hh := fun c => half_any v w.heap.size (i * 4) 4 c (w.alloc (.cells (cells v) 23)) (by omega) (by omega) (heap_alloc_new _ _)
 have hs := slice_vec w.heap.size ((i : Int) * 4) (((i : Int) * 4) + 4) i 4 (by omega) (by omega) (by omega) (by omega)
 have hi' : (i : Int) < 4 := by omega
 go_enter Tryz.func82, Tryz.ntmps82
 go_wp2_with (first | (go_at_call 50; ((with_reducible refine (lanes32 _).mono ?_); rintro e w' ⟨rfl, rfl⟩)) | (go_at_call 20; refine (hh _).mono ?_; rintro e w' ⟨rfl, rfl⟩))
 go_ret
 refine ⟨ret_u64 ?_, (Below.refl _ _).alloc (Nat.le_refl _) _⟩
 unfold getN
 rw [show 8 * (i * 4) = 32 * i by omega]
theorem signed32 (v : Vec) (i : Nat) (w : World) (hi : i < 4) :
  Calls Tryz.prog 122 #[.agg (cells v), .int .i64 32, .int .i64 i] w fun e w' => e = .returned (.int .i64 (sgn 32 (getN v 32 i))) ∧ Below w.heap.size w w' := by
 have hg := get32 v i (w.alloc (.cells (cells v) 23)) hi
 go_enter Tryz.func122, Tryz.ntmps122
 go_wp2_with (first | (go_at_call 50; ((with_reducible refine (lanes32 _).mono ?_); rintro e w' ⟨rfl, rfl⟩)) | (with_reducible refine load_vec rfl _ rfl _ rfl v (heap_alloc_new _ _) ?_) | (go_at_call 82; refine hg.mono ?_; rintro e w' ⟨rfl, hb⟩))
 go_ret
 exact ⟨ret_i64 (sgn_32 _ (getN_lt v 32 i)), ((Below.refl _ _).alloc (Nat.le_refl _) _).trans (hb.mono (by simp))⟩
theorem get64 (v : Vec) (i : Nat) (w : World) (hi : i < 2) :
  Calls Tryz.prog 82 #[.agg (cells v), .int .i64 64, .int .i64 i] w fun e w' => e = .returned (.int .u64 (getN v 64 i : Nat)) ∧ Below w.heap.size w w' := by
 have hh := fun c => half_any v w.heap.size (i * 8) 8 c (w.alloc (.cells (cells v) 23)) (by omega) (by omega) (heap_alloc_new _ _)
 have hs := slice_vec w.heap.size ((i : Int) * 8) (((i : Int) * 8) + 8) i 8 (by omega) (by omega) (by omega) (by omega)
 have hi' : (i : Int) < 2 := by omega
 go_enter Tryz.func82, Tryz.ntmps82
 go_wp2_with (first | (go_at_call 50; ((with_reducible refine (lanes64 _).mono ?_); rintro e w' ⟨rfl, rfl⟩)) | (go_at_call 20; refine (hh _).mono ?_; rintro e w' ⟨rfl, rfl⟩))
 go_ret
 refine ⟨ret_u64 ?_, (Below.refl _ _).alloc (Nat.le_refl _) _⟩
 unfold getN
 rw [show 8 * (i * 8) = 64 * i by omega]
theorem signed64 (v : Vec) (i : Nat) (w : World) (hi : i < 2) :
  Calls Tryz.prog 122 #[.agg (cells v), .int .i64 64, .int .i64 i] w fun e w' => e = .returned (.int .i64 (sgn 64 (getN v 64 i))) ∧ Below w.heap.size w w' := by
 have hg := get64 v i (w.alloc (.cells (cells v) 23)) hi
 go_enter Tryz.func122, Tryz.ntmps122
 go_wp2_with (first | (go_at_call 50; ((with_reducible refine (lanes64 _).mono ?_); rintro e w' ⟨rfl, rfl⟩)) | (with_reducible refine load_vec rfl _ rfl _ rfl v (heap_alloc_new _ _) ?_) | (go_at_call 82; refine hg.mono ?_; rintro e w' ⟨rfl, hb⟩))
 go_ret
 exact ⟨ret_i64 (sgn_64 _ (getN_lt v 64 i)), ((Below.refl _ _).alloc (Nat.le_refl _) _).trans (hb.mono (by simp))⟩
theorem set8 (v : Vec) (i x : Nat) (w : World) (hi : i < 16) :
  Calls Tryz.prog 51 #[.agg (cells v), .int .i64 8, .int .i64 i, .int .u64 x] w fun e w' => e = .returned (.agg (cells (setN v 8 i x))) ∧ Below w.heap.size w w' := by
 have hi' : (i : Int) < 16 := by omega
 go_enter Tryz.func51, Tryz.ntmps51
 go_wp2_with (first | (go_at_call 50; ((with_reducible refine (lanes8 _).mono ?_); rintro e w' ⟨rfl, rfl⟩)))
 rw [← cells_zero]
 obtain ⟨W, hW⟩ : ∃ W, W = ((w.alloc (.cells (cells v) 23)).alloc (.cells (cells 0) 23)) := ⟨_, rfl⟩
 have hB : W.heap[w.heap.size]? = some (.cells (cells v) 23 (0, 0)) := hW ▸ heap_alloc2_old _ _ _
 have hR : W.heap[w.heap.size + 1]? = some (.cells (cells 0) 23 (0, 0)) := hW ▸ heap_alloc2_new _ _ _
 have hZ : Below w.heap.size w W := hW ▸ ((Below.refl _ _).alloc (Nat.le_refl _) _).alloc (by simp) _
 rw [← hW]
 clear hW
 go_loopw [21] (fun j wr => ∃ k : Nat, k ≤ 1 ∧ j = .int .i64 k ∧ Sets W w.heap.size (putAt v (8 * (i)) (8 * k) x) wr) (fun j _ => 1 - (intOf j).toNat)
 case atStart => exact ⟨0, Nat.zero_le _, rfl, by rw [putAt_zero _ _ _ (by omega)]; exact Sets.refl hB⟩
 case round =>
  obtain ⟨k, hk, rfl, hs⟩ := hrel
  by_cases hlt : k < 1
  ·have hz : (x : Int) / 2 ^ (8 * k) % 256 = ((x / 2 ^ (8 * k) % 256 : Nat) : Int) := by simp
   have hz' := Lib.hid hz
   clear hz
   go_wp2_with (with_reducible refine store_byte rfl _ _ rfl w.heap.size (i + k) _ (x / 2 ^ (8 * k)) rfl rfl _ hs.this (by omega) hz'.out ?_; intro wq hq)
   go_roundw
   case rel =>
    refine ⟨k + 1, by omega, by go_num, ?_⟩
    have := hs.trans hq
    rw [show 8 * (i + k) = 8 * (i) + 8 * k by omega, putAt_more _ _ _ _ _ (by omega)] at this
    exact this
   case measure => (simp [intOf] <;> omega)
  ·obtain rfl : k = 1 := by omega
   have hR' : wr.heap[w.heap.size + 1]? = some (.cells (cells 0) 23 (0, 0)) := (hs.other _ (by omega)).trans hR
   go_wp2_with (first | (with_reducible refine load_vec rfl _ rfl _ rfl _ hs.this ?_) | (with_reducible refine store_vec rfl _ _ rfl (w.heap.size + 1) _ rfl rfl _ hR' ?_; intro wq hq))
   refine bodyPost_ret (results_cell_row rfl _ _ (w.heap.size + 1) _ _ _ _ rfl hq.this vunder rfl (vsize _)) rfl ⟨?_, ?_⟩
   ·unfold setN
    rw [show 8 * (i) = 8 * i by omega]
   ·exact hZ.trans ((hs.below.mono (Nat.le_refl _)).trans (hq.below.mono (by omega)))
theorem set16 (v : Vec) (i x : Nat) (w : World) (hi : i < 8) :
  Calls Tryz.prog 51 #[.agg (cells v), .int .i64 16, .int .i64 i, .int .u64 x] w fun e w' => e = .returned (.agg (cells (setN v 16 i x))) ∧ Below w.heap.size w w' := by
 have hi' : (i : Int) < 8 := by omega
 go_enter Tryz.func51, Tryz.ntmps51
 go_wp2_with (first | (go_at_call 50; ((with_reducible refine (lanes16 _).mono ?_); rintro e w' ⟨rfl, rfl⟩)))
 rw [← cells_zero]
 obtain ⟨W, hW⟩ : ∃ W, W = ((w.alloc (.cells (cells v) 23)).alloc (.cells (cells 0) 23)) := ⟨_, rfl⟩
 have hB : W.heap[w.heap.size]? = some (.cells (cells v) 23 (0, 0)) := hW ▸ heap_alloc2_old _ _ _
 have hR : W.heap[w.heap.size + 1]? = some (.cells (cells 0) 23 (0, 0)) := hW ▸ heap_alloc2_new _ _ _
 have hZ : Below w.heap.size w W := hW ▸ ((Below.refl _ _).alloc (Nat.le_refl _) _).alloc (by simp) _
 rw [← hW]
 clear hW
 go_loopw [21] (fun j wr => ∃ k : Nat, k ≤ 2 ∧ j = .int .i64 k ∧ Sets W w.heap.size (putAt v (8 * (i * 2)) (8 * k) x) wr) (fun j _ => 2 - (intOf j).toNat)
 case atStart => exact ⟨0, Nat.zero_le _, rfl, by rw [putAt_zero _ _ _ (by omega)]; exact Sets.refl hB⟩
 case round =>
  obtain ⟨k, hk, rfl, hs⟩ := hrel
  by_cases hlt : k < 2
  ·have hz : (x : Int) / 2 ^ (8 * k) % 256 = ((x / 2 ^ (8 * k) % 256 : Nat) : Int) := by simp
   have hz' := Lib.hid hz
   clear hz
   go_wp2_with (with_reducible refine store_byte rfl _ _ rfl w.heap.size (i * 2 + k) _ (x / 2 ^ (8 * k)) rfl rfl _ hs.this (by omega) hz'.out ?_; intro wq hq)
   go_roundw
   case rel =>
    refine ⟨k + 1, by omega, by go_num, ?_⟩
    have := hs.trans hq
    rw [show 8 * (i * 2 + k) = 8 * (i * 2) + 8 * k by omega, putAt_more _ _ _ _ _ (by omega)] at this
    exact this
   case measure => (simp [intOf] <;> omega)
  ·obtain rfl : k = 2 := by omega
   have hR' : wr.heap[w.heap.size + 1]? = some (.cells (cells 0) 23 (0, 0)) := (hs.other _ (by omega)).trans hR
   go_wp2_with (first | (with_reducible refine load_vec rfl _ rfl _ rfl _ hs.this ?_) | (with_reducible refine store_vec rfl _ _ rfl (w.heap.size + 1) _ rfl rfl _ hR' ?_; intro wq hq))
   refine bodyPost_ret (results_cell_row rfl _ _ (w.heap.size + 1) _ _ _ _ rfl hq.this vunder rfl (vsize _)) rfl ⟨?_, ?_⟩
   ·unfold setN
    rw [show 8 * (i * 2) = 16 * i by omega]
   ·exact hZ.trans ((hs.below.mono (Nat.le_refl _)).trans (hq.below.mono (by omega)))
theorem set32 (v : Vec) (i x : Nat) (w : World) (hi : i < 4) :
  Calls Tryz.prog 51 #[.agg (cells v), .int .i64 32, .int .i64 i, .int .u64 x] w fun e w' => e = .returned (.agg (cells (setN v 32 i x))) ∧ Below w.heap.size w w' := by
 have hi' : (i : Int) < 4 := by omega
 go_enter Tryz.func51, Tryz.ntmps51
 go_wp2_with (first | (go_at_call 50; ((with_reducible refine (lanes32 _).mono ?_); rintro e w' ⟨rfl, rfl⟩)))
 rw [← cells_zero]
 obtain ⟨W, hW⟩ : ∃ W, W = ((w.alloc (.cells (cells v) 23)).alloc (.cells (cells 0) 23)) := ⟨_, rfl⟩
 have hB : W.heap[w.heap.size]? = some (.cells (cells v) 23 (0, 0)) := hW ▸ heap_alloc2_old _ _ _
 have hR : W.heap[w.heap.size + 1]? = some (.cells (cells 0) 23 (0, 0)) := hW ▸ heap_alloc2_new _ _ _
 have hZ : Below w.heap.size w W := hW ▸ ((Below.refl _ _).alloc (Nat.le_refl _) _).alloc (by simp) _
 rw [← hW]
 clear hW
 go_loopw [21] (fun j wr => ∃ k : Nat, k ≤ 4 ∧ j = .int .i64 k ∧ Sets W w.heap.size (putAt v (8 * (i * 4)) (8 * k) x) wr) (fun j _ => 4 - (intOf j).toNat)
 case atStart => exact ⟨0, Nat.zero_le _, rfl, by rw [putAt_zero _ _ _ (by omega)]; exact Sets.refl hB⟩
 case round =>
  obtain ⟨k, hk, rfl, hs⟩ := hrel
  by_cases hlt : k < 4
  ·have hz : (x : Int) / 2 ^ (8 * k) % 256 = ((x / 2 ^ (8 * k) % 256 : Nat) : Int) := by simp
   have hz' := Lib.hid hz
   clear hz
   go_wp2_with (with_reducible refine store_byte rfl _ _ rfl w.heap.size (i * 4 + k) _ (x / 2 ^ (8 * k)) rfl rfl _ hs.this (by omega) hz'.out ?_; intro wq hq)
   go_roundw
   case rel =>
    refine ⟨k + 1, by omega, by go_num, ?_⟩
    have := hs.trans hq
    rw [show 8 * (i * 4 + k) = 8 * (i * 4) + 8 * k by omega, putAt_more _ _ _ _ _ (by omega)] at this
    exact this
   case measure => (simp [intOf] <;> omega)
  ·obtain rfl : k = 4 := by omega
   have hR' : wr.heap[w.heap.size + 1]? = some (.cells (cells 0) 23 (0, 0)) := (hs.other _ (by omega)).trans hR
   go_wp2_with (first | (with_reducible refine load_vec rfl _ rfl _ rfl _ hs.this ?_) | (with_reducible refine store_vec rfl _ _ rfl (w.heap.size + 1) _ rfl rfl _ hR' ?_; intro wq hq))
   refine bodyPost_ret (results_cell_row rfl _ _ (w.heap.size + 1) _ _ _ _ rfl hq.this vunder rfl (vsize _)) rfl ⟨?_, ?_⟩
   ·unfold setN
    rw [show 8 * (i * 4) = 32 * i by omega]
   ·exact hZ.trans ((hs.below.mono (Nat.le_refl _)).trans (hq.below.mono (by omega)))
theorem set64 (v : Vec) (i x : Nat) (w : World) (hi : i < 2) :
  Calls Tryz.prog 51 #[.agg (cells v), .int .i64 64, .int .i64 i, .int .u64 x] w fun e w' => e = .returned (.agg (cells (setN v 64 i x))) ∧ Below w.heap.size w w' := by
 have hi' : (i : Int) < 2 := by omega
 go_enter Tryz.func51, Tryz.ntmps51
 go_wp2_with (first | (go_at_call 50; ((with_reducible refine (lanes64 _).mono ?_); rintro e w' ⟨rfl, rfl⟩)))
 rw [← cells_zero]
 obtain ⟨W, hW⟩ : ∃ W, W = ((w.alloc (.cells (cells v) 23)).alloc (.cells (cells 0) 23)) := ⟨_, rfl⟩
 have hB : W.heap[w.heap.size]? = some (.cells (cells v) 23 (0, 0)) := hW ▸ heap_alloc2_old _ _ _
 have hR : W.heap[w.heap.size + 1]? = some (.cells (cells 0) 23 (0, 0)) := hW ▸ heap_alloc2_new _ _ _
 have hZ : Below w.heap.size w W := hW ▸ ((Below.refl _ _).alloc (Nat.le_refl _) _).alloc (by simp) _
 rw [← hW]
 clear hW
 go_loopw [21] (fun j wr => ∃ k : Nat, k ≤ 8 ∧ j = .int .i64 k ∧ Sets W w.heap.size (putAt v (8 * (i * 8)) (8 * k) x) wr) (fun j _ => 8 - (intOf j).toNat)
 case atStart => exact ⟨0, Nat.zero_le _, rfl, by rw [putAt_zero _ _ _ (by omega)]; exact Sets.refl hB⟩
 case round =>
  obtain ⟨k, hk, rfl, hs⟩ := hrel
  by_cases hlt : k < 8
  ·have hz : (x : Int) / 2 ^ (8 * k) % 256 = ((x / 2 ^ (8 * k) % 256 : Nat) : Int) := by simp
   have hz' := Lib.hid hz
   clear hz
   go_wp2_with (with_reducible refine store_byte rfl _ _ rfl w.heap.size (i * 8 + k) _ (x / 2 ^ (8 * k)) rfl rfl _ hs.this (by omega) hz'.out ?_; intro wq hq)
   go_roundw
   case rel =>
    refine ⟨k + 1, by omega, by go_num, ?_⟩
    have := hs.trans hq
    rw [show 8 * (i * 8 + k) = 8 * (i * 8) + 8 * k by omega, putAt_more _ _ _ _ _ (by omega)] at this
    exact this
   case measure => (simp [intOf] <;> omega)
  ·obtain rfl : k = 8 := by omega
   have hR' : wr.heap[w.heap.size + 1]? = some (.cells (cells 0) 23 (0, 0)) := (hs.other _ (by omega)).trans hR
   go_wp2_with (first | (with_reducible refine load_vec rfl _ rfl _ rfl _ hs.this ?_) | (with_reducible refine store_vec rfl _ _ rfl (w.heap.size + 1) _ rfl rfl _ hR' ?_; intro wq hq))
   refine bodyPost_ret (results_cell_row rfl _ _ (w.heap.size + 1) _ _ _ _ rfl hq.this vunder rfl (vsize _)) rfl ⟨?_, ?_⟩
   ·unfold setN
    rw [show 8 * (i * 8) = 64 * i by omega]
   ·exact hZ.trans ((hs.below.mono (Nat.le_refl _)).trans (hq.below.mono (by omega)))
theorem get8z (v : Vec) (j : Int) (i : Nat) (w : World) (hj : j = i) (hi : i < 16) :
  Calls Tryz.prog 82 #[.agg (cells v), .int .i64 8, .int .i64 j] w fun e w' => e = .returned (.int .u64 (getN v 8 i : Nat)) ∧ Below w.heap.size w w' := hj ▸ get8 v i w hi
theorem signed8z (v : Vec) (j : Int) (i : Nat) (w : World) (hj : j = i) (hi : i < 16) :
  Calls Tryz.prog 122 #[.agg (cells v), .int .i64 8, .int .i64 j] w fun e w' => e = .returned (.int .i64 (sgn 8 (getN v 8 i))) ∧ Below w.heap.size w w' := hj ▸ signed8 v i w hi
theorem set8z (v : Vec) (j z : Int) (i x : Nat) (w : World) (hj : j = i) (hz : z = x) (hi : i < 16) :
  Calls Tryz.prog 51 #[.agg (cells v), .int .i64 8, .int .i64 j, .int .u64 z] w fun e w' => e = .returned (.agg (cells (setN v 8 i x))) ∧ Below w.heap.size w w' := hj ▸ hz ▸ set8 v i x w hi
theorem get16z (v : Vec) (j : Int) (i : Nat) (w : World) (hj : j = i) (hi : i < 8) :
  Calls Tryz.prog 82 #[.agg (cells v), .int .i64 16, .int .i64 j] w fun e w' => e = .returned (.int .u64 (getN v 16 i : Nat)) ∧ Below w.heap.size w w' := hj ▸ get16 v i w hi
theorem signed16z (v : Vec) (j : Int) (i : Nat) (w : World) (hj : j = i) (hi : i < 8) :
  Calls Tryz.prog 122 #[.agg (cells v), .int .i64 16, .int .i64 j] w fun e w' => e = .returned (.int .i64 (sgn 16 (getN v 16 i))) ∧ Below w.heap.size w w' := hj ▸ signed16 v i w hi
theorem set16z (v : Vec) (j z : Int) (i x : Nat) (w : World) (hj : j = i) (hz : z = x) (hi : i < 8) :
  Calls Tryz.prog 51 #[.agg (cells v), .int .i64 16, .int .i64 j, .int .u64 z] w fun e w' => e = .returned (.agg (cells (setN v 16 i x))) ∧ Below w.heap.size w w' := hj ▸ hz ▸ set16 v i x w hi
theorem get32z (v : Vec) (j : Int) (i : Nat) (w : World) (hj : j = i) (hi : i < 4) :
  Calls Tryz.prog 82 #[.agg (cells v), .int .i64 32, .int .i64 j] w fun e w' => e = .returned (.int .u64 (getN v 32 i : Nat)) ∧ Below w.heap.size w w' := hj ▸ get32 v i w hi
theorem signed32z (v : Vec) (j : Int) (i : Nat) (w : World) (hj : j = i) (hi : i < 4) :
  Calls Tryz.prog 122 #[.agg (cells v), .int .i64 32, .int .i64 j] w fun e w' => e = .returned (.int .i64 (sgn 32 (getN v 32 i))) ∧ Below w.heap.size w w' := hj ▸ signed32 v i w hi
theorem set32z (v : Vec) (j z : Int) (i x : Nat) (w : World) (hj : j = i) (hz : z = x) (hi : i < 4) :
  Calls Tryz.prog 51 #[.agg (cells v), .int .i64 32, .int .i64 j, .int .u64 z] w fun e w' => e = .returned (.agg (cells (setN v 32 i x))) ∧ Below w.heap.size w w' := hj ▸ hz ▸ set32 v i x w hi
theorem get64z (v : Vec) (j : Int) (i : Nat) (w : World) (hj : j = i) (hi : i < 2) :
  Calls Tryz.prog 82 #[.agg (cells v), .int .i64 64, .int .i64 j] w fun e w' => e = .returned (.int .u64 (getN v 64 i : Nat)) ∧ Below w.heap.size w w' := hj ▸ get64 v i w hi
theorem signed64z (v : Vec) (j : Int) (i : Nat) (w : World) (hj : j = i) (hi : i < 2) :
  Calls Tryz.prog 122 #[.agg (cells v), .int .i64 64, .int .i64 j] w fun e w' => e = .returned (.int .i64 (sgn 64 (getN v 64 i))) ∧ Below w.heap.size w w' := hj ▸ signed64 v i w hi
theorem set64z (v : Vec) (j z : Int) (i x : Nat) (w : World) (hj : j = i) (hz : z = x) (hi : i < 2) :
  Calls Tryz.prog 51 #[.agg (cells v), .int .i64 64, .int .i64 j, .int .u64 z] w fun e w' => e = .returned (.agg (cells (setN v 64 i x))) ∧ Below w.heap.size w w' := hj ▸ hz ▸ set64 v i x w hi
end Go.Proofs.YtebpijlmeemfaaaGreatDoor
end
section
namespace Pl
open Go Go.RowKit
section
variable {P : Program} {ops : Array Oper} {md : Region.Mode} {S : World → Prop}
theorem wpD_pureg {L : Act → Prop} {o : Oper} {rest : List Oper} {v : Value} {a : Act} (hg : Region.wanted o (yielded ops a.tmps) = true) (h : ∀ w, (execOp a.eval o).run P w = .ok (.value v) w)
  (hr : wpD P ops S L rest (a.put o.dst v)) : wpD P ops S L (o :: rest) a :=
 ⟨v, .inl ⟨hg, fun w hS => ⟨w, .inl ⟨h w, hS⟩⟩⟩, hr⟩
end
end Pl
end
section
namespace Go.Proofs.YtebpijlmeemfaaaGreatDoor
open Go.RowKit Pl
structure H2 (w0 : World) (a b : Vec) (u : World) : Prop where
 bel : Below w0.heap.size w0 u
 fst : u.heap[w0.heap.size]? = some (.cells (cells a) 23 (0, 0))
 snd : u.heap[w0.heap.size + 1]? = some (.cells (cells b) 23 (0, 0))
theorem H2.below {w0 u u1 : World} {a b : Vec} (h : H2 w0 a b u) (hb : Below u.heap.size u u1) : H2 w0 a b u1 :=
 ⟨h.bel.trans (hb.mono (by have := block_lt h.snd; omega)), blk_keep h.fst hb, blk_keep h.snd hb⟩
theorem H2.store {w0 u u1 : World} {a b v : Vec} {x : Obj} (h : H2 w0 a b u) (hs : Sets (u.alloc x) u.heap.size v u1) : H2 w0 a b u1 :=
 ⟨below_store h.bel (Nat.le_refl _) hs, blk_sets (blk_alloc h.fst x) hs (Nat.ne_of_lt (block_lt h.fst)), blk_sets (blk_alloc h.snd x) hs (Nat.ne_of_lt (block_lt h.snd))⟩
theorem H2.drew {w0 u : World} {a b : Vec} (h : H2 w0 a b u) : H2 w0 a b u.drew := ⟨h.bel.drew, h.fst, h.snd⟩
theorem H2.start {w w1 : World} (a b : Vec) (hb1 : Below ((w.alloc (.cells (cells a) 23)).alloc (.cells (cells b) 23)).heap.size ((w.alloc (.cells (cells a) 23)).alloc (.cells (cells b) 23)) w1) : H2 w a b w1 :=
 ⟨(((Below.refl _ _).alloc (Nat.le_refl _) _).alloc (by simp) _).trans (hb1.mono (by simp; omega)), blk_keep (heap_alloc2_old _ _ _) hb1, blk_keep (heap_alloc2_new _ _ _) hb1⟩
structure H3 (w0 : World) (a b d : Vec) (D : Nat) (u : World) : Prop where
 h2 : H2 w0 a b u
 dd : u.heap[D]? = some (.cells (cells d) 23 (0, 0))
theorem H3.below {w0 u u1 : World} {a b d : Vec} {D : Nat} (h : H3 w0 a b d D u) (hb : Below u.heap.size u u1) : H3 w0 a b d D u1 := ⟨h.h2.below hb, blk_keep h.dd hb⟩
theorem H3.drew {w0 u : World} {a b d : Vec} {D : Nat} (h : H3 w0 a b d D u) : H3 w0 a b d D u.drew := ⟨h.h2.drew, h.dd⟩
section
variable {P : Program} {ops : Array Oper} {S : World → Prop}
theorem wpD_hereg {L : Act → Prop} {o : Oper} {rest : List Oper} {v : Value} {a : Act} (hg : Region.wanted o (yielded ops a.tmps) = true) (h : ∀ w, S w → (execOp a.eval o).run P w = .ok (.value v) w)
  (hr : wpD P ops S L rest (a.put o.dst v)) : wpD P ops S L (o :: rest) a :=
 ⟨v, .inl ⟨hg, fun w hS => ⟨w, .inl ⟨h w hS, hS⟩⟩⟩, hr⟩
end
end Go.Proofs.YtebpijlmeemfaaaGreatDoor
end
section
namespace Pl
open Go
section
variable {σ : Type} {P : Program} {ops : Array Oper} {md : Region.Mode} {S : σ → World → Prop} {step : Nat → σ → σ → Prop} {val : Nat → σ → Value}
def ptr (x : Nat) : Value := .pointer (some ⟨x, 0, none⟩)
def DoesA (P : Program) (ops : Array Oper) (S : σ → World → Prop) (o : Oper) (v : Value) (a : Act) : Prop := ∀ D, Does P ops (S D) o v a
theorem DoesA.same {o : Oper} {v : Value} {a b : Act} (h : DoesA P ops S o v a) (he : execOp b.eval o = execOp a.eval o)
  (hw : Region.wanted o (yielded ops b.tmps) = Region.wanted o (yielded ops a.tmps)) : DoesA P ops S o v b := fun D => (h D).same he hw
def doOpA (P : Program) (ops : Array Oper) (S : σ → World → Prop) (i : Nat) (K : Act → Prop) (a : Act) : Prop := ∃ o v, ops[i]? = some o ∧ DoesA P ops S o v a ∧ K (a.put o.dst v)
def NewA (P : Program) (ops : Array Oper) (S : σ → World → Prop) (step : Nat → σ → σ → Prop) (val : Nat → σ → Value) (i : Nat) (D : σ) (o : Oper) (a : Act) : Prop :=
 Region.wanted o (yielded ops a.tmps) = true ∧ ∀ w, S D w → ∃ D' w1, step i D D' ∧ S D' w1 ∧
  ((execOp a.eval o).run P w = .ok (.value (val i D')) w1 ∨ ((execOp a.eval o).run P w = .ok .skip w1 ∧ val i D' = undef))
theorem NewA.same {i : Nat} {D : σ} {o : Oper} {a b : Act} (h : NewA P ops S step val i D o a) (he : execOp b.eval o = execOp a.eval o)
  (hw : Region.wanted o (yielded ops b.tmps) = Region.wanted o (yielded ops a.tmps)) : NewA P ops S step val i D o b := by
 unfold NewA at *
 rw [he, hw]
 exact h
def newOp (P : Program) (ops : Array Oper) (S : σ → World → Prop) (step : Nat → σ → σ → Prop) (val : Nat → σ → Value) (i : Nat) (D : σ) (K : σ → Act → Prop) (a : Act) : Prop :=
 ∃ o, ops[i]? = some o ∧ NewA P ops S step val i D o a ∧ ∀ D', step i D D' → K D' (a.put o.dst (val i D'))
theorem doOpA_mono {i : Nat} {a : Act} {K K' : Act → Prop} (h : ∀ a, K a → K' a) (hh : doOpA P ops S i K a) : doOpA P ops S i K' a := by
 obtain ⟨o, v, h1, h2, h3⟩ := hh
 exact ⟨o, v, h1, h2, h _ h3⟩
theorem newOp_mono {i : Nat} {D : σ} {a : Act} {K K' : σ → Act → Prop} (h : ∀ x a, K x a → K' x a) (hh : newOp P ops S step val i D K a) : newOp P ops S step val i D K' a := by
 obtain ⟨o, h1, h2, h3⟩ := hh
 exact ⟨o, h1, h2, fun x hx => h x _ (h3 x hx)⟩
theorem doOpA_put {j : Nat} {oi oj : Oper} {v : Value} (hj : ops[j]? = some oj) (hap : oi.apart ops oj = true)
  (hsi : ∀ cs b, oi.op ≠ .select cs b) (hsj : ∀ cs b, oj.op ≠ .select cs b) {K : Act → Prop} {a : Act}
  (hy : DoesA P ops S oi v a) (h : doOpA P ops S j K (a.put oi.dst v)) :
  doOpA P ops S j (fun b => DoesA P ops S oi v b ∧ K (b.put oi.dst v)) a := by
 obtain ⟨h1, h2, h3⟩ := Oper.apart_spec hap
 obtain ⟨o, u, ho, hu, hK⟩ := h
 have : o = oj := Option.some.inj (ho.symm.trans hj)
 subst this
 refine ⟨o, u, ho, hu.same (execOp_put o hsj a oi.dst v h1).symm (wanted_put o a oi.dst v h1).symm, hy.same (execOp_put oi hsi a o.dst u h3) (wanted_put oi a o.dst u h3), ?_⟩
 rw [← Act.put_comm a v u h2]
 exact hK
theorem newOp_put {j : Nat} {D : σ} {oi oj : Oper} {v : Value} (hj : ops[j]? = some oj) (hap : oi.apart ops oj = true)
  (hsi : ∀ cs b, oi.op ≠ .select cs b) (hsj : ∀ cs b, oj.op ≠ .select cs b) {K : σ → Act → Prop} {a : Act}
  (hy : DoesA P ops S oi v a) (h : newOp P ops S step val j D K (a.put oi.dst v)) :
  newOp P ops S step val j D (fun x b => DoesA P ops S oi v b ∧ K x (b.put oi.dst v)) a := by
 obtain ⟨h1, h2, h3⟩ := Oper.apart_spec hap
 obtain ⟨o, ho, hN, hK⟩ := h
 have : o = oj := Option.some.inj (ho.symm.trans hj)
 subst this
 refine ⟨o, ho, hN.same (execOp_put o hsj a oi.dst v h1).symm (wanted_put o a oi.dst v h1).symm, fun x hx => ⟨hy.same (execOp_put oi hsi a o.dst (val j x) h3) (wanted_put oi a o.dst (val j x) h3), ?_⟩⟩
 rw [← Act.put_comm a v (val j x) h2]
 exact hK x hx
def wpHeadA (P : Program) (md : Region.Mode) (ops : Array Oper) (S : σ → World → Prop) (step : Nat → σ → σ → Prop) (val : Nat → σ → Value) (ps : List Nat) (n : Nat) (L : σ → Array Bool → Act → Prop) : Nat → σ → Array Bool → Act → Prop
  | 0, D, listed, a => L D listed a
  | f + 1, D, listed, a => Region.ready md ops listed ≠ [] ∧ ∀ i ∈ Region.ready md ops listed, i < n ∧
      ((i ∈ ps ∧ newOp P ops S step val i D (fun D' => wpHeadA P md ops S step val ps n L f D' (listed.setIfInBounds i true)) a) ∨
       (i ∉ ps ∧ doOpA P ops S i (wpHeadA P md ops S step val ps n L f D (listed.setIfInBounds i true)) a))
theorem any_of_headA {ps : List Nat} {n g : Nat} {L : σ → Array Bool → Act → Prop} {Q : Exit → Act → World → Prop}
  (hL : ∀ D listed a, L D listed a → ∀ w, S D w → wpAny P md ops Q g listed a w) :
  ∀ (f : Nat) (D : σ) (listed : Array Bool) (a : Act), wpHeadA P md ops S step val ps n L f D listed a → ∀ w, S D w → wpAny P md ops Q (f + g) listed a w
 | 0, D, listed, a, h, w, hw => by rw [Nat.zero_add]; exact hL _ _ _ h w hw
 | f + 1, D, listed, a, h, w, hw => by
  rw [show f + 1 + g = (f + g) + 1 by omega]
  refine ⟨fun h0 => absurd h0 h.1, fun i hi => ?_⟩
  obtain ⟨_, ⟨hip, o, ho, hN, hk⟩ | ⟨hip, o, v, ho, hd, hk⟩⟩ := h.2 i hi
  ·obtain ⟨hw1, hr⟩ := hN
   obtain ⟨D', w1, hst, hS1, hrun⟩ := hr w hw
   unfold wpOp
   simp only [ho]
   rw [if_pos hw1]
   refine .inl ?_
   unfold Oper.wp
   rcases hrun with hrun | ⟨hrun, hv⟩
   ·rw [hrun]
    exact any_of_headA hL f _ _ _ (hk D' hst) _ hS1
   ·rw [hrun]
    have := any_of_headA hL f _ _ _ (hk D' hst) _ hS1
    rw [hv] at this
    exact this
  ·exact (hd D).op ho hw fun w2 hS2 => any_of_headA hL f _ _ _ hk w2 hS2
theorem head_firstA {ps : List Nat} {n i : Nat} {oi : Oper} {v : Value} {L : σ → Array Bool → Act → Prop} (hi : ops[i]? = some oi) (hip : i ∉ ps) (hsel : ∀ (j : Nat) (o : Oper) cs b, ops[j]? = some o → o.op ≠ .select cs b)
  (hs : Region.sinkB md ops n = true) (hc : Region.chainB md ops n = true) (hn : n < ops.size) (hin : i < n)
  (hdone : ∀ D listed a, L D listed a → ∀ j ∈ Region.ready md ops listed, n ≤ j) :
  ∀ (f : Nat) (D : σ) (listed : Array Bool) (a : Act), HeadInv md ops n listed →
   (∀ j oj, ops[j]? = some oj → j ≠ i → listed.getD j true = false → (∀ e ∈ oj.after, Region.binds md e = true → e.on ≠ i) → oi.apart ops oj = true) →
   i ∈ Region.ready md ops listed → DoesA P ops S oi v a →
   wpHeadA P md ops S step val ps n L f D (listed.setIfInBounds i true) (a.put oi.dst v) → wpHeadA P md ops S step val ps n L (f + 1) D listed a := by
 intro f
 induction f with
 | zero =>
  intro D listed a inv _ hr hy H
  have hun := (mem_ready.1 hr).1
  refine ⟨fun h => (by rw [h] at hr; cases hr), fun j hj => ?_⟩
  have hjn : j < n := by
   rcases Nat.lt_or_ge j n with h | h
   ·exact h
   ·exact absurd hj (tail_waits hs hc hn inv _ i rfl hin hun j h)
  refine ⟨hjn, ?_⟩
  by_cases hji : j = i
  ·subst hji; exact .inr ⟨hip, oi, v, hi, hy, H⟩
  ·have := hdone _ _ _ H j (ready_mono hj hji)
   omega
 | succ f ih =>
  intro D listed a inv hfree hr hy H
  have hun := (mem_ready.1 hr).1
  refine ⟨fun h => (by rw [h] at hr; cases hr), fun j hj => ?_⟩
  have hjn : j < n := by
   rcases Nat.lt_or_ge j n with h | h
   ·exact h
   ·exact absurd hj (tail_waits hs hc hn inv _ i rfl hin hun j h)
  refine ⟨hjn, ?_⟩
  by_cases hji : j = i
  ·subst hji; exact .inr ⟨hip, oi, v, hi, hy, H⟩
  ·obtain ⟨hjun, oj, hoj, hall⟩ := mem_ready.1 hj
   have hnot : ∀ e ∈ oj.after, Region.binds md e = true → e.on ≠ i := fun e he hb heq => by
    have h1 := hall e he hb
    rw [heq, getD_both hun] at h1
    cases h1
   have hap := hfree j oj hoj hji hjun hnot
   have hfree' : ∀ k ok, ops[k]? = some ok → k ≠ i → (listed.setIfInBounds j true).getD k true = false →
     (∀ e ∈ ok.after, Region.binds md e = true → e.on ≠ i) → oi.apart ops ok = true := fun k ok hk hki hun hno => by
    refine hfree k ok hk hki ?_ hno
    by_cases hjk : j = k
    ·subst hjk; exact hjun
    ·rw [getD_set_ne true hjk] at hun; exact hun
   rcases (H.2 j (ready_mono hj hji)).2 with ⟨hjp, h1⟩ | ⟨hjp, h1⟩
   ·have h2 := newOp_put hoj hap (fun cs b => hsel i oi cs b hi) (fun cs b => hsel j oj cs b hoj) hy h1
    refine .inl ⟨hjp, newOp_mono (fun x b h3 => ih x (listed.setIfInBounds j true) b (inv.set hj hjn) hfree' (ready_mono hr (Ne.symm hji)) h3.1 ?_) h2⟩
    rw [Array.setIfInBounds_comm _ _ hji]
    exact h3.2
   ·have h2 := doOpA_put hoj hap (fun cs b => hsel i oi cs b hi) (fun cs b => hsel j oj cs b hoj) hy h1
    refine .inr ⟨hjp, doOpA_mono (fun b h3 => ih D (listed.setIfInBounds j true) b (inv.set hj hjn) hfree' (ready_mono hr (Ne.symm hji)) h3.1 ?_) h2⟩
    rw [Array.setIfInBounds_comm _ _ hji]
    exact h3.2
def wpDA (P : Program) (ops : Array Oper) (S : σ → World → Prop) (L : Act → Prop) : List Oper → Act → Prop
 | [], a => L a
 | o :: rest, a => ∃ v, DoesA P ops S o v a ∧ wpDA P ops S L rest (a.put o.dst v)
def marks (listed : Array Bool) : List Nat → Array Bool
 | [] => listed
 | k :: l => marks (listed.setIfInBounds k true) l
def takes (md : Region.Mode) (ops : Array Oper) (ps : List Nat) (n : Nat) : List Nat → Array Bool → Bool
 | [], _ => true
 | k :: l, listed => (Region.ready md ops listed).contains k && Region.free md ops listed k && decide (k < n) && !ps.contains k && takes md ops ps n l (listed.setIfInBounds k true)
def opsAt (l : List Oper) : List Nat → List Oper
 | [] => []
 | k :: r => match l[k]? with | some o => o :: opsAt l r | none => opsAt l r
theorem head_takes {ps : List Nat} {n f : Nat} {l : List Oper} {L : σ → Array Bool → Act → Prop} {D : σ} (hl : l.toArray = ops) (hsel : Region.noSelect ops = true) (hs : Region.sinkB md ops n = true) (hc : Region.chainB md ops n = true) (hn : n < ops.size)
  (hdone : ∀ D listed a, L D listed a → ∀ j ∈ Region.ready md ops listed, n ≤ j) :
  ∀ (order : List Nat) (listed : Array Bool) (a : Act), HeadInv md ops n listed → takes md ops ps n order listed = true →
   wpDA P ops S (fun a' => HeadInv md ops n (marks listed order) → wpHeadA P md ops S step val ps n L f D (marks listed order) a') (opsAt l order) a → wpHeadA P md ops S step val ps n L (order.length + f) D listed a
 | [], listed, a, inv, _, h => by rw [show ([] : List Nat).length + f = f by simp]; exact h inv
 | k :: order, listed, a, inv, hB, h => by
  simp only [takes, Bool.and_eq_true, decide_eq_true_eq, Bool.not_eq_true'] at hB
  obtain ⟨⟨⟨⟨hr, hf⟩, hk⟩, hp⟩, hB'⟩ := hB
  have hr' : k ∈ Region.ready md ops listed := by simpa using hr
  obtain ⟨_, o, ho, _⟩ := mem_ready.1 hr'
  have hlo : l[k]? = some o := by rw [← hl] at ho; simpa using ho
  simp only [opsAt, hlo] at h
  obtain ⟨v, hy, hK⟩ := h
  have hpk : k ∉ ps := by simpa using hp
  rw [show (k :: order).length + f = (order.length + f) + 1 by simp only [List.length_cons]; omega]
  exact head_firstA ho hpk (Region.noSelect_spec hsel) hs hc hn hk hdone (order.length + f) D listed a inv (Region.free_spec ho hf) hr' hy
   (head_takes hl hsel hs hc hn hdone order _ _ (inv.set hr' hk) hB' hK)
end
section
variable {P : Program} {md : Region.Mode}
def checkA (ops : Array Oper) (n : Nat) (ps order : List Nat) : Bool :=
 Region.noSelect ops && decide (n < ops.size) && Region.sinkB .any ops n && Region.chainB .any ops n && takes .any ops ps n order (Array.replicate ops.size false) && decide (order.length + ps.length = n)
theorem region_news {σ : Type} {id : Nat} {Q : Exit → Act → World → Prop} {a : Act} {w : World} {l : List Oper} (S : σ → World → Prop) (step : Nat → σ → σ → Prop) (val : Nat → σ → Value) (D0 : σ) (n : Nat) (ps order : List Nat) (hm : P.follows .mixedOrders = true) (hB : checkA l.toArray n ps order = true)
  (hS : S D0 w.drew)
  (h : wpDA P l.toArray S (fun a' => wpHeadA P .any l.toArray S step val ps n (fun D listed a' => Region.seqB .any l.toArray (l.toArray.size - n) n listed = true ∧ ∀ w', S D w' → wpList P l.toArray Q (l.drop n) a' w') ps.length D0 (marks (Array.replicate l.toArray.size false) order) a') (opsAt l order) a) : (Code.region id l.toArray true).wp P Q a w := by
 simp only [checkA, Bool.and_eq_true, decide_eq_true_eq] at hB
 obtain ⟨⟨⟨⟨⟨hsel, hn⟩, hs⟩, hc⟩, htk⟩, hlen⟩ := hB
 have hn' : n < l.length := by simpa using hn
 have hdl : (l.drop n).length = l.toArray.size - n := by simp
 have inv0 : HeadInv .any l.toArray n (Array.replicate l.toArray.size false) :=
  ⟨by simp, fun j oj _ hl => (by rw [getD_replicate_false] at hl; cases hl), fun t _ ht => getD_in (by simpa using ht) (getD_replicate_false _ _)⟩
 refine wp_region_any hm ?_
 have mono : ∀ (os : List Oper) (a : Act) (K K' : Act → Prop), (∀ a, K a → K' a) → wpDA P l.toArray S K os a → wpDA P l.toArray S K' os a := by
  intro os
  induction os with
  | nil => intro a K K' hk h; exact hk _ h
  | cons o os ih => intro a K K' hk ⟨v, h1, h2⟩; exact ⟨v, h1, ih _ _ _ hk h2⟩
 have H := head_takes (f := ps.length) (step := step) (val := val) rfl hsel hs hc hn (fun D listed a hL => seqB_ready hL.1) order _ a inv0 htk (mono _ _ _ _ (fun a' h' inv => h') h)
 have := any_of_headA (Q := Q) (g := l.toArray.size - n) (fun D listed a' hL w' hS' => by
   have := wpAny_of_seq (md := .any) (Q' := Q) (l.drop n) n listed a' w' (fun j => by simp [List.getElem?_drop]) (by rw [hdl]; exact hL.1) (hL.2 w' hS')
   rwa [hdl] at this) _ _ _ _ H w.drew hS
 rw [hlen, show n + (l.toArray.size - n) = l.toArray.size by omega] at this
 exact this
theorem special_one {σ : Type} {P : Program} {md : Region.Mode} {ops : Array Oper} {S : σ → World → Prop} {step : Nat → σ → σ → Prop} {val : Nat → σ → Value} {ps : List Nat} {n f : Nat} {L : σ → Array Bool → Act → Prop} {D : σ} {listed : Array Bool} {a : Act} (i : Nat) {o : Oper}
  (hr : Region.ready md ops listed = [i]) (hi : i < n) (hip : i ∈ ps) (ho : ops[i]? = some o) (hN : NewA P ops S step val i D o a) (hk : ∀ D', step i D D' → wpHeadA P md ops S step val ps n L f D' (listed.setIfInBounds i true) (a.put o.dst (val i D'))) :
  wpHeadA P md ops S step val ps n L (f + 1) D listed a := by
 refine ⟨by rw [hr]; simp, fun j hj => ?_⟩
 rw [hr] at hj
 have : j = i := by simpa using hj
 subst this
 exact ⟨hi, .inl ⟨hip, o, ho, hN, hk⟩⟩
variable {σ : Type} {ops : Array Oper} {S : σ → World → Prop}
theorem wpDA_nil {L : Act → Prop} {a : Act} (h : L a) : wpDA P ops S L [] a := h
theorem wpDA_pure {L : Act → Prop} {o : Oper} {rest : List Oper} {v : Value} {a : Act} (hg : o.guard = none) (h : ∀ w, (execOp a.eval o).run P w = .ok (.value v) w)
  (hr : wpDA P ops S L rest (a.put o.dst v)) : wpDA P ops S L (o :: rest) a :=
 ⟨v, fun D => .inl ⟨by unfold Region.wanted; rw [hg], fun w hS => ⟨w, .inl ⟨h w, hS⟩⟩⟩, hr⟩
theorem wpDA_here {L : Act → Prop} {o : Oper} {rest : List Oper} {v : Value} {a : Act} (hg : o.guard = none) (h : ∀ D w, S D w → (execOp a.eval o).run P w = .ok (.value v) w)
  (hr : wpDA P ops S L rest (a.put o.dst v)) : wpDA P ops S L (o :: rest) a :=
 ⟨v, fun D => .inl ⟨by unfold Region.wanted; rw [hg], fun w hS => ⟨w, .inl ⟨h D w hS, hS⟩⟩⟩, hr⟩
theorem wpDA_call {L : Act → Prop} {o : Oper} {rest : List Oper} {v : Value} {a : Act} (hg : o.guard = none) (f : FuncId) (args : Array Value)
  (h : ∀ w, (execOp a.eval o).run P w = .ok (.enter f args) w) (hc : ∀ D w, S D w → Calls P f args w (fun e w2 => e = .returned v ∧ S D w2))
  (hr : wpDA P ops S L rest (a.put o.dst v)) : wpDA P ops S L (o :: rest) a :=
 ⟨v, fun D => .inl ⟨by unfold Region.wanted; rw [hg], fun w hS => ⟨w, .inr (.inr ⟨f, args, h w, hc D w hS⟩)⟩⟩, hr⟩
end
end Pl
end
section
namespace Go.Proofs.YtebpijlmeemfaaaGreatDoor
open Go.RowKit Pl
structure N1 (w0 : World) (l : List (Nat × Vec)) (X : Vec) (D : Option (Nat × Bool)) (u : World) : Prop where
 bel : Below w0.heap.size w0 u
 hold : ∀ q ∈ l, u.heap[q.1]? = some (.cells (cells q.2) 23 (0, 0))
 new : ∀ x st, D = some (x, st) → u.heap[x]? = some (.cells (cells (bif st then X else 0)) 23 (0, 0)) ∧ w0.heap.size ≤ x ∧ ∀ q ∈ l, q.1 ≠ x
theorem N1.below {w0 u u1 : World} {l : List (Nat × Vec)} {X : Vec} {D : Option (Nat × Bool)} (h : N1 w0 l X D u) (hb : Below u.heap.size u u1) : N1 w0 l X D u1 :=
 ⟨h.bel.trans (hb.mono h.bel.size), fun q hq => blk_keep (h.hold q hq) hb, fun x st hx => ⟨blk_keep (h.new x st hx).1 hb, (h.new x st hx).2⟩⟩
theorem N1.drew {w0 u : World} {l : List (Nat × Vec)} {X : Vec} {D : Option (Nat × Bool)} (h : N1 w0 l X D u) : N1 w0 l X D u.drew := ⟨h.bel.drew, h.hold, h.new⟩
theorem N1.alloc {w0 u : World} {l : List (Nat × Vec)} {X : Vec} {D : Option (Nat × Bool)} (h : N1 w0 l X D u) : N1 w0 l X (some (u.heap.size, false)) (u.alloc (.cells (cells 0) 23)) :=
 ⟨h.bel.alloc h.bel.size _, fun q hq => blk_alloc (h.hold q hq) _, fun x st hx => by
  obtain ⟨rfl, rfl⟩ : u.heap.size = x ∧ false = st := by simpa using hx
  exact ⟨heap_alloc_new _ _, h.bel.size, fun q hq => Nat.ne_of_lt (block_lt (h.hold q hq))⟩⟩
theorem N1.store {w0 u u1 : World} {l : List (Nat × Vec)} {X : Vec} {x : Nat} (h : N1 w0 l X (some (x, false)) u) (hs : Sets u x X u1) : N1 w0 l X (some (x, true)) u1 := by
 obtain ⟨h1, h2, h3⟩ := h.new x false rfl
 refine ⟨h.bel.trans (hs.below.mono h2), fun q hq => blk_sets (h.hold q hq) hs (h3 q hq), fun y st hy => ?_⟩
 obtain ⟨rfl, rfl⟩ : x = y ∧ true = st := by simpa using hy
 exact ⟨hs.this, h2, h3⟩
theorem N1.start {w0 u : World} {l : List (Nat × Vec)} (X : Vec) (hb : Below w0.heap.size w0 u) (hh : ∀ q ∈ l, u.heap[q.1]? = some (.cells (cells q.2) 23 (0, 0))) : N1 w0 l X none u :=
 ⟨hb, hh, fun x st hx => by cases hx⟩
theorem do_loadA {σ : Type} {ops : Array Oper} {S : σ → World → Prop} {L : Act → Prop} {o : Oper} {rest : List Oper} {a : Act} (hg : o.guard = none) (x : Operand) (ho : o.op = .load 23 x) (g : Nat)
  (hx : a.eval x = .pointer (some ⟨g, 0, none⟩)) (v : Vec) (h : ∀ D w, S D w → w.heap[g]? = some (.cells (cells v) 23 (0, 0)))
  (hr : wpDA Tryz.prog ops S L rest (a.put o.dst (.agg (cells v)))) : wpDA Tryz.prog ops S L (o :: rest) a :=
 wpDA_here hg (fun D w hS => by
  unfold execOp
  simp only [ho, hx, Instr.loadAt, Instr.sureAddr, Sem.run_bind, Sem.run_pure, Result.andThen_ok, run_loadVar_row w g 23 23 (cells v) (0, 0) _ (h D w hS) vunder rfl (vsize v)]) hr
theorem new_run {op : Oper} (ho : op.op = .alloc 23) (a : Act) (w : World) : (execOp a.eval op).run Tryz.prog w = .ok (.value (ptr w.heap.size)) (w.alloc (.cells (cells 0) 23)) := by
 have hz : (zeroValue 23).run Tryz.prog w = .ok (.agg #[.int .u8 0, .int .u8 0, .int .u8 0, .int .u8 0, .int .u8 0, .int .u8 0, .int .u8 0, .int .u8 0, .int .u8 0, .int .u8 0, .int .u8 0, .int .u8 0, .int .u8 0, .int .u8 0, .int .u8 0, .int .u8 0]) w := by kernel_rfl
 rw [cells_zero]
 unfold execOp
 simp only [ho, Instr.alloc, Sem.run_bind, hz, Result.andThen_ok]
 simp [newVar, newRow, Value.cells, go_sem, ptr]
theorem store_run {o : Oper} {a : Act} {w : World} (x y : Operand) (ho : o.op = .store 23 x y) (g : Nat) (v u : Vec) (hx : a.eval x = ptr g) (hy : a.eval y = .agg (cells v)) (hg : w.heap[g]? = some (.cells (cells u) 23 (0, 0))) :
  ∃ w1, Sets w g v w1 ∧ (execOp a.eval o).run Tryz.prog w = .ok .skip w1 := by
 refine ⟨_, sets_setRow v hg, ?_⟩
 unfold execOp
 unfold ptr at hx
 simp only [ho, hx, hy, Instr.storeAt, Instr.sureAddr, Sem.run_bind, Sem.run_pure, Result.andThen_ok, run_storeVar_row w g 23 23 (cells u) (cells v) hg (vsize v) (by simp) (all_cells v)]
def step1 (p q : Nat) (i : Nat) (D D' : Option (Nat × Bool)) : Prop := (i = p ∧ D = none ∧ ∃ x, D' = some (x, false)) ∨ (i = q ∧ ∃ x, D = some (x, false) ∧ D' = some (x, true))
def val1 (p : Nat) (i : Nat) (D : Option (Nat × Bool)) : Value := if i = p then (match D with | some (x, _) => ptr x | none => undef) else undef
def check1 (ops : Array Oper) (n p q : Nat) (order : List Nat) : Bool :=
 checkA ops n [p, q] order && decide (p ≠ q) && decide (p < n) && decide (q < n) && (Region.ready .any ops (marks (Array.replicate ops.size false) order) == [p]) && (Region.ready .any ops ((marks (Array.replicate ops.size false) order).setIfInBounds p true) == [q]) &&
 Region.seqB .any ops (ops.size - n) n (((marks (Array.replicate ops.size false) order).setIfInBounds p true).setIfInBounds q true)
theorem region_new1 {id : Nat} {Q : Exit → Act → World → Prop} {a : Act} {w : World} {l : List Oper} (w0 : World) (hs : List (Nat × Vec)) (X : Vec) (n p q : Nat) (order : List Nat) (hB : check1 l.toArray n p q order = true)
  {op oq : Oper} (hop : l[p]? = some op) (hoq : l[q]? = some oq) (hpn : op.guard = none) (hpo : op.op = .alloc 23) (hqn : oq.guard = none) (xo yo : Operand) (hqo : oq.op = .store 23 xo yo) (hqd : oq.dst = none)
  (hS : N1 w0 hs X none w.drew)
  (h : wpDA Tryz.prog l.toArray (N1 w0 hs X) (fun a' => ∀ x, (a'.put op.dst (ptr x)).eval xo = ptr x ∧ (a'.put op.dst (ptr x)).eval yo = .agg (cells X) ∧ ∀ w', N1 w0 hs X (some (x, true)) w' → wpList Tryz.prog l.toArray Q (l.drop n) ((a'.put op.dst (ptr x)).put oq.dst undef) w') (opsAt l order) a) : (Code.region id l.toArray true).wp Tryz.prog Q a w := by
 simp only [check1, Bool.and_eq_true, decide_eq_true_eq, beq_iff_eq] at hB
 obtain ⟨⟨⟨⟨⟨⟨hA, hpq⟩, hp⟩, hq⟩, hr1⟩, hr2⟩, hsq⟩ := hB
 refine region_news (N1 w0 hs X) (step1 p q) (val1 p) none n [p, q] order (by kernel_rfl) hA hS ?_
 have mono : ∀ (os : List Oper) (a : Act) (K K' : Act → Prop), (∀ a, K a → K' a) → wpDA Tryz.prog l.toArray (N1 w0 hs X) K os a → wpDA Tryz.prog l.toArray (N1 w0 hs X) K' os a := by
  intro os
  induction os with
  | nil => intro a K K' hk h; exact hk _ h
  | cons o os ih => intro a K K' hk ⟨v, h1, h2⟩; exact ⟨v, h1, ih _ _ _ hk h2⟩
 refine mono _ _ _ _ (fun a' h' => ?_) h
 refine special_one p hr1 hp (by simp) (by simpa using hop) ⟨by unfold Region.wanted; rw [hpn], fun w hw => ⟨some (w.heap.size, false), _, .inl ⟨rfl, rfl, _, rfl⟩, hw.alloc, .inl ?_⟩⟩ (fun D' hD => ?_)
 ·rw [new_run hpo]; simp [val1]
 ·rcases hD with ⟨_, _, x, rfl⟩ | ⟨h1, _⟩
  ·have hv : val1 p p (some (x, false)) = ptr x := by simp [val1]
   rw [hv]
   obtain ⟨hx, hy, hk⟩ := h' x
   refine special_one q hr2 hq (by simp) (by simpa using hoq) ⟨by unfold Region.wanted; rw [hqn], fun w hw => ?_⟩ (fun D' hD => ?_)
   ·obtain ⟨w1, h1, h2⟩ := store_run xo yo hqo x X 0 hx hy (hw.new x false rfl).1
    exact ⟨some (x, true), w1, .inr ⟨rfl, x, rfl, rfl⟩, hw.store h1, .inr ⟨h2, by simp [val1, Ne.symm hpq]⟩⟩
   ·rcases hD with ⟨h1, _⟩ | ⟨_, y, hy1, rfl⟩
    ·exact absurd h1 (Ne.symm hpq)
    ·have : x = y := by simpa using hy1
     subst this
     have hv2 : val1 p q (some (x, true)) = undef := by simp [val1, Ne.symm hpq]
     rw [hv2]
     exact ⟨hsq, hk⟩
  ·exact absurd h1 hpq
end Go.Proofs.YtebpijlmeemfaaaGreatDoor
end
