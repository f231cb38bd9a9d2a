/-
  Texts Pair.
-/
import Derived.Test.YtcpfabkokgiepaaQ01
import Derived.Test.YtcpfabkokgiepaaQ02
set_option linter.unusedSimpArgs false
set_option linter.unusedVariables false
set_option maxHeartbeats 8000000
open Pl
namespace Go.Proofs.Ytcpfabkokgiepaa
open Go.RowKit Pl
theorem sY (v : Vec) : (Try.prog.info? 45).map (·.size) = some (mY v).size := by rw [size_cells]; kernel_rfl
theorem r5 : Try.prog.underlying 45 = some (.array 16 5) := by kernel_rfl
theorem mG {ops : Array Oper} {rest : List Oper} {o : Oper} {a : Act} {w : World} {Q : Exit → Act → World → Prop} (hgd : o.guard = none) (x : Operand) (ho : o.op = .load 45 x)
 (g : Nat) (hx : a.eval x = .pointer (some ⟨g, 0, none⟩)) (v : Vec) (hg : w.heap[g]? = some (.cells (mY v) 45 (0, 0)))
 (h : wpList Try.prog ops Q rest (a.put o.dst (.agg (mY v))) w) : wpList Try.prog ops Q (o :: rest) a w :=
 wpList_load_row hgd _ x ho g hx _ _ _ _ hg r5 rfl (sY v) h
structure Sets (w : World) (g : Nat) (v : Vec) (w' : World) : Prop where
 os : w'.os = w.os
 tape : w'.tape = w.tape
 output : w'.output = w.output
 size : w'.heap.size = w.heap.size
 this : w'.heap[g]? = some (.cells (mY v) 45 (0, 0))
 other : ∀ k, k ≠ g → w'.heap[k]? = w.heap[k]?
theorem sets_setRow {w : World} {g : Nat} {u : Vec} (v : Vec) (hg : w.heap[g]? = some (.cells (mY u) 45 (0, 0))) : Sets w g v (w.setRow g (mY v)) :=
 ⟨rfl, rfl, rfl, size_setRow _ _ _, setRow_heap w g _ _ _ _ hg, fun k hk => setRow_other w g k _ hk⟩
theorem mK {ops : Array Oper} {rest : List Oper} {o : Oper} {a : Act} {w : World} {Q : Exit → Act → World → Prop} (hgd : o.guard = none) (x y : Operand) (ho : o.op = .store 45 x y)
 (g : Nat) (v : Vec) (hx : a.eval x = .pointer (some ⟨g, 0, none⟩)) (hy : a.eval y = .agg (mY v)) (u : Vec) (hg : w.heap[g]? = some (.cells (mY u) 45 (0, 0)))
 (h : ∀ w', Sets w g v w' → wpList Try.prog ops Q rest (a.put o.dst undef) w') : wpList Try.prog ops Q (o :: rest) a w :=
 wpList_store_row hgd _ x y ho g (mY v) hx hy _ _ hg (sY v) (by simp) (all_cells v) (h _ (sets_setRow v hg))
theorem run_store_byte (w : World) (b j : Nat) (x : Int) (y : Value) (hc : w.cell? ⟨b, j, none⟩ = some y) (hf : w.frozen? ⟨b, j, none⟩ = false) :
 (Instr.storeAt 5 (.pointer (some ⟨b, j, none⟩)) (.int .u8 x)).run Try.prog w = .ok () (w.setCell ⟨b, j, none⟩ (.int .u8 x)) := by
 have h1 : (sizeOf 5).run Try.prog w = .ok 1 w := by kernel_rfl
 simp [Instr.storeAt, Instr.sureAddr, storeVar, h1, Value.cells, storeCells, Addr.add, hc, hf, go_sem]
theorem sets_setCell {w : World} {g : Nat} {v : Vec} (j n : Nat) (hj : j < 16) (hg : w.heap[g]? = some (.cells (mY v) 45 (0, 0))) :
 Sets w g (pN v (8 * j) 8 n) (w.setCell ⟨g, j, none⟩ (.int .u8 ((n % 256 : Nat) : Int))) :=
 ⟨rfl, rfl, rfl, by simp [World.setCell], by rw [heap_setCell_same w g j _ _ _ hg, set_cells v j n hj], fun k hk => heap_setCell_other w _ k _ hk⟩
theorem mP {ops : Array Oper} {rest : List Oper} {o : Oper} {a : Act} {w : World} {Q : Exit → Act → World → Prop} (hgd : o.guard = none) (x y : Operand) (ho : o.op = .store 5 x y)
 (g j : Nat) (z : Int) (n : Nat) (hx : a.eval x = .pointer (some ⟨g, j, none⟩)) (hy : a.eval y = .int .u8 z) (v : Vec) (hg : w.heap[g]? = some (.cells (mY v) 45 (0, 0)))
 (hj : j < 16) (hz : z = (n % 256 : Nat))
 (h : ∀ w', Sets w g (pN v (8 * j) 8 n) w' → wpList Try.prog ops Q rest (a.put o.dst undef) w') : wpList Try.prog ops Q (o :: rest) a w := by
 subst hz
 refine wpList_plain hgd fun _ hK => ?_
 unfold Oper.wp execOp
 simp only [ho, hx, hy]
 rw [Sem.run_bind, run_store_byte w g j _ (sP v j) (by rw [cell_of_row w g j _ _ _ hg, getElem?_cells _ _ hj]) (frozen_of_row w g j _ _ hg)]
 exact hK _ _ (h _ (sets_setCell j n hj hg))
theorem Sets.refl {w : World} {g : Nat} {v : Vec} (hg : w.heap[g]? = some (.cells (mY v) 45 (0, 0))) : Sets w g v w := ⟨rfl, rfl, rfl, rfl, hg, fun _ _ => rfl⟩
theorem Sets.trans {w w1 w2 : World} {g : Nat} {u v : Vec} (h : Sets w g u w1) (k : Sets w1 g v w2) : Sets w g v w2 :=
 ⟨k.os.trans h.os, k.tape.trans h.tape, k.output.trans h.output, k.size.trans h.size, k.this, fun i hi => (k.other i hi).trans (h.other i hi)⟩
theorem Sets.below {w w1 : World} {g : Nat} {v : Vec} (h : Sets w g v w1) : Below g w w1 := ⟨h.os, h.tape, h.output, Nat.le_of_eq h.size.symm, fun k hk => h.other k (by omega)⟩
structure Kb (base : World) (O : Nat) (w1 : World) : Prop where
 os : w1.os = base.os
 tape : w1.tape = base.tape
 output : w1.output = base.output
 size : base.heap.size ≤ w1.heap.size
 other : ∀ k, k < base.heap.size → k ≠ O → w1.heap[k]? = base.heap[k]?
structure St (base : World) (O : Nat) (X : Vec) (w1 : World) : Prop where
 kb : Kb base O w1
 this : w1.heap[O]? = some (.cells (mY X) 45 (0, 0))
theorem Kb.refl (base : World) (O : Nat) : Kb base O base := ⟨rfl, rfl, rfl, Nat.le_refl _, fun _ _ _ => rfl⟩
theorem Kb.below {base w1 w2 : World} {O : Nat} (h : Kb base O w1) (hb : Below w1.heap.size w1 w2) : Kb base O w2 :=
 ⟨hb.os.trans h.os, hb.tape.trans h.tape, hb.output.trans h.output, Nat.le_trans h.size hb.size, fun k hk hO => (hb.block k (Nat.lt_of_lt_of_le hk h.size)).trans (h.other k hk hO)⟩
theorem Kb.sets {base w1 w2 : World} {O : Nat} {v : Vec} (h : Kb base O w1) (hs : Sets w1 O v w2) : Kb base O w2 :=
 ⟨hs.os.trans h.os, hs.tape.trans h.tape, hs.output.trans h.output, by rw [hs.size]; exact h.size, fun k hk hO => (hs.other k hO).trans (h.other k hk hO)⟩
theorem Kb.drew {base w1 : World} {O : Nat} (h : Kb base O w1) : Kb base O w1.drew := ⟨h.os, h.tape, h.output, h.size, h.other⟩
theorem Kb.to_below {w base w1 : World} {O : Nat} (hb : Below w.heap.size w base) (hO : w.heap.size ≤ O) (h : Kb base O w1) : Below w.heap.size w w1 :=
 ⟨h.os.trans hb.os, h.tape.trans hb.tape, h.output.trans hb.output, Nat.le_trans hb.size h.size, fun k hk => (h.other k (Nat.lt_of_lt_of_le hk hb.size) (by omega)).trans (hb.block k hk)⟩
theorem mF {w : World} {k : Nat} {o : Obj} (h : w.heap[k]? = some o) : k < w.heap.size := (Array.getElem?_eq_some_iff.1 h).1
theorem Kb.get {base w1 : World} {O k : Nat} {o : Obj} (h : Kb base O w1) (hk : base.heap[k]? = some o) (hO : k ≠ O) : w1.heap[k]? = some o := (h.other k (mF hk) hO).trans hk
theorem St.start {base : World} {O : Nat} {X : Vec} (h : base.heap[O]? = some (.cells (mY X) 45 (0, 0))) : St base O X base := ⟨Kb.refl _ _, h⟩
theorem St.below {base w1 w2 : World} {O : Nat} {X : Vec} (h : St base O X w1) (hb : Below w1.heap.size w1 w2) : St base O X w2 := ⟨h.kb.below hb, (hb.block O (mF h.this)).trans h.this⟩
theorem St.sets {base w1 w2 : World} {O : Nat} {X Y : Vec} (h : St base O X w1) (hs : Sets w1 O Y w2) : St base O Y w2 := ⟨h.kb.sets hs, hs.this⟩
theorem St.drew {base w1 : World} {O : Nat} {X : Vec} (h : St base O X w1) : St base O X w1.drew := ⟨h.kb.drew, h.this⟩
theorem dH {ops : Array Oper} {S : World → Prop} {L : Act → Prop} {o : Oper} {rest : List Oper} {a : Act} (hg : o.guard = none) (x : Operand) (ho : o.op = .load 45 x) (g : Nat)
 (hx : a.eval x = .pointer (some ⟨g, 0, none⟩)) (v : Vec) (h : ∀ w, S w → w.heap[g]? = some (.cells (mY v) 45 (0, 0)))
 (hr : wpD Try.prog ops S L rest (a.put o.dst (.agg (mY v)))) : wpD Try.prog ops S L (o :: rest) a :=
 wpD_here hg (fun w hS => by
  unfold execOp
  simp only [ho, hx, Instr.loadAt, Instr.sureAddr, Sem.run_bind, Sem.run_pure, Result.andThen_ok, run_loadVar_row w g 45 45 (mY v) (0, 0) _ (h w hS) r5 rfl (sY v)]) hr
theorem mS {fn : Func} {p q : Tmp} (h : fn.results = #[.cell p 45, .tmp q]) (tmps : Array Value) (w : World) (g : Nat) (v : Vec) (y : Value)
 (hp : tmps.getD p undef = .pointer (some ⟨g, 0, none⟩)) (hq : tmps.getD q undef = y) (hg : w.heap[g]? = some (.cells (mY v) 45 (0, 0))) :
 (results fn tmps).run Try.prog w = .ok (.tuple #[.agg (mY v), y]) w := by
 have hp' : tmps[p]?.getD undef = .pointer (some ⟨g, 0, none⟩) := by simpa using hp
 have hq' : tmps[q]?.getD undef = y := by simpa using hq
 simp [results, h, hp', hq', asAddr, run_loadVar_row w g 45 45 (mY v) (0, 0) _ hg r5 rfl (sY v)]
theorem mC (w : World) : (w.alloc (.cells #[.int .u8 0, .int .u8 0, .int .u8 0, .int .u8 0, .int .u8 0, .int .u8 0, .int .u8 0, .int .u8 0, .int .u8 0, .int .u8 0, .int .u8 0, .int .u8 0, .int .u8 0, .int .u8 0, .int .u8 0, .int .u8 0] 45)).heap[w.heap.size]? = some (.cells (mY 0) 45 (0, 0)) := by
 rw [mU]; exact heap_alloc_new _ _
theorem mV {w w1 : World} {b : Nat} {o : Obj} (h : w.heap[b]? = some o) (hb : Below w.heap.size w w1) : w1.heap[b]? = some o := (hb.block b (mF h)).trans h
theorem mE {w : World} {b : Nat} {o : Obj} (h : w.heap[b]? = some o) (x : Obj) : (w.alloc x).heap[b]? = some o := by rw [heap_alloc_old _ _ (mF h), h]
theorem mR {w w1 : World} {b g : Nat} {o : Obj} {v : Vec} (h : w.heap[b]? = some o) (hs : Sets w g v w1) (hne : b ≠ g) : w1.heap[b]? = some o := (hs.other b hne).trans h
theorem mB {B : Nat} {w w1 w2 : World} (h : Below B w w1) (hB : B ≤ w.heap.size) (x : Obj) (hb : Below (w1.alloc x).heap.size (w1.alloc x) w2) : Below B w w2 :=
 (h.alloc (Nat.le_trans hB h.size) x).trans (hb.mono (by have := h.size; simp; omega))
theorem below_next {B : Nat} {w w1 w2 : World} (h : Below B w w1) (hB : B ≤ w.heap.size) (hb : Below w1.heap.size w1 w2) : Below B w w2 :=
 h.trans (hb.mono (Nat.le_trans hB h.size))
theorem tH {B : Nat} {w w1 w2 : World} {x : Obj} {v : Vec} (h : Below B w w1) (hB : B ≤ w.heap.size) (hs : Sets (w1.alloc x) w1.heap.size v w2) : Below B w w2 :=
 (h.alloc (Nat.le_trans hB h.size) x).trans (hs.below.mono (Nat.le_trans hB h.size))
theorem eU {a b : Nat} (h : a = b) : Ending.returned (.int .u64 (a : Int)) = Ending.returned (.int .u64 (b : Int)) := by rw [h]
theorem uU {a b : Int} (h : a = b) : Ending.returned (.int .i64 a) = Ending.returned (.int .i64 b) := by rw [h]
theorem fH (x : Int) (w : World) :
 Calls Try.prog 50 #[.int .i64 x] w fun e w' => e = .returned (.int .i64 (sE x)) ∧ w = w' := by
 by_cases h1 : x = 8
 ·subst h1; go_enter Try.func50, Try.ntmps50; go_wp2; go_ret; exact ⟨rfl, rfl⟩
 by_cases h2 : x = 16
 ·subst h2; go_enter Try.func50, Try.ntmps50; go_wp2; go_ret; exact ⟨rfl, rfl⟩
 by_cases h3 : x = 32
 ·subst h3; go_enter Try.func50, Try.ntmps50; go_wp2; go_ret; exact ⟨rfl, rfl⟩
 by_cases h4 : x = 64
 ·subst h4; go_enter Try.func50, Try.ntmps50; go_wp2; go_ret; exact ⟨rfl, rfl⟩
 have e : sE x = 0 := by simp [sE, h1, h2, h3, h4]
 rw [e]
 have h1' := beq_eq_false_iff_ne.2 h1
 have h2' := beq_eq_false_iff_ne.2 h2
 have h3' := beq_eq_false_iff_ne.2 h3
 have h4' := beq_eq_false_iff_ne.2 h4
 clear e h1 h2 h3 h4
 go_enter Try.func50, Try.ntmps50
 go_wp2
 go_ret
 exact ⟨rfl, rfl⟩
theorem sL (w : World) : Calls Try.prog 50 #[.int .i64 8] w fun e w' => e = .returned (.int .i64 16) ∧ w = w' := fH 8 w
theorem rD (w : World) : Calls Try.prog 50 #[.int .i64 16] w fun e w' => e = .returned (.int .i64 8) ∧ w = w' := fH 16 w
theorem sX (w : World) : Calls Try.prog 50 #[.int .i64 32] w fun e w' => e = .returned (.int .i64 4) ∧ w = w' := fH 32 w
theorem sZ (w : World) : Calls Try.prog 50 #[.int .i64 64] w fun e w' => e = .returned (.int .i64 2) ∧ w = w' := fH 64 w
theorem d6 (v : Vec) (b s l : Nat) (c : Nat) (w : World) (h : s + l ≤ 16) (hl : l ≤ 8) (hb : w.heap[b]? = some (.cells (mY v) 45 (0, 0))) :
 Calls Try.prog 48 #[.slice (some ⟨b, s, none⟩) l c] w fun e w' => e = .returned (.int .u64 (tW v (8 * s) (8 * l) : Nat)) ∧ w = w' := by
 go_enter Try.func48, Try.ntmps48
 go_wp2
 go_loop [3, 8] (fun x i => ∃ k : Nat, k ≤ l ∧ i = .int .i64 k ∧ x = .int .u64 (tW v (8 * s) (8 * k) : Nat)) (fun _ i => l - (intOf i).toNat)
 case atStart => exact ⟨0, Nat.zero_le _, rfl, by simp [tW, Nat.mod_one]⟩
 case round =>
  obtain ⟨k, hk, rfl, rfl⟩ := hrel
  by_cases hlt : k < l
  ·have hcell : w.cell? ⟨b, s + k, none⟩ = some (sP v (s + k)) := by
    rw [cell_of_row w b (s + k) _ _ _ hb, getElem?_cells _ _ (by omega)]
   unfold sP at hcell
   go_wp2
   go_round
   case rel => exact ⟨k + 1, by omega, by go_num, by rw [or_step v s k (by omega)]⟩
   case measure => exact xL
  ·obtain rfl : k = l := by omega
   go_wp2
   go_ret
   exact ⟨rfl, rfl⟩
theorem slice_vec (b : Nat) (l h : Int) (i n : Nat) (hl : l = (i * n : Nat)) (hh : h = (i * n : Nat) + n) (h1 : 0 < n) (h2 : i * n + n ≤ 16) (W : World) :
 (Instr.sliceAt 45 (.pointer (some ⟨b, 0, none⟩)) (some (.int .i64 l)) (some (.int .i64 h)) none).run Try.prog W = .ok (.slice (some ⟨b, i * n, none⟩) n (16 - i * n)) W := by
 have ha : Try.prog.arrayLen 45 = 16 := by kernel_rfl
 have hz : ∀ w, (sizeOf (Try.prog.elem 45)).run Try.prog w = .ok 1 w := fun w => by kernel_rfl
 subst hl hh
 rw [run_sliceAt_array_lh W _ _ (by kernel_rfl) _ _ _ _ (by omega) (by omega) (by rw [ha]; omega), hz, ha]
 generalize i * n = k at *
 simp only [slicedAt, Result.andThen_ok, Int.toNat_natCast, Nat.mul_one]
 rw [if_neg (by omega)]
 have e : ((k : Int) + n).toNat = k + n := by omega
 rw [e, Nat.add_sub_cancel_left]
 simp [Addr.add]
 omega
theorem get8 (v : Vec) (i : Nat) (w : World) (hi : i < 16) :
 Calls Try.prog 51 #[.agg (mY v), .int .i64 8, .int .i64 i] w fun e w' => e = .returned (.int .u64 (mT v 8 i : Nat)) ∧ Below w.heap.size w w' := by
 have hh := fun c => d6 v w.heap.size (i) 1 c (w.alloc (.cells (mY v) 45)) (by omega) (by omega) (heap_alloc_new _ _)
 have hs := slice_vec w.heap.size (i : Int) ((i : Int) + 1) i 1 (by omega) (by omega) (by omega) (by omega)
 have hi' : (i : Int) < 16 := by omega
 simp only [Nat.mul_one] at hs
 go_enter Try.func51, Try.ntmps51
 go_wp2_with (first | (go_at_call 50; ((with_reducible refine (sL _).mono ?_); rintro e w' ⟨rfl, rfl⟩)) | (go_at_call 48; refine (hh _).mono ?_; rintro e w' ⟨rfl, rfl⟩))
 go_ret
 refine ⟨eU ?_, (Below.refl _ _).alloc (Nat.le_refl _) _⟩
 unfold mT
 rw [show 8 * (i) = 8 * i by omega]
theorem signed8 (v : Vec) (i : Nat) (w : World) (hi : i < 16) :
 Calls Try.prog 53 #[.agg (mY v), .int .i64 8, .int .i64 i] w fun e w' => e = .returned (.int .i64 (sgn 8 (mT v 8 i))) ∧ Below w.heap.size w w' := by
 have hg := get8 v i (w.alloc (.cells (mY v) 45)) hi
 go_enter Try.func53, Try.ntmps53
 go_wp2_with (first | (go_at_call 50; ((with_reducible refine (sL _).mono ?_); rintro e w' ⟨rfl, rfl⟩)) | (with_reducible refine mG rfl _ rfl _ rfl v (heap_alloc_new _ _) ?_) | (go_at_call 51; refine hg.mono ?_; rintro e w' ⟨rfl, hb⟩))
 go_ret
 exact ⟨uU (sgn_8 _ (mL v 8 i)), ((Below.refl _ _).alloc (Nat.le_refl _) _).trans (hb.mono (by simp))⟩
theorem get16 (v : Vec) (i : Nat) (w : World) (hi : i < 8) :
 Calls Try.prog 51 #[.agg (mY v), .int .i64 16, .int .i64 i] w fun e w' => e = .returned (.int .u64 (mT v 16 i : Nat)) ∧ Below w.heap.size w w' := by
 have hh := fun c => d6 v w.heap.size (i * 2) 2 c (w.alloc (.cells (mY v) 45)) (by omega) (by omega) (heap_alloc_new _ _)
 have hs := slice_vec w.heap.size ((i : Int) * 2) (((i : Int) * 2) + 2) i 2 (by omega) (by omega) (by omega) (by omega)
 have hi' : (i : Int) < 8 := by omega
 go_enter Try.func51, Try.ntmps51
 go_wp2_with (first | (go_at_call 50; ((with_reducible refine (rD _).mono ?_); rintro e w' ⟨rfl, rfl⟩)) | (go_at_call 48; refine (hh _).mono ?_; rintro e w' ⟨rfl, rfl⟩))
 go_ret
 refine ⟨eU ?_, (Below.refl _ _).alloc (Nat.le_refl _) _⟩
 unfold mT
 rw [show 8 * (i * 2) = 16 * i by omega]
theorem signed16 (v : Vec) (i : Nat) (w : World) (hi : i < 8) :
 Calls Try.prog 53 #[.agg (mY v), .int .i64 16, .int .i64 i] w fun e w' => e = .returned (.int .i64 (sgn 16 (mT v 16 i))) ∧ Below w.heap.size w w' := by
 have hg := get16 v i (w.alloc (.cells (mY v) 45)) hi
 go_enter Try.func53, Try.ntmps53
 go_wp2_with (first | (go_at_call 50; ((with_reducible refine (rD _).mono ?_); rintro e w' ⟨rfl, rfl⟩)) | (with_reducible refine mG rfl _ rfl _ rfl v (heap_alloc_new _ _) ?_) | (go_at_call 51; refine hg.mono ?_; rintro e w' ⟨rfl, hb⟩))
 go_ret
 exact ⟨uU (sgn_16 _ (mL v 16 i)), ((Below.refl _ _).alloc (Nat.le_refl _) _).trans (hb.mono (by simp))⟩
theorem get32 (v : Vec) (i : Nat) (w : World) (hi : i < 4) :
 Calls Try.prog 51 #[.agg (mY v), .int .i64 32, .int .i64 i] w fun e w' => e = .returned (.int .u64 (mT v 32 i : Nat)) ∧ Below w.heap.size w w' := by
 have hh := fun c => d6 v w.heap.size (i * 4) 4 c (w.alloc (.cells (mY v) 45)) (by omega) (by omega) (heap_alloc_new _ _)
 have hs := slice_vec w.heap.size ((i : Int) * 4) (((i : Int) * 4) + 4) i 4 (by omega) (by omega) (by omega) (by omega)
 have hi' : (i : Int) < 4 := by omega
 go_enter Try.func51, Try.ntmps51
 go_wp2_with (first | (go_at_call 50; ((with_reducible refine (sX _).mono ?_); rintro e w' ⟨rfl, rfl⟩)) | (go_at_call 48; refine (hh _).mono ?_; rintro e w' ⟨rfl, rfl⟩))
 go_ret
 refine ⟨eU ?_, (Below.refl _ _).alloc (Nat.le_refl _) _⟩
 unfold mT
 rw [show 8 * (i * 4) = 32 * i by omega]
theorem signed32 (v : Vec) (i : Nat) (w : World) (hi : i < 4) :
 Calls Try.prog 53 #[.agg (mY v), .int .i64 32, .int .i64 i] w fun e w' => e = .returned (.int .i64 (sgn 32 (mT v 32 i))) ∧ Below w.heap.size w w' := by
 have hg := get32 v i (w.alloc (.cells (mY v) 45)) hi
 go_enter Try.func53, Try.ntmps53
 go_wp2_with (first | (go_at_call 50; ((with_reducible refine (sX _).mono ?_); rintro e w' ⟨rfl, rfl⟩)) | (with_reducible refine mG rfl _ rfl _ rfl v (heap_alloc_new _ _) ?_) | (go_at_call 51; refine hg.mono ?_; rintro e w' ⟨rfl, hb⟩))
 go_ret
 exact ⟨uU (sgn_32 _ (mL v 32 i)), ((Below.refl _ _).alloc (Nat.le_refl _) _).trans (hb.mono (by simp))⟩
theorem get64 (v : Vec) (i : Nat) (w : World) (hi : i < 2) :
 Calls Try.prog 51 #[.agg (mY v), .int .i64 64, .int .i64 i] w fun e w' => e = .returned (.int .u64 (mT v 64 i : Nat)) ∧ Below w.heap.size w w' := by
 have hh := fun c => d6 v w.heap.size (i * 8) 8 c (w.alloc (.cells (mY v) 45)) (by omega) (by omega) (heap_alloc_new _ _)
 have hs := slice_vec w.heap.size ((i : Int) * 8) (((i : Int) * 8) + 8) i 8 (by omega) (by omega) (by omega) (by omega)
 have hi' : (i : Int) < 2 := by omega
 go_enter Try.func51, Try.ntmps51
 go_wp2_with (first | (go_at_call 50; ((with_reducible refine (sZ _).mono ?_); rintro e w' ⟨rfl, rfl⟩)) | (go_at_call 48; refine (hh _).mono ?_; rintro e w' ⟨rfl, rfl⟩))
 go_ret
 refine ⟨eU ?_, (Below.refl _ _).alloc (Nat.le_refl _) _⟩
 unfold mT
 rw [show 8 * (i * 8) = 64 * i by omega]
theorem signed64 (v : Vec) (i : Nat) (w : World) (hi : i < 2) :
 Calls Try.prog 53 #[.agg (mY v), .int .i64 64, .int .i64 i] w fun e w' => e = .returned (.int .i64 (sgn 64 (mT v 64 i))) ∧ Below w.heap.size w w' := by
 have hg := get64 v i (w.alloc (.cells (mY v) 45)) hi
 go_enter Try.func53, Try.ntmps53
 go_wp2_with (first | (go_at_call 50; ((with_reducible refine (sZ _).mono ?_); rintro e w' ⟨rfl, rfl⟩)) | (with_reducible refine mG rfl _ rfl _ rfl v (heap_alloc_new _ _) ?_) | (go_at_call 51; refine hg.mono ?_; rintro e w' ⟨rfl, hb⟩))
 go_ret
 exact ⟨uU (sgn_64 _ (mL v 64 i)), ((Below.refl _ _).alloc (Nat.le_refl _) _).trans (hb.mono (by simp))⟩
theorem set8 (v : Vec) (i x : Nat) (w : World) (hi : i < 16) :
 Calls Try.prog 54 #[.agg (mY v), .int .i64 8, .int .i64 i, .int .u64 x] w fun e w' => e = .returned (.agg (mY (t7 v 8 i x))) ∧ Below w.heap.size w w' := by
 have hi' : (i : Int) < 16 := by omega
 go_enter Try.func54, Try.ntmps54
 go_wp2_with (first | (go_at_call 50; ((with_reducible refine (sL _).mono ?_); rintro e w' ⟨rfl, rfl⟩)))
 rw [← mU]
 obtain ⟨W, hW, hB, hR, hZ⟩ := zF w v
 rw [← hW]
 clear hW
 go_loopw [21] (fun j wr => ∃ k : Nat, k ≤ 1 ∧ j = .int .i64 k ∧ Sets W w.heap.size (pN v (8 * (i)) (8 * k) x) wr) (fun j _ => 1 - (intOf j).toNat)
 case atStart => exact gT
 case round =>
  obtain ⟨k, hk, rfl, hs⟩ := hrel
  by_cases hlt : k < 1
  ·have hz : (x : Int) / 2 ^ (8 * k) % 256 = ((x / 2 ^ (8 * k) % 256 : Nat) : Int) := by simp
   have hz' := Lib.hid hz
   clear hz
   go_wp2_with (with_reducible refine mP rfl _ _ rfl w.heap.size (i + k) _ (x / 2 ^ (8 * k)) rfl rfl _ hs.this (by omega) hz'.out ?_; intro wq hq)
   go_roundw
   case rel =>
    refine ⟨k + 1, by omega, by go_num, ?_⟩
    have := hs.trans hq
    rw [show 8 * (i + k) = 8 * (i) + 8 * k by omega, v8 _ _ _ _ _ (by omega)] at this
    exact this
   case measure => exact xL
  ·exact yF
theorem set16 (v : Vec) (i x : Nat) (w : World) (hi : i < 8) :
 Calls Try.prog 54 #[.agg (mY v), .int .i64 16, .int .i64 i, .int .u64 x] w fun e w' => e = .returned (.agg (mY (t7 v 16 i x))) ∧ Below w.heap.size w w' := by
 have hi' : (i : Int) < 8 := by omega
 go_enter Try.func54, Try.ntmps54
 go_wp2_with (first | (go_at_call 50; ((with_reducible refine (rD _).mono ?_); rintro e w' ⟨rfl, rfl⟩)))
 rw [← mU]
 obtain ⟨W, hW, hB, hR, hZ⟩ := zF w v
 rw [← hW]
 clear hW
 go_loopw [21] (fun j wr => ∃ k : Nat, k ≤ 2 ∧ j = .int .i64 k ∧ Sets W w.heap.size (pN v (8 * (i * 2)) (8 * k) x) wr) (fun j _ => 2 - (intOf j).toNat)
 case atStart => exact gT
 case round =>
  obtain ⟨k, hk, rfl, hs⟩ := hrel
  by_cases hlt : k < 2
  ·have hz : (x : Int) / 2 ^ (8 * k) % 256 = ((x / 2 ^ (8 * k) % 256 : Nat) : Int) := by simp
   have hz' := Lib.hid hz
   clear hz
   go_wp2_with (with_reducible refine mP rfl _ _ rfl w.heap.size (i * 2 + k) _ (x / 2 ^ (8 * k)) rfl rfl _ hs.this (by omega) hz'.out ?_; intro wq hq)
   go_roundw
   case rel =>
    refine ⟨k + 1, by omega, by go_num, ?_⟩
    have := hs.trans hq
    rw [show 8 * (i * 2 + k) = 8 * (i * 2) + 8 * k by omega, v8 _ _ _ _ _ (by omega)] at this
    exact this
   case measure => exact xL
  ·exact yH
theorem set32 (v : Vec) (i x : Nat) (w : World) (hi : i < 4) :
 Calls Try.prog 54 #[.agg (mY v), .int .i64 32, .int .i64 i, .int .u64 x] w fun e w' => e = .returned (.agg (mY (t7 v 32 i x))) ∧ Below w.heap.size w w' := by
 have hi' : (i : Int) < 4 := by omega
 go_enter Try.func54, Try.ntmps54
 go_wp2_with (first | (go_at_call 50; ((with_reducible refine (sX _).mono ?_); rintro e w' ⟨rfl, rfl⟩)))
 rw [← mU]
 obtain ⟨W, hW, hB, hR, hZ⟩ := zF w v
 rw [← hW]
 clear hW
 go_loopw [21] (fun j wr => ∃ k : Nat, k ≤ 4 ∧ j = .int .i64 k ∧ Sets W w.heap.size (pN v (8 * (i * 4)) (8 * k) x) wr) (fun j _ => 4 - (intOf j).toNat)
 case atStart => exact gT
 case round =>
  obtain ⟨k, hk, rfl, hs⟩ := hrel
  by_cases hlt : k < 4
  ·have hz : (x : Int) / 2 ^ (8 * k) % 256 = ((x / 2 ^ (8 * k) % 256 : Nat) : Int) := by simp
   have hz' := Lib.hid hz
   clear hz
   go_wp2_with (with_reducible refine mP rfl _ _ rfl w.heap.size (i * 4 + k) _ (x / 2 ^ (8 * k)) rfl rfl _ hs.this (by omega) hz'.out ?_; intro wq hq)
   go_roundw
   case rel =>
    refine ⟨k + 1, by omega, by go_num, ?_⟩
    have := hs.trans hq
    rw [show 8 * (i * 4 + k) = 8 * (i * 4) + 8 * k by omega, v8 _ _ _ _ _ (by omega)] at this
    exact this
   case measure => exact xL
  ·exact yL
theorem set64 (v : Vec) (i x : Nat) (w : World) (hi : i < 2) :
 Calls Try.prog 54 #[.agg (mY v), .int .i64 64, .int .i64 i, .int .u64 x] w fun e w' => e = .returned (.agg (mY (t7 v 64 i x))) ∧ Below w.heap.size w w' := by
 have hi' : (i : Int) < 2 := by omega
 go_enter Try.func54, Try.ntmps54
 go_wp2_with (first | (go_at_call 50; ((with_reducible refine (sZ _).mono ?_); rintro e w' ⟨rfl, rfl⟩)))
 rw [← mU]
 obtain ⟨W, hW, hB, hR, hZ⟩ := zF w v
 rw [← hW]
 clear hW
 go_loopw [21] (fun j wr => ∃ k : Nat, k ≤ 8 ∧ j = .int .i64 k ∧ Sets W w.heap.size (pN v (8 * (i * 8)) (8 * k) x) wr) (fun j _ => 8 - (intOf j).toNat)
 case atStart => exact gT
 case round =>
  obtain ⟨k, hk, rfl, hs⟩ := hrel
  by_cases hlt : k < 8
  ·have hz : (x : Int) / 2 ^ (8 * k) % 256 = ((x / 2 ^ (8 * k) % 256 : Nat) : Int) := by simp
   have hz' := Lib.hid hz
   clear hz
   go_wp2_with (with_reducible refine mP rfl _ _ rfl w.heap.size (i * 8 + k) _ (x / 2 ^ (8 * k)) rfl rfl _ hs.this (by omega) hz'.out ?_; intro wq hq)
   go_roundw
   case rel =>
    refine ⟨k + 1, by omega, by go_num, ?_⟩
    have := hs.trans hq
    rw [show 8 * (i * 8 + k) = 8 * (i * 8) + 8 * k by omega, v8 _ _ _ _ _ (by omega)] at this
    exact this
   case measure => exact xL
  ·exact yM
theorem d7 (v : Vec) (j : Int) (i : Nat) (w : World) (hj : j = i) (hi : i < 16) :
 Calls Try.prog 51 #[.agg (mY v), .int .i64 8, .int .i64 j] w fun e w' => e = .returned (.int .u64 (mT v 8 i : Nat)) ∧ Below w.heap.size w w' := hj ▸ get8 v i w hi
theorem vC (v : Vec) (j : Int) (i : Nat) (w : World) (hj : j = i) (hi : i < 16) :
 Calls Try.prog 53 #[.agg (mY v), .int .i64 8, .int .i64 j] w fun e w' => e = .returned (.int .i64 (sgn 8 (mT v 8 i))) ∧ Below w.heap.size w w' := hj ▸ signed8 v i w hi
theorem eG (v : Vec) (j z : Int) (i x : Nat) (w : World) (hj : j = i) (hz : z = x) (hi : i < 16) :
 Calls Try.prog 54 #[.agg (mY v), .int .i64 8, .int .i64 j, .int .u64 z] w fun e w' => e = .returned (.agg (mY (t7 v 8 i x))) ∧ Below w.heap.size w w' := hj ▸ hz ▸ set8 v i x w hi
theorem fQ (v : Vec) (j : Int) (i : Nat) (w : World) (hj : j = i) (hi : i < 8) :
 Calls Try.prog 51 #[.agg (mY v), .int .i64 16, .int .i64 j] w fun e w' => e = .returned (.int .u64 (mT v 16 i : Nat)) ∧ Below w.heap.size w w' := hj ▸ get16 v i w hi
theorem tB (v : Vec) (j : Int) (i : Nat) (w : World) (hj : j = i) (hi : i < 8) :
 Calls Try.prog 53 #[.agg (mY v), .int .i64 16, .int .i64 j] w fun e w' => e = .returned (.int .i64 (sgn 16 (mT v 16 i))) ∧ Below w.heap.size w w' := hj ▸ signed16 v i w hi
theorem rN (v : Vec) (j z : Int) (i x : Nat) (w : World) (hj : j = i) (hz : z = x) (hi : i < 8) :
 Calls Try.prog 54 #[.agg (mY v), .int .i64 16, .int .i64 j, .int .u64 z] w fun e w' => e = .returned (.agg (mY (t7 v 16 i x))) ∧ Below w.heap.size w w' := hj ▸ hz ▸ set16 v i x w hi
theorem eH (v : Vec) (j : Int) (i : Nat) (w : World) (hj : j = i) (hi : i < 4) :
 Calls Try.prog 51 #[.agg (mY v), .int .i64 32, .int .i64 j] w fun e w' => e = .returned (.int .u64 (mT v 32 i : Nat)) ∧ Below w.heap.size w w' := hj ▸ get32 v i w hi
theorem v9 (v : Vec) (j : Int) (i : Nat) (w : World) (hj : j = i) (hi : i < 4) :
 Calls Try.prog 53 #[.agg (mY v), .int .i64 32, .int .i64 j] w fun e w' => e = .returned (.int .i64 (sgn 32 (mT v 32 i))) ∧ Below w.heap.size w w' := hj ▸ signed32 v i w hi
theorem uK (v : Vec) (j z : Int) (i x : Nat) (w : World) (hj : j = i) (hz : z = x) (hi : i < 4) :
 Calls Try.prog 54 #[.agg (mY v), .int .i64 32, .int .i64 j, .int .u64 z] w fun e w' => e = .returned (.agg (mY (t7 v 32 i x))) ∧ Below w.heap.size w w' := hj ▸ hz ▸ set32 v i x w hi
theorem dL (v : Vec) (j : Int) (i : Nat) (w : World) (hj : j = i) (hi : i < 2) :
 Calls Try.prog 51 #[.agg (mY v), .int .i64 64, .int .i64 j] w fun e w' => e = .returned (.int .u64 (mT v 64 i : Nat)) ∧ Below w.heap.size w w' := hj ▸ get64 v i w hi
theorem s7 (v : Vec) (j : Int) (i : Nat) (w : World) (hj : j = i) (hi : i < 2) :
 Calls Try.prog 53 #[.agg (mY v), .int .i64 64, .int .i64 j] w fun e w' => e = .returned (.int .i64 (sgn 64 (mT v 64 i))) ∧ Below w.heap.size w w' := hj ▸ signed64 v i w hi
theorem fD (v : Vec) (j z : Int) (i x : Nat) (w : World) (hj : j = i) (hz : z = x) (hi : i < 2) :
 Calls Try.prog 54 #[.agg (mY v), .int .i64 64, .int .i64 j, .int .u64 z] w fun e w' => e = .returned (.agg (mY (t7 v 64 i x))) ∧ Below w.heap.size w w' := hj ▸ hz ▸ set64 v i x w hi
end Go.Proofs.Ytcpfabkokgiepaa
namespace Go.Proofs.Ytcpfabkokgiepaa
open Go Go.RowKit Pl
theorem zK {ops : Array Oper} {S : World → Prop} {L : Act → Prop} {o : Oper} {rest : List Oper} {a a1 : Act} (hg : o.guard = none) (x : Operand) (ho : o.op = .load 45 x) (g : Nat) (hx : a.eval x = .pointer (some ⟨g, 0, none⟩)) (v : Vec) (h : ∀ w, S w → w.heap[g]? = some (.cells (mY v) 45 (0, 0))) (hr : wpD Try.prog ops S L rest a1) (ha : a.put o.dst (.agg (mY v)) = a1 := by simp only [Act.put, z5, z6, z7]; rfl) : wpD Try.prog ops S L (o :: rest) a := by
 subst ha
 exact dH hg x ho g hx v h hr
end Go.Proofs.Ytcpfabkokgiepaa
