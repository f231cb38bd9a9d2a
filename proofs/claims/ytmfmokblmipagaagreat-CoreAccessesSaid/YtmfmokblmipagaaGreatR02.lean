/-
  Texts Pair, DoP.
-/
import Derived.Test.YtmfmokblmipagaaGreatR01
set_option linter.unusedSimpArgs false
set_option linter.unusedVariables false
set_option maxHeartbeats 8000000
open Pl
section
namespace Go.Proofs.YtmfmokblmipagaaGreat
open Go.RowKit Pl
theorem vsize (v : Vec) : (Tryz.prog.info? 28).map (·.size) = some (cells v).size := by rw [size_cells]; kernel_rfl
theorem vunder : Tryz.prog.underlying 28 = some (.array 16 5) := by kernel_rfl
theorem load_vec {ops : Array Oper} {rest : List Oper} {o : Oper} {a : Act} {w : World} {Q : Exit → Act → World → Prop} (hgd : o.guard = none) (x : Operand) (ho : o.op = .load 28 x)
 (g : Nat) (hx : a.eval x = .pointer (some ⟨g, 0, none⟩)) (v : Vec) (hg : w.heap[g]? = some (.cells (cells v) 28 (0, 0)))
 (h : wpList Tryz.prog ops Q rest (a.put o.dst (.agg (cells v))) w) : wpList Tryz.prog ops Q (o :: rest) a w :=
 wpList_load_row hgd _ x ho g hx _ _ _ _ hg vunder rfl (vsize v) h
structure Sets (w : World) (g : Nat) (v : Vec) (w' : World) : Prop where
 os : w'.os = w.os
 tape : w'.tape = w.tape
 output : w'.output = w.output
 size : w'.heap.size = w.heap.size
 this : w'.heap[g]? = some (.cells (cells v) 28 (0, 0))
 other : ∀ k, k ≠ g → w'.heap[k]? = w.heap[k]?
theorem sets_setRow {w : World} {g : Nat} {u : Vec} (v : Vec) (hg : w.heap[g]? = some (.cells (cells u) 28 (0, 0))) : Sets w g v (w.setRow g (cells v)) :=
 ⟨rfl, rfl, rfl, size_setRow _ _ _, setRow_heap w g _ _ _ _ hg, fun k hk => setRow_other w g k _ hk⟩
theorem store_vec {ops : Array Oper} {rest : List Oper} {o : Oper} {a : Act} {w : World} {Q : Exit → Act → World → Prop} (hgd : o.guard = none) (x y : Operand) (ho : o.op = .store 28 x y)
 (g : Nat) (v : Vec) (hx : a.eval x = .pointer (some ⟨g, 0, none⟩)) (hy : a.eval y = .agg (cells v)) (u : Vec) (hg : w.heap[g]? = some (.cells (cells u) 28 (0, 0)))
 (h : ∀ w', Sets w g v w' → wpList Tryz.prog ops Q rest (a.put o.dst undef) w') : wpList Tryz.prog ops Q (o :: rest) a w :=
 wpList_store_row hgd _ x y ho g (cells v) hx hy _ _ hg (vsize v) (by simp) (all_cells v) (h _ (sets_setRow v hg))
theorem run_store_byte (w : World) (b j : Nat) (x : Int) (y : Value) (hc : w.cell? ⟨b, j, none⟩ = some y) (hf : w.frozen? ⟨b, j, none⟩ = false) :
 (Instr.storeAt 5 (.pointer (some ⟨b, j, none⟩)) (.int .u8 x)).run Tryz.prog w = .ok () (w.setCell ⟨b, j, none⟩ (.int .u8 x)) := by
 have h1 : (sizeOf 5).run Tryz.prog w = .ok 1 w := by kernel_rfl
 simp [Instr.storeAt, Instr.sureAddr, storeVar, h1, Value.cells, storeCells, Addr.add, hc, hf, go_sem]
theorem sets_setCell {w : World} {g : Nat} {v : Vec} (j n : Nat) (hj : j < 16) (hg : w.heap[g]? = some (.cells (cells v) 28 (0, 0))) :
 Sets w g (putAt v (8 * j) 8 n) (w.setCell ⟨g, j, none⟩ (.int .u8 ((n % 256 : Nat) : Int))) :=
 ⟨rfl, rfl, rfl, by simp [World.setCell], by rw [heap_setCell_same w g j _ _ _ hg, set_cells v j n hj], fun k hk => heap_setCell_other w _ k _ hk⟩
theorem store_byte {ops : Array Oper} {rest : List Oper} {o : Oper} {a : Act} {w : World} {Q : Exit → Act → World → Prop} (hgd : o.guard = none) (x y : Operand) (ho : o.op = .store 5 x y)
 (g j : Nat) (z : Int) (n : Nat) (hx : a.eval x = .pointer (some ⟨g, j, none⟩)) (hy : a.eval y = .int .u8 z) (v : Vec) (hg : w.heap[g]? = some (.cells (cells v) 28 (0, 0)))
 (hj : j < 16) (hz : z = (n % 256 : Nat))
 (h : ∀ w', Sets w g (putAt v (8 * j) 8 n) w' → wpList Tryz.prog ops Q rest (a.put o.dst undef) w') : wpList Tryz.prog ops Q (o :: rest) a w := by
 subst hz
 refine wpList_plain hgd fun _ hK => ?_
 unfold Oper.wp execOp
 simp only [ho, hx, hy]
 rw [Sem.run_bind, run_store_byte w g j _ (byteV v j) (by rw [cell_of_row w g j _ _ _ hg, getElem?_cells _ _ hj]) (frozen_of_row w g j _ _ hg)]
 exact hK _ _ (h _ (sets_setCell j n hj hg))
theorem Sets.refl {w : World} {g : Nat} {v : Vec} (hg : w.heap[g]? = some (.cells (cells v) 28 (0, 0))) : Sets w g v w := ⟨rfl, rfl, rfl, rfl, hg, fun _ _ => rfl⟩
theorem Sets.trans {w w1 w2 : World} {g : Nat} {u v : Vec} (h : Sets w g u w1) (k : Sets w1 g v w2) : Sets w g v w2 :=
 ⟨k.os.trans h.os, k.tape.trans h.tape, k.output.trans h.output, k.size.trans h.size, k.this, fun i hi => (k.other i hi).trans (h.other i hi)⟩
theorem Sets.below {w w1 : World} {g : Nat} {v : Vec} (h : Sets w g v w1) : Below g w w1 := ⟨h.os, h.tape, h.output, Nat.le_of_eq h.size.symm, fun k hk => h.other k (by omega)⟩
structure Kb (base : World) (O : Nat) (w1 : World) : Prop where
 os : w1.os = base.os
 tape : w1.tape = base.tape
 output : w1.output = base.output
 size : base.heap.size ≤ w1.heap.size
 other : ∀ k, k < base.heap.size → k ≠ O → w1.heap[k]? = base.heap[k]?
structure St (base : World) (O : Nat) (X : Vec) (w1 : World) : Prop where
 kb : Kb base O w1
 this : w1.heap[O]? = some (.cells (cells X) 28 (0, 0))
theorem Kb.refl (base : World) (O : Nat) : Kb base O base := ⟨rfl, rfl, rfl, Nat.le_refl _, fun _ _ _ => rfl⟩
theorem Kb.below {base w1 w2 : World} {O : Nat} (h : Kb base O w1) (hb : Below w1.heap.size w1 w2) : Kb base O w2 :=
 ⟨hb.os.trans h.os, hb.tape.trans h.tape, hb.output.trans h.output, Nat.le_trans h.size hb.size, fun k hk hO => (hb.block k (Nat.lt_of_lt_of_le hk h.size)).trans (h.other k hk hO)⟩
theorem Kb.sets {base w1 w2 : World} {O : Nat} {v : Vec} (h : Kb base O w1) (hs : Sets w1 O v w2) : Kb base O w2 :=
 ⟨hs.os.trans h.os, hs.tape.trans h.tape, hs.output.trans h.output, by rw [hs.size]; exact h.size, fun k hk hO => (hs.other k hO).trans (h.other k hk hO)⟩
theorem Kb.drew {base w1 : World} {O : Nat} (h : Kb base O w1) : Kb base O w1.drew := ⟨h.os, h.tape, h.output, h.size, h.other⟩
theorem Kb.to_below {w base w1 : World} {O : Nat} (hb : Below w.heap.size w base) (hO : w.heap.size ≤ O) (h : Kb base O w1) : Below w.heap.size w w1 :=
 ⟨h.os.trans hb.os, h.tape.trans hb.tape, h.output.trans hb.output, Nat.le_trans hb.size h.size, fun k hk => (h.other k (Nat.lt_of_lt_of_le hk hb.size) (by omega)).trans (hb.block k hk)⟩
theorem block_lt {w : World} {k : Nat} {o : Obj} (h : w.heap[k]? = some o) : k < w.heap.size := (Array.getElem?_eq_some_iff.1 h).1
theorem Kb.get {base w1 : World} {O k : Nat} {o : Obj} (h : Kb base O w1) (hk : base.heap[k]? = some o) (hO : k ≠ O) : w1.heap[k]? = some o := (h.other k (block_lt hk) hO).trans hk
theorem St.start {base : World} {O : Nat} {X : Vec} (h : base.heap[O]? = some (.cells (cells X) 28 (0, 0))) : St base O X base := ⟨Kb.refl _ _, h⟩
theorem St.below {base w1 w2 : World} {O : Nat} {X : Vec} (h : St base O X w1) (hb : Below w1.heap.size w1 w2) : St base O X w2 := ⟨h.kb.below hb, (hb.block O (block_lt h.this)).trans h.this⟩
theorem St.sets {base w1 w2 : World} {O : Nat} {X Y : Vec} (h : St base O X w1) (hs : Sets w1 O Y w2) : St base O Y w2 := ⟨h.kb.sets hs, hs.this⟩
theorem St.drew {base w1 : World} {O : Nat} {X : Vec} (h : St base O X w1) : St base O X w1.drew := ⟨h.kb.drew, h.this⟩
theorem results_vec_tmp {fn : Func} {p q : Tmp} (h : fn.results = #[.cell p 28, .tmp q]) (tmps : Array Value) (w : World) (g : Nat) (v : Vec) (y : Value)
 (hp : tmps.getD p undef = .pointer (some ⟨g, 0, none⟩)) (hq : tmps.getD q undef = y) (hg : w.heap[g]? = some (.cells (cells v) 28 (0, 0))) :
 (results fn tmps).run Tryz.prog w = .ok (.tuple #[.agg (cells v), y]) w := by
 have hp' : tmps[p]?.getD undef = .pointer (some ⟨g, 0, none⟩) := by simpa using hp
 have hq' : tmps[q]?.getD undef = y := by simpa using hq
 simp [results, h, hp', hq', asAddr, run_loadVar_row w g 28 28 (cells v) (0, 0) _ hg vunder rfl (vsize v)]
theorem heap_new_zero (w : World) : (w.alloc (.cells #[.int .u8 0, .int .u8 0, .int .u8 0, .int .u8 0, .int .u8 0, .int .u8 0, .int .u8 0, .int .u8 0, .int .u8 0, .int .u8 0, .int .u8 0, .int .u8 0, .int .u8 0, .int .u8 0, .int .u8 0, .int .u8 0] 28)).heap[w.heap.size]? = some (.cells (cells 0) 28 (0, 0)) := by
 rw [cells_zero]; exact heap_alloc_new _ _
theorem blk_keep {w w1 : World} {b : Nat} {o : Obj} (h : w.heap[b]? = some o) (hb : Below w.heap.size w w1) : w1.heap[b]? = some o := (hb.block b (block_lt h)).trans h
theorem blk_alloc {w : World} {b : Nat} {o : Obj} (h : w.heap[b]? = some o) (x : Obj) : (w.alloc x).heap[b]? = some o := by rw [heap_alloc_old _ _ (block_lt h), h]
theorem blk_sets {w w1 : World} {b g : Nat} {o : Obj} {v : Vec} (h : w.heap[b]? = some o) (hs : Sets w g v w1) (hne : b ≠ g) : w1.heap[b]? = some o := (hs.other b hne).trans h
theorem below_new {B : Nat} {w w1 w2 : World} (h : Below B w w1) (hB : B ≤ w.heap.size) (x : Obj) (hb : Below (w1.alloc x).heap.size (w1.alloc x) w2) : Below B w w2 :=
 (h.alloc (Nat.le_trans hB h.size) x).trans (hb.mono (by have := h.size; simp; omega))
theorem below_next {B : Nat} {w w1 w2 : World} (h : Below B w w1) (hB : B ≤ w.heap.size) (hb : Below w1.heap.size w1 w2) : Below B w w2 :=
 h.trans (hb.mono (Nat.le_trans hB h.size))
theorem below_store {B : Nat} {w w1 w2 : World} {x : Obj} {v : Vec} (h : Below B w w1) (hB : B ≤ w.heap.size) (hs : Sets (w1.alloc x) w1.heap.size v w2) : Below B w w2 :=
 (h.alloc (Nat.le_trans hB h.size) x).trans (hs.below.mono (Nat.le_trans hB h.size))
theorem ret_u64 {a b : Nat} (h : a = b) : Ending.returned (.int .u64 (a : Int)) = Ending.returned (.int .u64 (b : Int)) := by rw [h]
theorem ret_i64 {a b : Int} (h : a = b) : Ending.returned (.int .i64 a) = Ending.returned (.int .i64 b) := by rw [h]
end Go.Proofs.YtmfmokblmipagaaGreat
end
section
namespace Pl
open Go
section
variable {σ : Type} {P : Program} {ops : Array Oper} {md : Region.Mode} {S : σ → World → Prop} {step : Nat → σ → σ → Prop} {val : Nat → σ → Value}
def NewE (P : Program) (ops : Array Oper) (S : σ → World → Prop) (step : Nat → σ → σ → Prop) (val : Nat → σ → Value) (i : Nat) (D : σ) (o : Oper) (a : Act) : Prop :=
 Region.wanted o (yielded ops a.tmps) = true ∧ ∀ w, S D w → ∃ w1, (∃ D', step i D D' ∧ S D' w1 ∧
  ((execOp a.eval o).run P w = .ok (.value (val i D')) w1 ∨ ((execOp a.eval o).run P w = .ok .skip w1 ∧ val i D' = undef))) ∨
  ∃ f args, (execOp a.eval o).run P w = .ok (.enter f args) w1 ∧ Calls P f args w1 (fun e w2 => ∃ D', step i D D' ∧ S D' w2 ∧ e = .returned (val i D'))
theorem NewE.same {i : Nat} {D : σ} {o : Oper} {a b : Act} (h : NewE P ops S step val i D o a) (he : execOp b.eval o = execOp a.eval o)
 (hw : Region.wanted o (yielded ops b.tmps) = Region.wanted o (yielded ops a.tmps)) : NewE P ops S step val i D o b := by
 unfold NewE at *
 rw [he, hw]
 exact h
def newOpE (P : Program) (ops : Array Oper) (S : σ → World → Prop) (step : Nat → σ → σ → Prop) (val : Nat → σ → Value) (i : Nat) (D : σ) (K : σ → Act → Prop) (a : Act) : Prop :=
 ∃ o, ops[i]? = some o ∧ NewE P ops S step val i D o a ∧ ∀ D', step i D D' → K D' (a.put o.dst (val i D'))
theorem newOpE_mono {i : Nat} {D : σ} {a : Act} {K K' : σ → Act → Prop} (h : ∀ x a, K x a → K' x a) (hh : newOpE P ops S step val i D K a) : newOpE P ops S step val i D K' a := by
 obtain ⟨o, h1, h2, h3⟩ := hh
 exact ⟨o, h1, h2, fun x hx => h x _ (h3 x hx)⟩
theorem newOpE_put {j : Nat} {D : σ} {oi oj : Oper} {v : Value} (hj : ops[j]? = some oj) (hap : oi.apart ops oj = true)
 (hsi : ∀ cs b, oi.op ≠ .select cs b) (hsj : ∀ cs b, oj.op ≠ .select cs b) {K : σ → Act → Prop} {a : Act}
 (hy : DoesA P ops S oi v a) (h : newOpE P ops S step val j D K (a.put oi.dst v)) :
 newOpE P ops S step val j D (fun x b => DoesA P ops S oi v b ∧ K x (b.put oi.dst v)) a := by
 obtain ⟨h1, h2, h3⟩ := Oper.apart_spec hap
 obtain ⟨o, ho, hN, hK⟩ := h
 have : o = oj := Option.some.inj (ho.symm.trans hj)
 subst this
 refine ⟨o, ho, hN.same (execOp_put o hsj a oi.dst v h1).symm (wanted_put o a oi.dst v h1).symm, fun x hx => ⟨hy.same (execOp_put oi hsi a o.dst (val j x) h3) (wanted_put oi a o.dst (val j x) h3), ?_⟩⟩
 rw [← Act.put_comm a v (val j x) h2]
 exact hK x hx
def wpHeadE (P : Program) (md : Region.Mode) (ops : Array Oper) (S : σ → World → Prop) (step : Nat → σ → σ → Prop) (val : Nat → σ → Value) (ps : List Nat) (n : Nat) (L : σ → Array Bool → Act → Prop) : Nat → σ → Array Bool → Act → Prop
 | 0, D, listed, a => L D listed a
 | f + 1, D, listed, a => Region.ready md ops listed ≠ [] ∧ ∀ i ∈ Region.ready md ops listed, i < n ∧
  ((i ∈ ps ∧ newOpE P ops S step val i D (fun D' => wpHeadE P md ops S step val ps n L f D' (listed.setIfInBounds i true)) a) ∨
   (i ∉ ps ∧ doOpA P ops S i (wpHeadE P md ops S step val ps n L f D (listed.setIfInBounds i true)) a))
theorem any_of_headE {ps : List Nat} {n g : Nat} {L : σ → Array Bool → Act → Prop} {Q : Exit → Act → World → Prop}
 (hL : ∀ D listed a, L D listed a → ∀ w, S D w → wpAny P md ops Q g listed a w) :
 ∀ (f : Nat) (D : σ) (listed : Array Bool) (a : Act), wpHeadE P md ops S step val ps n L f D listed a → ∀ w, S D w → wpAny P md ops Q (f + g) listed a w
 | 0, D, listed, a, h, w, hw => by rw [Nat.zero_add]; exact hL _ _ _ h w hw
 | f + 1, D, listed, a, h, w, hw => by
   rw [show f + 1 + g = (f + g) + 1 by omega]
   refine ⟨fun h0 => absurd h0 h.1, fun i hi => ?_⟩
   obtain ⟨_, ⟨hip, o, ho, hN, hk⟩ | ⟨hip, o, v, ho, hd, hk⟩⟩ := h.2 i hi
   ·obtain ⟨hw1, hr⟩ := hN
    unfold wpOp
    simp only [ho]
    rw [if_pos hw1]
    refine .inl ?_
    unfold Oper.wp
    obtain ⟨w1, ⟨D', hst, hS1, hrun⟩ | ⟨f2, args, hrun, hcall⟩⟩ := hr w hw
    ·rcases hrun with hrun | ⟨hrun, hv⟩
     ·rw [hrun]
      exact any_of_headE hL f _ _ _ (hk D' hst) _ hS1
     ·rw [hrun]
      have := any_of_headE hL f _ _ _ (hk D' hst) _ hS1
      rw [hv] at this
      exact this
    ·rw [hrun]
     exact hcall.mono fun e w2 ⟨D', hst, hS1, he⟩ => by subst he; exact any_of_headE hL f _ _ _ (hk D' hst) _ hS1
   ·exact (hd D).op ho hw fun w2 hS2 => any_of_headE hL f _ _ _ hk w2 hS2
theorem head_firstE {ps : List Nat} {n i : Nat} {oi : Oper} {v : Value} {L : σ → Array Bool → Act → Prop} (hi : ops[i]? = some oi) (hip : i ∉ ps) (hsel : ∀ (j : Nat) (o : Oper) cs b, ops[j]? = some o → o.op ≠ .select cs b)
 (hs : Region.sinkB md ops n = true) (hc : Region.chainB md ops n = true) (hn : n < ops.size) (hin : i < n)
 (hdone : ∀ D listed a, L D listed a → ∀ j ∈ Region.ready md ops listed, n ≤ j) :
 ∀ (f : Nat) (D : σ) (listed : Array Bool) (a : Act), HeadInv md ops n listed →
  (∀ j oj, ops[j]? = some oj → j ≠ i → listed.getD j true = false → (∀ e ∈ oj.after, Region.binds md e = true → e.on ≠ i) → oi.apart ops oj = true) →
  i ∈ Region.ready md ops listed → DoesA P ops S oi v a →
  wpHeadE P md ops S step val ps n L f D (listed.setIfInBounds i true) (a.put oi.dst v) → wpHeadE P md ops S step val ps n L (f + 1) D listed a := by
 intro f
 induction f with
 | zero =>
   intro D listed a inv _ hr hy H
   have hun := (mem_ready.1 hr).1
   refine ⟨fun h => (by rw [h] at hr; cases hr), fun j hj => ?_⟩
   have hjn : j < n := by
    rcases Nat.lt_or_ge j n with h | h
    ·exact h
    ·exact absurd hj (tail_waits hs hc hn inv _ i rfl hin hun j h)
   refine ⟨hjn, ?_⟩
   by_cases hji : j = i
   ·subst hji; exact .inr ⟨hip, oi, v, hi, hy, H⟩
   ·have := hdone _ _ _ H j (ready_mono hj hji)
    omega
 | succ f ih =>
   intro D listed a inv hfree hr hy H
   have hun := (mem_ready.1 hr).1
   refine ⟨fun h => (by rw [h] at hr; cases hr), fun j hj => ?_⟩
   have hjn : j < n := by
    rcases Nat.lt_or_ge j n with h | h
    ·exact h
    ·exact absurd hj (tail_waits hs hc hn inv _ i rfl hin hun j h)
   refine ⟨hjn, ?_⟩
   by_cases hji : j = i
   ·subst hji; exact .inr ⟨hip, oi, v, hi, hy, H⟩
   ·obtain ⟨hjun, oj, hoj, hall⟩ := mem_ready.1 hj
    have hnot : ∀ e ∈ oj.after, Region.binds md e = true → e.on ≠ i := fun e he hb heq => by
     have h1 := hall e he hb
     rw [heq, getD_both hun] at h1
     cases h1
    have hap := hfree j oj hoj hji hjun hnot
    have hfree' : ∀ k ok, ops[k]? = some ok → k ≠ i → (listed.setIfInBounds j true).getD k true = false →
     (∀ e ∈ ok.after, Region.binds md e = true → e.on ≠ i) → oi.apart ops ok = true := fun k ok hk hki hun hno => by
     refine hfree k ok hk hki ?_ hno
     by_cases hjk : j = k
     ·subst hjk; exact hjun
     ·rw [getD_set_ne true hjk] at hun; exact hun
    rcases (H.2 j (ready_mono hj hji)).2 with ⟨hjp, h1⟩ | ⟨hjp, h1⟩
    ·have h2 := newOpE_put hoj hap (fun cs b => hsel i oi cs b hi) (fun cs b => hsel j oj cs b hoj) hy h1
     refine .inl ⟨hjp, newOpE_mono (fun x b h3 => ih x (listed.setIfInBounds j true) b (inv.set hj hjn) hfree' (ready_mono hr (Ne.symm hji)) h3.1 ?_) h2⟩
     rw [Array.setIfInBounds_comm _ _ hji]
     exact h3.2
    ·have h2 := doOpA_put hoj hap (fun cs b => hsel i oi cs b hi) (fun cs b => hsel j oj cs b hoj) hy h1
     refine .inr ⟨hjp, doOpA_mono (fun b h3 => ih D (listed.setIfInBounds j true) b (inv.set hj hjn) hfree' (ready_mono hr (Ne.symm hji)) h3.1 ?_) h2⟩
     rw [Array.setIfInBounds_comm _ _ hji]
     exact h3.2
theorem head_takesE {ps : List Nat} {n f : Nat} {l : List Oper} {L : σ → Array Bool → Act → Prop} {D : σ} (hl : l.toArray = ops) (hsel : Region.noSelect ops = true) (hs : Region.sinkB md ops n = true) (hc : Region.chainB md ops n = true) (hn : n < ops.size)
 (hdone : ∀ D listed a, L D listed a → ∀ j ∈ Region.ready md ops listed, n ≤ j) :
 ∀ (order : List Nat) (listed : Array Bool) (a : Act), HeadInv md ops n listed → takes md ops ps n order listed = true →
  wpDA P ops S (fun a' => HeadInv md ops n (marks listed order) → wpHeadE P md ops S step val ps n L f D (marks listed order) a') (opsAt l order) a → wpHeadE P md ops S step val ps n L (order.length + f) D listed a
 | [], listed, a, inv, _, h => by rw [show ([] : List Nat).length + f = f by simp]; exact h inv
 | k :: order, listed, a, inv, hB, h => by
   simp only [takes, Bool.and_eq_true, decide_eq_true_eq, Bool.not_eq_true'] at hB
   obtain ⟨⟨⟨⟨hr, hf⟩, hk⟩, hp⟩, hB'⟩ := hB
   have hr' : k ∈ Region.ready md ops listed := by simpa using hr
   obtain ⟨_, o, ho, _⟩ := mem_ready.1 hr'
   have hlo : l[k]? = some o := by rw [← hl] at ho; simpa using ho
   simp only [opsAt, hlo] at h
   obtain ⟨v, hy, hK⟩ := h
   have hpk : k ∉ ps := by simpa using hp
   rw [show (k :: order).length + f = (order.length + f) + 1 by simp only [List.length_cons]; omega]
   exact head_firstE ho hpk (Region.noSelect_spec hsel) hs hc hn hk hdone (order.length + f) D listed a inv (Region.free_spec ho hf) hr' hy
    (head_takesE hl hsel hs hc hn hdone order _ _ (inv.set hr' hk) hB' hK)
end
section
variable {P : Program} {md : Region.Mode}
def checkE (ops : Array Oper) (n p : Nat) (order1 order2 : List Nat) : Bool :=
 Region.noSelect ops && decide (n < ops.size) && Region.sinkB .any ops n && Region.chainB .any ops n && takes .any ops [p] n order1 (Array.replicate ops.size false) &&
 (Region.ready .any ops (marks (Array.replicate ops.size false) order1) == [p]) && decide (p < n) && takes .any ops [p] n order2 ((marks (Array.replicate ops.size false) order1).setIfInBounds p true) &&
 decide (order1.length + (order2.length + 1) = n) && Region.seqB .any ops (ops.size - n) n (marks ((marks (Array.replicate ops.size false) order1).setIfInBounds p true) order2)
theorem wpDA_mono {σ : Type} {ops : Array Oper} {S : σ → World → Prop} : ∀ (os : List Oper) (a : Act) (K K' : Act → Prop), (∀ a, K a → K' a) → wpDA P ops S K os a → wpDA P ops S K' os a := by
 intro os
 induction os with
 | nil => intro a K K' hk h; exact hk _ h
 | cons o os ih => intro a K K' hk ⟨v, h1, h2⟩; exact ⟨v, h1, ih _ _ _ hk h2⟩
theorem region_call {id : Nat} {Q : Exit → Act → World → Prop} {a : Act} {w : World} {l : List Oper} (S : Option Value → World → Prop) (C : Value → Prop) (n p : Nat) (order1 order2 : List Nat) (hm : P.follows .mixedOrders = true) (hB : checkE l.toArray n p order1 order2 = true)
 {op : Oper} (hop : l[p]? = some op) (hpn : op.guard = none) (hS : S none w.drew)
 (h : wpDA P l.toArray S (fun a1 => ∃ f args, (∀ w, (execOp a1.eval op).run P w = .ok (.enter f args) w) ∧ (∀ w, S none w → Calls P f args w (fun e w2 => ∃ v, C v ∧ S (some v) w2 ∧ e = .returned v)) ∧
  ∀ v, C v → wpDA P l.toArray S (fun a2 => ∀ w', S (some v) w' → wpList P l.toArray Q (l.drop n) a2 w') (opsAt l order2) (a1.put op.dst v)) (opsAt l order1) a) : (Code.region id l.toArray true).wp P Q a w := by
 simp only [checkE, Bool.and_eq_true, decide_eq_true_eq, beq_iff_eq] at hB
 obtain ⟨⟨⟨⟨⟨⟨⟨⟨⟨hsel, hn⟩, hs⟩, hc⟩, ht1⟩, hrd⟩, hp⟩, ht2⟩, hlen⟩, hseq⟩ := hB
 have hn' : n < l.length := by simpa using hn
 have hdl : (l.drop n).length = l.toArray.size - n := by simp
 have inv0 : HeadInv .any l.toArray n (Array.replicate l.toArray.size false) :=
  ⟨by simp, fun j oj _ hl => (by rw [getD_replicate_false] at hl; cases hl), fun t _ ht => getD_in (by simpa using ht) (getD_replicate_false _ _)⟩
 have hpr : p ∈ Region.ready .any l.toArray (marks (Array.replicate l.toArray.size false) order1) := by rw [hrd]; simp
 refine wp_region_any hm ?_
 have H := head_takesE (f := order2.length + 1) (step := fun i D D' => i = p ∧ D = none ∧ ∃ v, C v ∧ D' = some v) (val := fun _ D => D.getD undef) (D := none) (L := fun D listed a' => Region.seqB .any l.toArray (l.toArray.size - n) n listed = true ∧ ∀ w', S D w' → wpList P l.toArray Q (l.drop n) a' w') rfl hsel hs hc hn (fun D listed a hL => seqB_ready hL.1) order1 _ a inv0 ht1
  (wpDA_mono _ _ _ _ (fun a1 h1 inv => by
   obtain ⟨f, args, he, hcall, h2⟩ := h1
   refine ⟨by rw [hrd]; simp, fun j hj => ?_⟩
   rw [hrd] at hj
   have : j = p := by simpa using hj
   subst this
   refine ⟨hp, .inl ⟨by simp, op, by simpa using hop, ⟨by unfold Region.wanted; rw [hpn], fun w hw => ⟨w, .inr ⟨f, args, he w, (hcall w hw).mono fun e w2 ⟨v, hcv, hv, hev⟩ => ⟨some v, ⟨rfl, rfl, v, hcv, rfl⟩, hv, by rw [hev]; rfl⟩⟩⟩⟩, ?_⟩⟩
   rintro D' ⟨_, _, v, hcv, rfl⟩
   have inv2 := inv.set hpr hp
   have := head_takesE (f := 0) (step := fun i D D' => i = j ∧ D = none ∧ ∃ v, C v ∧ D' = some v) (val := fun _ D => D.getD undef) (D := some v) (L := fun D listed a' => Region.seqB .any l.toArray (l.toArray.size - n) n listed = true ∧ ∀ w', S D w' → wpList P l.toArray Q (l.drop n) a' w') rfl hsel hs hc hn (fun D listed a hL => seqB_ready hL.1) order2 _ (a1.put op.dst v) inv2 ht2
    (wpDA_mono _ _ _ _ (fun a2 h2 inv => ⟨hseq, h2⟩) (h2 v hcv))
   simpa using this) h)
 have := any_of_headE (Q := Q) (g := l.toArray.size - n) (fun D listed a' hL w' hS' => by
  have := wpAny_of_seq (md := .any) (Q' := Q) (l.drop n) n listed a' w' (fun j => by simp [List.getElem?_drop]) (by rw [hdl]; exact hL.1) (hL.2 w' hS')
  rwa [hdl] at this) _ _ _ _ H w.drew hS
 rw [hlen, show n + (l.toArray.size - n) = l.toArray.size by omega] at this
 exact this
end
section
variable {P : Program}
def planE {σ : Type} (P : Program) (ops : Array Oper) (S : σ → World → Prop) (step : Nat → σ → σ → Prop) (val : Nat → σ → Value) (l : List Oper) (L : σ → Act → Prop) (last : List Nat) : List (List Nat × Nat) → σ → Act → Prop
 | [], D, a => wpDA P ops S (L D) (opsAt l last) a
 | (ord, p) :: rest, D, a => wpDA P ops S (fun a1 => ∃ op, l[p]? = some op ∧ NewE P ops S step val p D op a1 ∧ ∀ D', step p D D' → planE P ops S step val l L last rest D' (a1.put op.dst (val p D'))) (opsAt l ord) a
def planB (ops : Array Oper) (n : Nat) (ps : List Nat) (last : List Nat) : List (List Nat × Nat) → Array Bool → Bool
 | [], listed => takes .any ops ps n last listed && Region.seqB .any ops (ops.size - n) n (marks listed last)
 | (ord, p) :: rest, listed => takes .any ops ps n ord listed && (Region.ready .any ops (marks listed ord) == [p]) && decide (p < n) && ps.contains p && planB ops n ps last rest ((marks listed ord).setIfInBounds p true)
def planN (last : List Nat) : List (List Nat × Nat) → Nat
 | [] => last.length
 | (ord, _) :: rest => ord.length + (planN last rest + 1)
theorem marks_inv {md : Region.Mode} {ops : Array Oper} {n : Nat} {ps : List Nat} : ∀ (ord : List Nat) (listed : Array Bool), HeadInv md ops n listed → takes md ops ps n ord listed = true → HeadInv md ops n (marks listed ord)
 | [], listed, inv, _ => inv
 | k :: ord, listed, inv, h => by
   simp only [takes, Bool.and_eq_true, decide_eq_true_eq] at h
   obtain ⟨⟨⟨⟨hr, _⟩, hk⟩, _⟩, h2⟩ := h
   exact marks_inv ord _ (inv.set (by simpa using hr) hk) h2
theorem head_plan {σ : Type} {Q : Exit → Act → World → Prop} {l : List Oper} {S : σ → World → Prop} {step : Nat → σ → σ → Prop} {val : Nat → σ → Value} {n : Nat} {ps last : List Nat} (hsel : Region.noSelect l.toArray = true) (hs : Region.sinkB .any l.toArray n = true) (hc : Region.chainB .any l.toArray n = true) (hn : n < l.toArray.size) :
 ∀ (segs : List (List Nat × Nat)) (D : σ) (listed : Array Bool) (a : Act), HeadInv .any l.toArray n listed → planB l.toArray n ps last segs listed = true →
  planE P l.toArray S step val l (fun D a' => ∀ w', S D w' → wpList P l.toArray Q (l.drop n) a' w') last segs D a →
  wpHeadE P .any l.toArray S step val ps n (fun D listed a' => Region.seqB .any l.toArray (l.toArray.size - n) n listed = true ∧ ∀ w', S D w' → wpList P l.toArray Q (l.drop n) a' w') (planN last segs) D listed a
 | [], D, listed, a, inv, hB, h => by
   simp only [planB, Bool.and_eq_true] at hB
   have := head_takesE (f := 0) (ps := ps) (step := step) (val := val) (D := D) (L := fun D listed a' => Region.seqB .any l.toArray (l.toArray.size - n) n listed = true ∧ ∀ w', S D w' → wpList P l.toArray Q (l.drop n) a' w') rfl hsel hs hc hn (fun D listed a hL => seqB_ready hL.1) last listed a inv hB.1 (wpDA_mono _ _ _ _ (fun a2 h2 inv => ⟨hB.2, h2⟩) h)
   simpa [planN] using this
 | (ord, p) :: rest, D, listed, a, inv, hB, h => by
   simp only [planB, Bool.and_eq_true, decide_eq_true_eq, beq_iff_eq] at hB
   obtain ⟨⟨⟨⟨ht, hrd⟩, hp⟩, hpp⟩, hB2⟩ := hB
   have hpr : p ∈ Region.ready .any l.toArray (marks listed ord) := by rw [hrd]; simp
   have inv2 := (marks_inv ord listed inv ht).set hpr hp
   exact head_takesE (f := planN last rest + 1) (ps := ps) (step := step) (val := val) (D := D) rfl hsel hs hc hn (fun D listed a hL => seqB_ready hL.1) ord listed a inv ht
    (wpDA_mono _ _ _ _ (fun a1 h1 _ => by
     obtain ⟨op, hop, hN, h2⟩ := h1
     refine ⟨by rw [hrd]; simp, fun j hj => ?_⟩
     rw [hrd] at hj
     have : j = p := by simpa using hj
     subst this
     exact ⟨hp, .inl ⟨by simpa using hpp, op, by simpa using hop, hN, fun D' hD => head_plan hsel hs hc hn rest D' _ _ inv2 hB2 (h2 D' hD)⟩⟩) h)
def checkP (ops : Array Oper) (n : Nat) (ps last : List Nat) (segs : List (List Nat × Nat)) : Bool :=
 Region.noSelect ops && decide (n < ops.size) && Region.sinkB .any ops n && Region.chainB .any ops n && planB ops n ps last segs (Array.replicate ops.size false) && decide (planN last segs = n)
theorem region_plan {σ : Type} {id : Nat} {Q : Exit → Act → World → Prop} {a : Act} {w : World} {l : List Oper} (S : σ → World → Prop) (step : Nat → σ → σ → Prop) (val : Nat → σ → Value) (D0 : σ) (n : Nat) (ps last : List Nat) (segs : List (List Nat × Nat)) (hm : P.follows .mixedOrders = true) (hB : checkP l.toArray n ps last segs = true)
 (hS : S D0 w.drew) (h : planE P l.toArray S step val l (fun D a' => ∀ w', S D w' → wpList P l.toArray Q (l.drop n) a' w') last segs D0 a) : (Code.region id l.toArray true).wp P Q a w := by
 simp only [checkP, Bool.and_eq_true, decide_eq_true_eq] at hB
 obtain ⟨⟨⟨⟨⟨hsel, hn⟩, hs⟩, hc⟩, hpl⟩, hlen⟩ := hB
 have hn' : n < l.length := by simpa using hn
 have hdl : (l.drop n).length = l.toArray.size - n := by simp
 have inv0 : HeadInv .any l.toArray n (Array.replicate l.toArray.size false) :=
  ⟨by simp, fun j oj _ hl => (by rw [getD_replicate_false] at hl; cases hl), fun t _ ht => getD_in (by simpa using ht) (getD_replicate_false _ _)⟩
 refine wp_region_any hm ?_
 have H := head_plan (P := P) (Q := Q) (ps := ps) (step := step) (val := val) hsel hs hc hn segs D0 _ a inv0 hpl h
 have := any_of_headE (Q := Q) (g := l.toArray.size - n) (fun D listed a' hL w' hS' => by
  have := wpAny_of_seq (md := .any) (Q' := Q) (l.drop n) n listed a' w' (fun j => by simp [List.getElem?_drop]) (by rw [hdl]; exact hL.1) (hL.2 w' hS')
  rwa [hdl] at this) _ _ _ _ H w.drew hS
 rw [hlen, show n + (l.toArray.size - n) = l.toArray.size by omega] at this
 exact this
variable {σ : Type} {ops : Array Oper} {S : σ → World → Prop}
end
end Pl
end
