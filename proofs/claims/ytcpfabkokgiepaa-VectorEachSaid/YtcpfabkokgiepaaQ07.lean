/-
  Texts New, WidU, WidBR, WidBQ, RefG, WidR, WidH.
-/
import Derived.Test.YtcpfabkokgiepaaQ02
import Derived.Test.YtcpfabkokgiepaaQ04
import Derived.Test.YtcpfabkokgiepaaQ05
import Derived.Test.YtcpfabkokgiepaaQ06
set_option linter.unusedSimpArgs false
set_option linter.unusedVariables false
set_option maxHeartbeats 8000000
open Pl
section
namespace Go.Proofs.Ytcpfabkokgiepaa
open Go.RowKit Pl
structure N1 (w0 : World) (l : List (Nat × Vec)) (X : Vec) (D : Option (Nat × Bool)) (u : World) : Prop where
 bel : Below w0.heap.size w0 u
 hold : ∀ q ∈ l, u.heap[q.1]? = some (.cells (mY q.2) 45 (0, 0))
 new : ∀ x st, D = some (x, st) → u.heap[x]? = some (.cells (mY (bif st then X else 0)) 45 (0, 0)) ∧ w0.heap.size ≤ x ∧ ∀ q ∈ l, q.1 ≠ x
theorem N1.below {w0 u u1 : World} {l : List (Nat × Vec)} {X : Vec} {D : Option (Nat × Bool)} (h : N1 w0 l X D u) (hb : Below u.heap.size u u1) : N1 w0 l X D u1 :=
 ⟨h.bel.trans (hb.mono h.bel.size), fun q hq => mV (h.hold q hq) hb, fun x st hx => ⟨mV (h.new x st hx).1 hb, (h.new x st hx).2⟩⟩
theorem N1.drew {w0 u : World} {l : List (Nat × Vec)} {X : Vec} {D : Option (Nat × Bool)} (h : N1 w0 l X D u) : N1 w0 l X D u.drew := ⟨h.bel.drew, h.hold, h.new⟩
theorem N1.alloc {w0 u : World} {l : List (Nat × Vec)} {X : Vec} {D : Option (Nat × Bool)} (h : N1 w0 l X D u) : N1 w0 l X (some (u.heap.size, false)) (u.alloc (.cells (mY 0) 45)) :=
 ⟨h.bel.alloc h.bel.size _, fun q hq => mE (h.hold q hq) _, fun x st hx => by
  obtain ⟨rfl, rfl⟩ : u.heap.size = x ∧ false = st := by simpa using hx
  exact ⟨heap_alloc_new _ _, h.bel.size, fun q hq => Nat.ne_of_lt (mF (h.hold q hq))⟩⟩
theorem N1.store {w0 u u1 : World} {l : List (Nat × Vec)} {X : Vec} {x : Nat} (h : N1 w0 l X (some (x, false)) u) (hs : Sets u x X u1) : N1 w0 l X (some (x, true)) u1 := by
 obtain ⟨h1, h2, h3⟩ := h.new x false rfl
 refine ⟨h.bel.trans (hs.below.mono h2), fun q hq => mR (h.hold q hq) hs (h3 q hq), fun y st hy => ?_⟩
 obtain ⟨rfl, rfl⟩ : x = y ∧ true = st := by simpa using hy
 exact ⟨hs.this, h2, h3⟩
theorem N1.start {w0 u : World} {l : List (Nat × Vec)} (X : Vec) (hb : Below w0.heap.size w0 u) (hh : ∀ q ∈ l, u.heap[q.1]? = some (.cells (mY q.2) 45 (0, 0))) : N1 w0 l X none u :=
 ⟨hb, hh, fun x st hx => by cases hx⟩
theorem do_loadA {σ : Type} {ops : Array Oper} {S : σ → World → Prop} {L : Act → Prop} {o : Oper} {rest : List Oper} {a : Act} (hg : o.guard = none) (x : Operand) (ho : o.op = .load 45 x) (g : Nat)
 (hx : a.eval x = .pointer (some ⟨g, 0, none⟩)) (v : Vec) (h : ∀ D w, S D w → w.heap[g]? = some (.cells (mY v) 45 (0, 0)))
 (hr : vJ Try.prog ops S L rest (a.put o.dst (.agg (mY v)))) : vJ Try.prog ops S L (o :: rest) a :=
 wpDA_here hg (fun D w hS => by
  unfold execOp
  simp only [ho, hx, Instr.loadAt, Instr.sureAddr, Sem.run_bind, Sem.run_pure, Result.andThen_ok, run_loadVar_row w g 45 45 (mY v) (0, 0) _ (h D w hS) r5 rfl (sY v)]) hr
theorem new_run {op : Oper} (ho : op.op = .alloc 45) (a : Act) (w : World) : (execOp a.eval op).run Try.prog w = .ok (.value (ptr w.heap.size)) (w.alloc (.cells (mY 0) 45)) := by
 have hz : (zeroValue 45).run Try.prog w = .ok (.agg #[.int .u8 0, .int .u8 0, .int .u8 0, .int .u8 0, .int .u8 0, .int .u8 0, .int .u8 0, .int .u8 0, .int .u8 0, .int .u8 0, .int .u8 0, .int .u8 0, .int .u8 0, .int .u8 0, .int .u8 0, .int .u8 0]) w := by kernel_rfl
 rw [mU]
 unfold execOp
 simp only [ho, Instr.alloc, Sem.run_bind, hz, Result.andThen_ok]
 simp [newVar, newRow, Value.cells, go_sem, ptr]
theorem store_run {o : Oper} {a : Act} {w : World} (x y : Operand) (ho : o.op = .store 45 x y) (g : Nat) (v u : Vec) (hx : a.eval x = ptr g) (hy : a.eval y = .agg (mY v)) (hg : w.heap[g]? = some (.cells (mY u) 45 (0, 0))) :
 ∃ w1, Sets w g v w1 ∧ (execOp a.eval o).run Try.prog w = .ok .skip w1 := by
 refine ⟨_, sets_setRow v hg, ?_⟩
 unfold execOp
 unfold ptr at hx
 simp only [ho, hx, hy, Instr.storeAt, Instr.sureAddr, Sem.run_bind, Sem.run_pure, Result.andThen_ok, run_storeVar_row w g 45 45 (mY u) (mY v) hg (sY v) (by simp) (all_cells v)]
def step1 (p q : Nat) (i : Nat) (D D' : Option (Nat × Bool)) : Prop := (i = p ∧ D = none ∧ ∃ x, D' = some (x, false)) ∨ (i = q ∧ ∃ x, D = some (x, false) ∧ D' = some (x, true))
def val1 (p : Nat) (i : Nat) (D : Option (Nat × Bool)) : Value := if i = p then (match D with | some (x, _) => ptr x | none => undef) else undef
def check1 (ops : Array Oper) (n p q : Nat) (order : List Nat) : Bool :=
 checkA ops n [p, q] order && decide (p ≠ q) && decide (p < n) && decide (q < n) && (Region.ready .any ops (rX (Array.replicate ops.size false) order) == [p]) && (Region.ready .any ops ((rX (Array.replicate ops.size false) order).setIfInBounds p true) == [q]) &&
 Region.seqB .any ops (ops.size - n) n (((rX (Array.replicate ops.size false) order).setIfInBounds p true).setIfInBounds q true)
theorem sU {id : Nat} {Q : Exit → Act → World → Prop} {a : Act} {w : World} {l : List Oper} (w0 : World) (hs : List (Nat × Vec)) (X : Vec) (n p q : Nat) (order : List Nat) (hB : check1 l.toArray n p q order = true)
 {op oq : Oper} (hop : l[p]? = some op) (hoq : l[q]? = some oq) (hpn : op.guard = none) (hpo : op.op = .alloc 45) (hqn : oq.guard = none) (xo yo : Operand) (hqo : oq.op = .store 45 xo yo) (hqd : oq.dst = none)
 (hS : N1 w0 hs X none w.drew)
 (h : vJ Try.prog l.toArray (N1 w0 hs X) (fun a' => ∀ x, (a'.put op.dst (ptr x)).eval xo = ptr x ∧ (a'.put op.dst (ptr x)).eval yo = .agg (mY X) ∧ ∀ w', N1 w0 hs X (some (x, true)) w' → wpList Try.prog l.toArray Q (l.drop n) ((a'.put op.dst (ptr x)).put oq.dst undef) w') (vW l order) a) : (Code.region id l.toArray true).wp Try.prog Q a w := by
 simp only [check1, Bool.and_eq_true, decide_eq_true_eq, beq_iff_eq] at hB
 obtain ⟨⟨⟨⟨⟨⟨hA, hpq⟩, hp⟩, hq⟩, hr1⟩, hr2⟩, hsq⟩ := hB
 refine eR (N1 w0 hs X) (step1 p q) (val1 p) none n [p, q] order (by kernel_rfl) hA hS ?_
 have mono : ∀ (os : List Oper) (a : Act) (K K' : Act → Prop), (∀ a, K a → K' a) → vJ Try.prog l.toArray (N1 w0 hs X) K os a → vJ Try.prog l.toArray (N1 w0 hs X) K' os a := yT
 refine mono _ _ _ _ (fun a' h' => ?_) h
 refine sJ p hr1 hp (by simp) (by simpa using hop) ⟨by unfold Region.wanted; rw [hpn], fun w hw => ⟨some (w.heap.size, false), _, .inl ⟨rfl, rfl, _, rfl⟩, hw.alloc, .inl ?_⟩⟩ (fun D' hD => ?_)
 ·rw [new_run hpo]; simp [val1]
 ·rcases hD with ⟨_, _, x, rfl⟩ | ⟨h1, _⟩
  ·have hv : val1 p p (some (x, false)) = ptr x := by simp [val1]
   rw [hv]
   obtain ⟨hx, hy, hk⟩ := h' x
   refine sJ q hr2 hq (by simp) (by simpa using hoq) ⟨by unfold Region.wanted; rw [hqn], fun w hw => ?_⟩ (fun D' hD => ?_)
   ·obtain ⟨w1, h1, h2⟩ := store_run xo yo hqo x X 0 hx hy (hw.new x false rfl).1
    exact ⟨some (x, true), w1, .inr ⟨rfl, x, rfl, rfl⟩, hw.store h1, .inr ⟨h2, by simp [val1, Ne.symm hpq]⟩⟩
   ·rcases hD with ⟨h1, _⟩ | ⟨_, y, hy1, rfl⟩
    ·exact absurd h1 (Ne.symm hpq)
    ·have : x = y := by simpa using hy1
     subst this
     have hv2 : val1 p q (some (x, true)) = undef := by simp [val1, Ne.symm hpq]
     rw [hv2]
     exact ⟨hsq, hk⟩
  ·exact absurd h1 hpq
def check0 (ops : Array Oper) (n p : Nat) (order : List Nat) : Bool :=
 checkA ops n [p] order && decide (p < n) && (Region.ready .any ops (rX (Array.replicate ops.size false) order) == [p]) &&
 Region.seqB .any ops (ops.size - n) n ((rX (Array.replicate ops.size false) order).setIfInBounds p true)
theorem region_new0 {id : Nat} {Q : Exit → Act → World → Prop} {a : Act} {w : World} {l : List Oper} (w0 : World) (hs : List (Nat × Vec)) (n p : Nat) (order : List Nat) (hB : check0 l.toArray n p order = true)
 {op : Oper} (hop : l[p]? = some op) (hpn : op.guard = none) (hpo : op.op = .alloc 45) (hS : N1 w0 hs 0 none w.drew)
 (h : vJ Try.prog l.toArray (N1 w0 hs 0) (fun a' => ∀ x w', N1 w0 hs 0 (some (x, false)) w' → wpList Try.prog l.toArray Q (l.drop n) (a'.put op.dst (ptr x)) w') (vW l order) a) : (Code.region id l.toArray true).wp Try.prog Q a w := by
 simp only [check0, Bool.and_eq_true, decide_eq_true_eq, beq_iff_eq] at hB
 obtain ⟨⟨⟨hA, hp⟩, hr1⟩, hsq⟩ := hB
 refine eR (N1 w0 hs 0) (step1 p (p + 1)) (val1 p) none n [p] order (by kernel_rfl) hA hS ?_
 have mono : ∀ (os : List Oper) (a : Act) (K K' : Act → Prop), (∀ a, K a → K' a) → vJ Try.prog l.toArray (N1 w0 hs 0) K os a → vJ Try.prog l.toArray (N1 w0 hs 0) K' os a := yT
 refine mono _ _ _ _ (fun a' h' => ?_) h
 refine sJ p hr1 hp (by simp) (by simpa using hop) ⟨by unfold Region.wanted; rw [hpn], fun w hw => ⟨some (w.heap.size, false), _, .inl ⟨rfl, rfl, _, rfl⟩, hw.alloc, .inl ?_⟩⟩ (fun D' hD => ?_)
 ·rw [new_run hpo]; simp [val1]
 ·rcases hD with ⟨_, _, x, rfl⟩ | ⟨h1, _⟩
  ·have hv : val1 p p (some (x, false)) = ptr x := by simp [val1]
   rw [hv]
   exact ⟨hsq, h' x⟩
  ·omega
end Go.Proofs.Ytcpfabkokgiepaa
namespace Go.Proofs.Ytcpfabkokgiepaa
open Go Go.RowKit Pl
theorem zV {σ : Type} {ops : Array Oper} {S : σ → World → Prop} {L : Act → Prop} {o : Oper} {rest : List Oper} {a a1 : Act} (hg : o.guard = none) (x : Operand) (ho : o.op = .load 45 x) (g : Nat) (hx : a.eval x = .pointer (some ⟨g, 0, none⟩)) (v : Vec) (h : ∀ D w, S D w → w.heap[g]? = some (.cells (mY v) 45 (0, 0))) (hr : vJ Try.prog ops S L rest a1) (ha : a.put o.dst (.agg (mY v)) = a1 := by simp only [Act.put, z5, z6, z7]; rfl) : vJ Try.prog ops S L (o :: rest) a := by
 subst ha
 exact do_loadA hg x ho g hx v h hr
end Go.Proofs.Ytcpfabkokgiepaa
end
section
namespace Go.Proofs.Ytcpfabkokgiepaa
open Go.RowKit Pl
theorem un_row8 (op : Int) (a : Nat) (v : Vec) (w : World) (ha : a < 4) (hop : op = 64903 + a) :
 Calls Try.prog 18 #[.int .i64 op, .agg (mY v)] w fun e w' => e = .returned (.tuple #[.agg (mY (mJ 0 16 (tG v 8 a) 8)), .int .i64 0]) ∧ Below w.heap.size w w' := by
 subst hop
 go_enter Try.func18, Try.ntmps18
 go_wp2_with (first | (go_at_call 55; refine (group0 _ 135 a _ ha (by omega) (by decide) (by decide)).mono ?_; rintro e w' ⟨rfl, rfl⟩))
 rw [← mU]
 obtain ⟨W, hW, hB, hR, hO, hZ⟩ := zA w v
 rw [← hW]
 clear hW
 go_loopw [25] (fun j wr => ∃ k : Nat, k ≤ 8 ∧ j = .int .i64 k ∧ St W (w.heap.size + 2) (mJ 0 16 (tG v 8 a) k) wr) (fun j _ => 8 - (intOf j).toNat)
 case atStart => exact xE
 case round =>
  obtain ⟨k, hk, rfl, hs⟩ := hrel
  by_cases hlt : k < 8
  ·go_wp2_with fail
   refine mN (St W (w.heap.size + 2) (mJ 0 16 (tG v 8 a) k)) 10 (by kernel_rfl) (by kernel_rfl) hs.drew ?_
   simp only [zP, zN, zM, zL]
   refine dH rfl _ rfl _ rfl _ (fun u hS => hS.this) ?_
   simp only [Act.put, z5, z6, z7]
   repeat (refine z8 ?_)
   refine dH rfl _ rfl _ rfl _ (fun u hS => hS.kb.get hB (by omega)) ?_
   simp only [Act.put, z5, z6, z7]
   repeat (refine z8 ?_)
   (refine zZ (.int .u64 (tG v 8 a k : Nat)) 56 (c := fun u hS => by exact ext8 v a k _ _ rfl ha (by omega)) (r := ?_))
   (refine zZ (.agg (mY (t7 (mJ 0 16 (tG v 8 a) k) 16 k (tG v 8 a k)))) 54 (c := fun u hS => by exact rN _ _ _ k _ _ rfl rfl (by omega)) (r := ?_))
   refine mH (fun wq hq => ?_)
   go_wp2_with (with_reducible refine mK rfl _ _ rfl (w.heap.size + 2) _ rfl rfl _ hq.this ?_; intro wz hz)
   go_roundw
   case rel => exact gF
   case measure => exact xL
  ·exact nW
theorem un_row16 (op : Int) (a : Nat) (v : Vec) (w : World) (ha : a < 4) (hop : op = 64935 + a) :
 Calls Try.prog 18 #[.int .i64 op, .agg (mY v)] w fun e w' => e = .returned (.tuple #[.agg (mY (mJ 0 32 (tG v 16 a) 4)), .int .i64 0]) ∧ Below w.heap.size w w' := by
 subst hop
 go_enter Try.func18, Try.ntmps18
 go_wp2_with (first | (go_at_call 55; refine (group1 _ 135 a _ ha (by omega) (by decide) (by decide)).mono ?_; rintro e w' ⟨rfl, rfl⟩))
 rw [← mU]
 obtain ⟨W, hW, hB, hR, hO, hZ⟩ := zA w v
 rw [← hW]
 clear hW
 go_loopw [25] (fun j wr => ∃ k : Nat, k ≤ 4 ∧ j = .int .i64 k ∧ St W (w.heap.size + 2) (mJ 0 32 (tG v 16 a) k) wr) (fun j _ => 4 - (intOf j).toNat)
 case atStart => exact xE
 case round =>
  obtain ⟨k, hk, rfl, hs⟩ := hrel
  by_cases hlt : k < 4
  ·go_wp2_with fail
   refine mN (St W (w.heap.size + 2) (mJ 0 32 (tG v 16 a) k)) 10 (by kernel_rfl) (by kernel_rfl) hs.drew ?_
   simp only [zP, zN, zM, zL]
   refine dH rfl _ rfl _ rfl _ (fun u hS => hS.this) ?_
   simp only [Act.put, z5, z6, z7]
   repeat (refine z8 ?_)
   refine dH rfl _ rfl _ rfl _ (fun u hS => hS.kb.get hB (by omega)) ?_
   simp only [Act.put, z5, z6, z7]
   repeat (refine z8 ?_)
   (refine zZ (.int .u64 (tG v 16 a k : Nat)) 56 (c := fun u hS => by exact ext16 v a k _ _ rfl ha (by omega)) (r := ?_))
   (refine zZ (.agg (mY (t7 (mJ 0 32 (tG v 16 a) k) 32 k (tG v 16 a k)))) 54 (c := fun u hS => by exact uK _ _ _ k _ _ rfl rfl (by omega)) (r := ?_))
   refine mH (fun wq hq => ?_)
   go_wp2_with (with_reducible refine mK rfl _ _ rfl (w.heap.size + 2) _ rfl rfl _ hq.this ?_; intro wz hz)
   go_roundw
   case rel => exact gF
   case measure => exact xL
  ·exact nY
theorem un_row32 (op : Int) (a : Nat) (v : Vec) (w : World) (ha : a < 4) (hop : op = 64967 + a) :
 Calls Try.prog 18 #[.int .i64 op, .agg (mY v)] w fun e w' => e = .returned (.tuple #[.agg (mY (mJ 0 64 (tG v 32 a) 2)), .int .i64 0]) ∧ Below w.heap.size w w' := by
 subst hop
 go_enter Try.func18, Try.ntmps18
 go_wp2_with (first | (go_at_call 55; refine (group2 _ 135 a _ ha (by omega) (by decide) (by decide)).mono ?_; rintro e w' ⟨rfl, rfl⟩))
 rw [← mU]
 obtain ⟨W, hW, hB, hR, hO, hZ⟩ := zA w v
 rw [← hW]
 clear hW
 go_loopw [25] (fun j wr => ∃ k : Nat, k ≤ 2 ∧ j = .int .i64 k ∧ St W (w.heap.size + 2) (mJ 0 64 (tG v 32 a) k) wr) (fun j _ => 2 - (intOf j).toNat)
 case atStart => exact xE
 case round =>
  obtain ⟨k, hk, rfl, hs⟩ := hrel
  by_cases hlt : k < 2
  ·go_wp2_with fail
   refine mN (St W (w.heap.size + 2) (mJ 0 64 (tG v 32 a) k)) 10 (by kernel_rfl) (by kernel_rfl) hs.drew ?_
   simp only [zP, zN, zM, zL]
   refine dH rfl _ rfl _ rfl _ (fun u hS => hS.this) ?_
   simp only [Act.put, z5, z6, z7]
   repeat (refine z8 ?_)
   refine dH rfl _ rfl _ rfl _ (fun u hS => hS.kb.get hB (by omega)) ?_
   simp only [Act.put, z5, z6, z7]
   repeat (refine z8 ?_)
   (refine zZ (.int .u64 (tG v 32 a k : Nat)) 56 (c := fun u hS => by exact ext32 v a k _ _ rfl ha (by omega)) (r := ?_))
   (refine zZ (.agg (mY (t7 (mJ 0 64 (tG v 32 a) k) 64 k (tG v 32 a k)))) 54 (c := fun u hS => by exact fD _ _ _ k _ _ rfl rfl (by omega)) (r := ?_))
   refine mH (fun wq hq => ?_)
   go_wp2_with (with_reducible refine mK rfl _ _ rfl (w.heap.size + 2) _ rfl rfl _ hq.this ?_; intro wz hz)
   go_roundw
   case rel => exact gF
   case measure => exact xL
  ·exact nF
end Go.Proofs.Ytcpfabkokgiepaa
end
section
namespace Go.Proofs.Ytcpfabkokgiepaa
open Go.RowKit Pl
theorem bin_row8 (op : Int) (c : Nat) (a b : Vec) (w : World) (hc : c < 4) (hop : op = 64924 + c) :
 Calls Try.prog 22 #[.int .i64 op, .agg (mY a), .agg (mY b)] w fun e w' => e = .returned (.tuple #[.agg (mY (mJ 0 16 (e7 8 c a b) 8)), .int .i64 0]) ∧ Below w.heap.size w w' := by
 subst hop
 go_enter Try.func22, Try.ntmps22
 go_wp2_with fail
 rw [← mU]
 obtain ⟨W, hW, hA, hB, hR, hO, hZ⟩ := zD w a b
 rw [← hW]
 clear hW
 refine (group0 _ 156 c _ hc (by omega) (by decide) (by decide)).mono ?_
 rintro e w' ⟨rfl, rfl⟩
 go_wp2_with fail
 go_loopw [29] (fun j wr => ∃ k : Nat, k ≤ 8 ∧ j = .int .i64 k ∧ St W (w.heap.size + 3) (mJ 0 16 (e7 8 c a b) k) wr) (fun j _ => 8 - (intOf j).toNat)
 case atStart => exact xE
 case round =>
  obtain ⟨k, hk, rfl, hs⟩ := hrel
  by_cases hlt : k < 8
  ·go_wp2_with fail
   refine mN (St W (w.heap.size + 3) (mJ 0 16 (e7 8 c a b) k)) 16 (by kernel_rfl) (by kernel_rfl) hs.drew ?_
   simp only [zP, zN, zM, zL]
   (refine zK rfl _ rfl _ rfl _ (fun u hS => hS.this) ?_)
   repeat (refine z8 ?_)
   (refine zK rfl _ rfl _ rfl _ (fun u hS => hS.kb.get hA (by omega)) ?_)
   repeat (refine z8 ?_)
   (refine zZ (.int .u64 (tG a 8 c k : Nat)) 56 (c := fun u hS => by exact ext8 a c k _ _ rfl hc (by omega)) (r := ?_))
   repeat (refine z8 ?_)
   (refine zK rfl _ rfl _ rfl _ (fun u hS => hS.kb.get hB (by omega)) ?_)
   repeat (refine z8 ?_)
   (refine zZ (.int .u64 (tG b 8 c k : Nat)) 56 (c := fun u hS => by exact ext8 b c k _ _ rfl hc (by omega)) (r := ?_))
   repeat (refine z8 ?_)
   (refine zZ (.agg (mY (t7 (mJ 0 16 (e7 8 c a b) k) 16 k (e7 8 c a b k)))) 54 (c := fun u hS => by exact rN _ _ _ k (e7 8 c a b k) _ rfl (vD _ _) (by omega)) (r := ?_))
   refine mH (fun wq hq => ?_)
   go_wp2_with ((with_reducible refine mK rfl _ _ rfl (w.heap.size + 3) _ rfl rfl _ hq.this ?_; intro wz hz))
   go_roundw
   case rel => exact gF
   case measure => exact xL
  ·exact nN
theorem bin_row16 (op : Int) (c : Nat) (a b : Vec) (w : World) (hc : c < 4) (hop : op = 64956 + c) :
 Calls Try.prog 22 #[.int .i64 op, .agg (mY a), .agg (mY b)] w fun e w' => e = .returned (.tuple #[.agg (mY (mJ 0 32 (e7 16 c a b) 4)), .int .i64 0]) ∧ Below w.heap.size w w' := by
 subst hop
 go_enter Try.func22, Try.ntmps22
 go_wp2_with fail
 rw [← mU]
 obtain ⟨W, hW, hA, hB, hR, hO, hZ⟩ := zD w a b
 rw [← hW]
 clear hW
 refine (group1 _ 156 c _ hc (by omega) (by decide) (by decide)).mono ?_
 rintro e w' ⟨rfl, rfl⟩
 go_wp2_with fail
 go_loopw [29] (fun j wr => ∃ k : Nat, k ≤ 4 ∧ j = .int .i64 k ∧ St W (w.heap.size + 3) (mJ 0 32 (e7 16 c a b) k) wr) (fun j _ => 4 - (intOf j).toNat)
 case atStart => exact xE
 case round =>
  obtain ⟨k, hk, rfl, hs⟩ := hrel
  by_cases hlt : k < 4
  ·go_wp2_with fail
   refine mN (St W (w.heap.size + 3) (mJ 0 32 (e7 16 c a b) k)) 16 (by kernel_rfl) (by kernel_rfl) hs.drew ?_
   simp only [zP, zN, zM, zL]
   (refine zK rfl _ rfl _ rfl _ (fun u hS => hS.this) ?_)
   repeat (refine z8 ?_)
   (refine zK rfl _ rfl _ rfl _ (fun u hS => hS.kb.get hA (by omega)) ?_)
   repeat (refine z8 ?_)
   (refine zZ (.int .u64 (tG a 16 c k : Nat)) 56 (c := fun u hS => by exact ext16 a c k _ _ rfl hc (by omega)) (r := ?_))
   repeat (refine z8 ?_)
   (refine zK rfl _ rfl _ rfl _ (fun u hS => hS.kb.get hB (by omega)) ?_)
   repeat (refine z8 ?_)
   (refine zZ (.int .u64 (tG b 16 c k : Nat)) 56 (c := fun u hS => by exact ext16 b c k _ _ rfl hc (by omega)) (r := ?_))
   repeat (refine z8 ?_)
   (refine zZ (.agg (mY (t7 (mJ 0 32 (e7 16 c a b) k) 32 k (e7 16 c a b k)))) 54 (c := fun u hS => by exact uK _ _ _ k (e7 16 c a b k) _ rfl (vD _ _) (by omega)) (r := ?_))
   refine mH (fun wq hq => ?_)
   go_wp2_with ((with_reducible refine mK rfl _ _ rfl (w.heap.size + 3) _ rfl rfl _ hq.this ?_; intro wz hz))
   go_roundw
   case rel => exact gF
   case measure => exact xL
  ·obtain rfl : k = 4 := by omega
   exact xP
theorem bin_row32 (op : Int) (c : Nat) (a b : Vec) (w : World) (hc : c < 4) (hop : op = 64988 + c) :
 Calls Try.prog 22 #[.int .i64 op, .agg (mY a), .agg (mY b)] w fun e w' => e = .returned (.tuple #[.agg (mY (mJ 0 64 (e7 32 c a b) 2)), .int .i64 0]) ∧ Below w.heap.size w w' := by
 subst hop
 go_enter Try.func22, Try.ntmps22
 go_wp2_with fail
 rw [← mU]
 obtain ⟨W, hW, hA, hB, hR, hO, hZ⟩ := zD w a b
 rw [← hW]
 clear hW
 refine (group2 _ 156 c _ hc (by omega) (by decide) (by decide)).mono ?_
 rintro e w' ⟨rfl, rfl⟩
 go_wp2_with fail
 go_loopw [29] (fun j wr => ∃ k : Nat, k ≤ 2 ∧ j = .int .i64 k ∧ St W (w.heap.size + 3) (mJ 0 64 (e7 32 c a b) k) wr) (fun j _ => 2 - (intOf j).toNat)
 case atStart => exact xE
 case round =>
  obtain ⟨k, hk, rfl, hs⟩ := hrel
  by_cases hlt : k < 2
  ·go_wp2_with fail
   refine mN (St W (w.heap.size + 3) (mJ 0 64 (e7 32 c a b) k)) 16 (by kernel_rfl) (by kernel_rfl) hs.drew ?_
   simp only [zP, zN, zM, zL]
   (refine zK rfl _ rfl _ rfl _ (fun u hS => hS.this) ?_)
   repeat (refine z8 ?_)
   (refine zK rfl _ rfl _ rfl _ (fun u hS => hS.kb.get hA (by omega)) ?_)
   repeat (refine z8 ?_)
   (refine zZ (.int .u64 (tG a 32 c k : Nat)) 56 (c := fun u hS => by exact ext32 a c k _ _ rfl hc (by omega)) (r := ?_))
   repeat (refine z8 ?_)
   (refine zK rfl _ rfl _ rfl _ (fun u hS => hS.kb.get hB (by omega)) ?_)
   repeat (refine z8 ?_)
   (refine zZ (.int .u64 (tG b 32 c k : Nat)) 56 (c := fun u hS => by exact ext32 b c k _ _ rfl hc (by omega)) (r := ?_))
   repeat (refine z8 ?_)
   (refine zZ (.agg (mY (t7 (mJ 0 64 (e7 32 c a b) k) 64 k (e7 32 c a b k)))) 54 (c := fun u hS => by exact fD _ _ _ k (e7 32 c a b k) _ rfl (vD _ _) (by omega)) (r := ?_))
   refine mH (fun wq hq => ?_)
   go_wp2_with ((with_reducible refine mK rfl _ _ rfl (w.heap.size + 3) _ rfl rfl _ hq.this ?_; intro wz hz))
   go_roundw
   case rel => exact gF
   case measure => exact xL
  ·obtain rfl : k = 2 := by omega
   exact xP
end Go.Proofs.Ytcpfabkokgiepaa
end
section
namespace Go.Proofs.Ytcpfabkokgiepaa
open Go.RowKit Pl
theorem bin_q15 (a b : Vec) (w : World) :
 Calls Try.prog 22 #[.int .i64 64898, .agg (mY a), .agg (mY b)] w fun e w' => e = .returned (.tuple #[.agg (mY (mJ 0 16 (q15N a b) 8)), .int .i64 0]) ∧ Below w.heap.size w w' := by
 go_enter Try.func22, Try.ntmps22
 go_wp2_with fail
 rw [← mU]
 obtain ⟨W, hW, hA, hB, hR, hO, hZ⟩ := zD w a b
 rw [← hW]
 clear hW
 refine (s5 _ _ _ (by unfold wrap64; decide) (by unfold wrap64; decide) (by unfold wrap64; decide)).mono ?_
 rintro e w' ⟨rfl, rfl⟩
 go_wp2_with fail
 go_loopw [62] (fun j wr => ∃ k : Nat, k ≤ 8 ∧ j = .int .i64 k ∧ St W (w.heap.size + 3) (mJ 0 16 (q15N a b) k) wr) (fun j _ => 8 - (intOf j).toNat)
 case atStart =>
  exact ⟨0, Nat.zero_le _, rfl, St.start hO⟩
 case round =>
  obtain ⟨k, hk, rfl, hs⟩ := hrel
  by_cases hlt : k < 8
  ·go_wp2_with fail
   refine mN (St W (w.heap.size + 3) (mJ 0 16 (q15N a b) k)) 8 (by kernel_rfl) (by kernel_rfl) hs.drew ?_
   simp only [zP, zN, zM, zL]
   (refine zK rfl _ rfl _ rfl _ (fun u hS => hS.kb.get hA (by omega)) ?_)
   repeat (refine z8 ?_)
   (refine zZ (.int .i64 (sgn 16 (mT a 16 (k)))) 53 (c := fun u hS => by exact tB a _ k _ rfl (by omega)) (r := ?_))
   (refine zK rfl _ rfl _ rfl _ (fun u hS => hS.kb.get hB (by omega)) ?_)
   repeat (refine z8 ?_)
   (refine zZ (.int .i64 (sgn 16 (mT b 16 (k)))) 53 (c := fun u hS => by exact tB b _ k _ rfl (by omega)) (r := ?_))
   repeat (refine z8 ?_)
   refine mH (fun wq hq => ?_)
   have hb1 := rZ (mT a 16 k) (mL a 16 k)
   have hb2 := rZ (mT b 16 k) (mL b 16 k)
   have hmb := fA _ _ hb1 hb2
   obtain ⟨p, hp⟩ : ∃ p, p = sgn 16 (mT a 16 k) * sgn 16 (mT b 16 k) := ⟨_, rfl⟩
   rw [← hp] at hmb ⊢
   have Hp := Lib.hid hp
   clear hb1 hb2 hp
   have e1 : IntKind.i64.wrap (IntKind.i64.wrap p + 16384) = p + 16384 := by rw [IntWalk.i64_in p (by omega), IntWalk.i64_in _ (by omega)]
   rw [e1]
   by_cases hm : 32767 < (p + 16384) / 32768
   ·have Hv := Lib.hid (q15_hi a b k p Hp.out hm)
    go_wp2_with (first | (with_reducible refine mG rfl _ rfl _ rfl _ hq.this ?_) | (go_at_call 54; refine (rN _ _ _ k (q15N a b k) _ rfl Hv.out (by omega)).mono ?_; rintro e u2 ⟨rfl, hb⟩; have hq2 := hq.below hb) | (with_reducible refine mK rfl _ _ rfl (w.heap.size + 3) _ rfl rfl _ hq2.this ?_; intro wz hz))
    go_roundw
    case rel =>
     exact ⟨k + 1, by omega, by go_num, hq2.sets hz⟩
    case measure =>
     (simp [intOf] <;> omega)
   ·have Hv := Lib.hid (q15_lo a b k p Hp.out hm)
    go_wp2_with (first | (with_reducible refine mG rfl _ rfl _ rfl _ hq.this ?_) | (go_at_call 54; refine (rN _ _ _ k (q15N a b k) _ rfl Hv.out (by omega)).mono ?_; rintro e u2 ⟨rfl, hb⟩; have hq2 := hq.below hb) | (with_reducible refine mK rfl _ _ rfl (w.heap.size + 3) _ rfl rfl _ hq2.this ?_; intro wz hz))
    go_roundw
    case rel =>
     exact ⟨k + 1, by omega, by go_num, hq2.sets hz⟩
    case measure =>
     (simp [intOf] <;> omega)
  ·obtain rfl : k = 8 := by omega
   have hR' := hs.kb.get hR (by omega)
   go_wp2_with (first | (with_reducible refine mG rfl _ rfl _ rfl _ hs.this ?_) | (with_reducible refine mK rfl _ _ rfl (w.heap.size + 2) _ rfl rfl _ hR' ?_; intro wq hq))
   exact bodyPost_ret (mS rfl _ _ (w.heap.size + 2) _ _ rfl rfl hq.this) rfl ⟨rfl, (hs.kb.to_below hZ (by omega)).trans (hq.below.mono (by omega))⟩
theorem bin_dot (a b : Vec) (w : World) :
 Calls Try.prog 22 #[.int .i64 64954, .agg (mY a), .agg (mY b)] w fun e w' => e = .returned (.tuple #[.agg (mY (mJ 0 32 (dotN a b) 4)), .int .i64 0]) ∧ Below w.heap.size w w' := by
 go_enter Try.func22, Try.ntmps22
 go_wp2_with fail
 rw [← mU]
 obtain ⟨W, hW, hA, hB, hR, hO, hZ⟩ := zD w a b
 rw [← hW]
 clear hW
 refine (s5 _ _ _ (by unfold wrap64; decide) (by unfold wrap64; decide) (by unfold wrap64; decide)).mono ?_
 rintro e w' ⟨rfl, rfl⟩
 go_wp2_with fail
 go_loopw [84] (fun j wr => ∃ k : Nat, k ≤ 4 ∧ j = .int .i64 k ∧ St W (w.heap.size + 3) (mJ 0 32 (dotN a b) k) wr) (fun j _ => 4 - (intOf j).toNat)
 case atStart => exact xE
 case round =>
  obtain ⟨k, hk, rfl, hs⟩ := hrel
  by_cases hlt : k < 4
  ·have hk0 : (0 : Int) ≤ (k : Int) := Int.natCast_nonneg _
   have e1 : IntKind.i64.wrap (2 * (k : Int)) = 2 * k := IntWalk.i64_in _ (by omega)
   have e2 : IntKind.i64.wrap (2 * (k : Int) + 1) = 2 * k + 1 := IntWalk.i64_in _ (by omega)
   go_wp2_with fail
   refine mN (St W (w.heap.size + 3) (mJ 0 32 (dotN a b) k)) 9 (by kernel_rfl) (by kernel_rfl) hs.drew ?_
   simp only [zP, zN, zM, zL]
   (refine zK rfl _ rfl _ rfl _ (fun u hS => hS.kb.get hA (by omega)) ?_)
   repeat (refine z8 ?_)
   (refine zZ (.int .i64 (sgn 16 (mT a 16 (2 * k)))) 53 (c := fun u hS => by exact tB a _ (2 * k) _ (by omega) (by omega)) (r := ?_))
   (refine zK rfl _ rfl _ rfl _ (fun u hS => hS.kb.get hB (by omega)) ?_)
   repeat (refine z8 ?_)
   (refine zZ (.int .i64 (sgn 16 (mT b 16 (2 * k)))) 53 (c := fun u hS => by exact tB b _ (2 * k) _ (by omega) (by omega)) (r := ?_))
   repeat (refine z8 ?_)
   refine mH (fun wq hq => ?_)
   go_wp2_with fail
   refine mN (St W (w.heap.size + 3) (mJ 0 32 (dotN a b) k)) 11 (by kernel_rfl) (by kernel_rfl) hq.drew ?_
   simp only [zP, zN, zM, zL]
   (refine zK rfl _ rfl _ rfl _ (fun u hS => hS.kb.get hA (by omega)) ?_)
   repeat (refine z8 ?_)
   (refine zZ (.int .i64 (sgn 16 (mT a 16 (2 * k + 1)))) 53 (c := fun u hS => by exact tB a _ (2 * k + 1) _ (by omega) (by omega)) (r := ?_))
   (refine zK rfl _ rfl _ rfl _ (fun u hS => hS.kb.get hB (by omega)) ?_)
   repeat (refine z8 ?_)
   (refine zZ (.int .i64 (sgn 16 (mT b 16 (2 * k + 1)))) 53 (c := fun u hS => by exact tB b _ (2 * k + 1) _ (by omega) (by omega)) (r := ?_))
   repeat (refine z8 ?_)
   refine mH (fun wq hq => ?_)
   have Hv := Lib.hid (dot_wrap a b k)
   clear e1 e2
   go_wp2_with (first | (with_reducible refine mG rfl _ rfl _ rfl _ hq.this ?_) | (go_at_call 54; refine (uK _ _ _ k (dotN a b k) _ rfl Hv.out (by omega)).mono ?_; rintro e u2 ⟨rfl, hb⟩; have hq2 := hq.below hb) | (with_reducible refine mK rfl _ _ rfl (w.heap.size + 3) _ rfl rfl _ hq2.this ?_; intro wz hz))
   go_roundw
   case rel => exact gU
   case measure => exact xL
  ·obtain rfl : k = 4 := by omega
   exact xP
end Go.Proofs.Ytcpfabkokgiepaa
end
section

end
section
namespace Go.Proofs.Ytcpfabkokgiepaa
open Go.RowKit Pl
theorem rlane8 (v : Vec) (i : Nat) (j : Int) (s : Bool) (w : World) (hj : j = i) (hi : i < 16) :
 Calls Try.prog 87 #[.agg (mY v), .int .i64 8, .int .i64 j, .bool s] w fun e w' => e = .returned (.int .i64 (vS s 8 v i)) ∧ Below w.heap.size w w' := by
 subst hj
 cases s
 ·go_enter Try.func87, Try.ntmps87
  go_wp2_with (first | (with_reducible refine mG rfl _ rfl _ rfl v (heap_alloc_new _ _) ?_) | (go_at_call 74; refine (rget8 v i _ hi).mono ?_; rintro e w' ⟨rfl, hb⟩))
  go_ret
  exact ⟨uU (lane_u 8 v i (by decide)), ((Below.refl _ _).alloc (Nat.le_refl _) _).trans (hb.mono (by simp))⟩
 ·go_enter Try.func87, Try.ntmps87
  go_wp2_with (first | (with_reducible refine mG rfl _ rfl _ rfl v (heap_alloc_new _ _) ?_) | (go_at_call 73; refine (rsigned8 v i _ hi).mono ?_; rintro e w' ⟨rfl, hb⟩))
  go_ret
  exact ⟨rfl, ((Below.refl _ _).alloc (Nat.le_refl _) _).trans (hb.mono (by simp))⟩
theorem eV (v : Vec) (i : Nat) (j : Int) (s : Bool) (w : World) (hj : j = i) (hi : i < 8) :
 Calls Try.prog 87 #[.agg (mY v), .int .i64 16, .int .i64 j, .bool s] w fun e w' => e = .returned (.int .i64 (vS s 16 v i)) ∧ Below w.heap.size w w' := by
 subst hj
 cases s
 ·go_enter Try.func87, Try.ntmps87
  go_wp2_with (first | (with_reducible refine mG rfl _ rfl _ rfl v (heap_alloc_new _ _) ?_) | (go_at_call 74; refine (rget16 v i _ hi).mono ?_; rintro e w' ⟨rfl, hb⟩))
  go_ret
  exact ⟨uU (lane_u 16 v i (by decide)), ((Below.refl _ _).alloc (Nat.le_refl _) _).trans (hb.mono (by simp))⟩
 ·go_enter Try.func87, Try.ntmps87
  go_wp2_with (first | (with_reducible refine mG rfl _ rfl _ rfl v (heap_alloc_new _ _) ?_) | (go_at_call 73; refine (rsigned16 v i _ hi).mono ?_; rintro e w' ⟨rfl, hb⟩))
  go_ret
  exact ⟨rfl, ((Below.refl _ _).alloc (Nat.le_refl _) _).trans (hb.mono (by simp))⟩
theorem rlane32 (v : Vec) (i : Nat) (j : Int) (s : Bool) (w : World) (hj : j = i) (hi : i < 4) :
 Calls Try.prog 87 #[.agg (mY v), .int .i64 32, .int .i64 j, .bool s] w fun e w' => e = .returned (.int .i64 (vS s 32 v i)) ∧ Below w.heap.size w w' := by
 subst hj
 cases s
 ·go_enter Try.func87, Try.ntmps87
  go_wp2_with (first | (with_reducible refine mG rfl _ rfl _ rfl v (heap_alloc_new _ _) ?_) | (go_at_call 74; refine (rget32 v i _ hi).mono ?_; rintro e w' ⟨rfl, hb⟩))
  go_ret
  exact ⟨uU (lane_u 32 v i (by decide)), ((Below.refl _ _).alloc (Nat.le_refl _) _).trans (hb.mono (by simp))⟩
 ·go_enter Try.func87, Try.ntmps87
  go_wp2_with (first | (with_reducible refine mG rfl _ rfl _ rfl v (heap_alloc_new _ _) ?_) | (go_at_call 73; refine (rsigned32 v i _ hi).mono ?_; rintro e w' ⟨rfl, hb⟩))
  go_ret
  exact ⟨rfl, ((Below.refl _ _).alloc (Nat.le_refl _) _).trans (hb.mono (by simp))⟩
end Go.Proofs.Ytcpfabkokgiepaa
end
section
namespace Go.Proofs.Ytcpfabkokgiepaa
open Go.RowKit Pl
set_option maxRecDepth 100000 in
theorem rhold8s (x z : Int) (y : Nat) (w : World) (hz : z = x) (hy : y = u64 (min (max x (-128)) 127)) :
 Calls Try.prog 89 #[.int .i64 z, .int .i64 8, .bool true] w fun e w' => e = .returned (.int .u64 (y : Nat)) ∧ Below w.heap.size w w' := by
 subst hz hy
 by_cases h : z < -128
 ·go_enter Try.func89, Try.ntmps89
  go_wp2
  go_ret
  exact ⟨vX (by rw [show min (max z (-128)) 127 = -128 by omega]; (first | rfl | exact wrap_u64 _ | (unfold u64; omega))), Below.refl _ _⟩
 ·by_cases h2 : 127 < z
  ·go_enter Try.func89, Try.ntmps89
   go_wp2
   go_ret
   exact ⟨vX (by rw [show min (max z (-128)) 127 = 127 by omega]; (first | rfl | exact wrap_u64 _ | (unfold u64; omega))), Below.refl _ _⟩
  ·go_enter Try.func89, Try.ntmps89
   go_wp2
   go_ret
   exact ⟨vX (by rw [show min (max z (-128)) 127 = z by omega]; (first | rfl | exact wrap_u64 _ | (unfold u64; omega))), Below.refl _ _⟩
set_option maxRecDepth 100000 in
theorem rhold8u (x z : Int) (y : Nat) (w : World) (hz : z = x) (hy : y = u64 (min (max x (0)) 255)) :
 Calls Try.prog 89 #[.int .i64 z, .int .i64 8, .bool false] w fun e w' => e = .returned (.int .u64 (y : Nat)) ∧ Below w.heap.size w w' := by
 subst hz hy
 by_cases h : z < 0
 ·go_enter Try.func89, Try.ntmps89
  go_wp2
  go_ret
  exact ⟨vX (by rw [show min (max z (0)) 255 = 0 by omega]; (first | rfl | exact wrap_u64 _ | (unfold u64; omega))), Below.refl _ _⟩
 ·by_cases h2 : 255 < z
  ·go_enter Try.func89, Try.ntmps89
   go_wp2
   go_ret
   exact ⟨vX (by rw [show min (max z (0)) 255 = 255 by omega]; (first | rfl | exact wrap_u64 _ | (unfold u64; omega))), Below.refl _ _⟩
  ·go_enter Try.func89, Try.ntmps89
   go_wp2
   go_ret
   exact ⟨vX (by rw [show min (max z (0)) 255 = z by omega]; (first | rfl | exact wrap_u64 _ | (unfold u64; omega))), Below.refl _ _⟩
set_option maxRecDepth 100000 in
theorem rhold16s (x z : Int) (y : Nat) (w : World) (hz : z = x) (hy : y = u64 (min (max x (-32768)) 32767)) :
 Calls Try.prog 89 #[.int .i64 z, .int .i64 16, .bool true] w fun e w' => e = .returned (.int .u64 (y : Nat)) ∧ Below w.heap.size w w' := by
 subst hz hy
 by_cases h : z < -32768
 ·go_enter Try.func89, Try.ntmps89
  go_wp2
  go_ret
  exact ⟨vX (by rw [show min (max z (-32768)) 32767 = -32768 by omega]; (first | rfl | exact wrap_u64 _ | (unfold u64; omega))), Below.refl _ _⟩
 ·by_cases h2 : 32767 < z
  ·go_enter Try.func89, Try.ntmps89
   go_wp2
   go_ret
   exact ⟨vX (by rw [show min (max z (-32768)) 32767 = 32767 by omega]; (first | rfl | exact wrap_u64 _ | (unfold u64; omega))), Below.refl _ _⟩
  ·go_enter Try.func89, Try.ntmps89
   go_wp2
   go_ret
   exact ⟨vX (by rw [show min (max z (-32768)) 32767 = z by omega]; (first | rfl | exact wrap_u64 _ | (unfold u64; omega))), Below.refl _ _⟩
set_option maxRecDepth 100000 in
theorem rhold16u (x z : Int) (y : Nat) (w : World) (hz : z = x) (hy : y = u64 (min (max x (0)) 65535)) :
 Calls Try.prog 89 #[.int .i64 z, .int .i64 16, .bool false] w fun e w' => e = .returned (.int .u64 (y : Nat)) ∧ Below w.heap.size w w' := by
 subst hz hy
 by_cases h : z < 0
 ·go_enter Try.func89, Try.ntmps89
  go_wp2
  go_ret
  exact ⟨vX (by rw [show min (max z (0)) 65535 = 0 by omega]; (first | rfl | exact wrap_u64 _ | (unfold u64; omega))), Below.refl _ _⟩
 ·by_cases h2 : 65535 < z
  ·go_enter Try.func89, Try.ntmps89
   go_wp2
   go_ret
   exact ⟨vX (by rw [show min (max z (0)) 65535 = 65535 by omega]; (first | rfl | exact wrap_u64 _ | (unfold u64; omega))), Below.refl _ _⟩
  ·go_enter Try.func89, Try.ntmps89
   go_wp2
   go_ret
   exact ⟨vX (by rw [show min (max z (0)) 65535 = z by omega]; (first | rfl | exact wrap_u64 _ | (unfold u64; omega))), Below.refl _ _⟩
theorem rget_out16 (v : Vec) (i : Nat) (w : World) (hi : 8 ≤ i) :
 Calls Try.prog 74 #[.agg (mY v), .int .i64 16, .int .i64 i] w fun e w' => e = .returned (.int .u64 0) ∧ Below w.heap.size w w' := by
 have hi' : (8 : Int) ≤ (i : Int) := by omega
 go_enter Try.func74, Try.ntmps74
 go_wp2_with (first | (go_at_call 82; ((with_reducible refine (pP _).mono ?_); rintro e w' ⟨rfl, rfl⟩)))
 go_ret
 exact ⟨rfl, (Below.refl _ _).alloc (Nat.le_refl _) _⟩
theorem rsigned_out16 (v : Vec) (j : Int) (i : Nat) (w : World) (hj : j = i) (hi : 8 ≤ i) :
 Calls Try.prog 73 #[.agg (mY v), .int .i64 16, .int .i64 j] w fun e w' => e = .returned (.int .i64 0) ∧ Below w.heap.size w w' := by
 subst hj
 have hg := rget_out16 v i (w.alloc (.cells (mY v) 45)) hi
 have hs := fun W => rsign16 0 W (by decide)
 exact qS
theorem rget_out32 (v : Vec) (i : Nat) (w : World) (hi : 4 ≤ i) :
 Calls Try.prog 74 #[.agg (mY v), .int .i64 32, .int .i64 i] w fun e w' => e = .returned (.int .u64 0) ∧ Below w.heap.size w w' := by
 have hi' : (4 : Int) ≤ (i : Int) := by omega
 go_enter Try.func74, Try.ntmps74
 go_wp2_with (first | (go_at_call 82; ((with_reducible refine (pR _).mono ?_); rintro e w' ⟨rfl, rfl⟩)))
 go_ret
 exact ⟨rfl, (Below.refl _ _).alloc (Nat.le_refl _) _⟩
theorem rsigned_out32 (v : Vec) (j : Int) (i : Nat) (w : World) (hj : j = i) (hi : 4 ≤ i) :
 Calls Try.prog 73 #[.agg (mY v), .int .i64 32, .int .i64 j] w fun e w' => e = .returned (.int .i64 0) ∧ Below w.heap.size w w' := by
 subst hj
 have hg := rget_out32 v i (w.alloc (.cells (mY v) 45)) hi
 have hs := fun W => rsign32 0 W (by decide)
 exact qT
end Go.Proofs.Ytcpfabkokgiepaa
end
