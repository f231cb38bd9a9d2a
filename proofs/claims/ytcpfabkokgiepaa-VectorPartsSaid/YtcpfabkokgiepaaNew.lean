/-
  A region that draws its order and makes one new vector: the world's condition and the steps.
-/
import Derived.Test.YtcpfabkokgiepaaG
import Derived.Test.YtcpfabkokgiepaaDoA
set_option linter.unusedSimpArgs false
set_option linter.unusedVariables false
namespace Go.Proofs.Ytcpfabkokgiepaa
open Go.RowKit Pl
set_option linter.unusedVariables false
set_option linter.unusedSimpArgs false

/-- World u is w0 but for new blocks; those that l names hold its vectors; the new variable, if it has been made, holds zeros, and X if it has been stored. -/
structure N1 (w0 : World) (l : List (Nat × Vec)) (X : Vec) (D : Option (Nat × Bool)) (u : World) : Prop where
  bel : Below w0.heap.size w0 u
  hold : ∀ q ∈ l, u.heap[q.1]? = some (.cells (cells q.2) 45 (0, 0))
  new : ∀ x st, D = some (x, st) → u.heap[x]? = some (.cells (cells (bif st then X else 0)) 45 (0, 0)) ∧ w0.heap.size ≤ x ∧ ∀ q ∈ l, q.1 ≠ x
theorem N1.below {w0 u u1 : World} {l : List (Nat × Vec)} {X : Vec} {D : Option (Nat × Bool)} (h : N1 w0 l X D u) (hb : Below u.heap.size u u1) : N1 w0 l X D u1 :=
  ⟨h.bel.trans (hb.mono h.bel.size), fun q hq => blk_keep (h.hold q hq) hb, fun x st hx => ⟨blk_keep (h.new x st hx).1 hb, (h.new x st hx).2⟩⟩
theorem N1.drew {w0 u : World} {l : List (Nat × Vec)} {X : Vec} {D : Option (Nat × Bool)} (h : N1 w0 l X D u) : N1 w0 l X D u.drew := ⟨h.bel.drew, h.hold, h.new⟩
theorem N1.alloc {w0 u : World} {l : List (Nat × Vec)} {X : Vec} {D : Option (Nat × Bool)} (h : N1 w0 l X D u) : N1 w0 l X (some (u.heap.size, false)) (u.alloc (.cells (cells 0) 45)) :=
  ⟨h.bel.alloc h.bel.size _, fun q hq => blk_alloc (h.hold q hq) _, fun x st hx => by
    obtain ⟨rfl, rfl⟩ : u.heap.size = x ∧ false = st := by simpa using hx
    exact ⟨heap_alloc_new _ _, h.bel.size, fun q hq => Nat.ne_of_lt (block_lt (h.hold q hq))⟩⟩
theorem N1.store {w0 u u1 : World} {l : List (Nat × Vec)} {X : Vec} {x : Nat} (h : N1 w0 l X (some (x, false)) u) (hs : Sets u x X u1) : N1 w0 l X (some (x, true)) u1 := by
  obtain ⟨h1, h2, h3⟩ := h.new x false rfl
  refine ⟨h.bel.trans (hs.below.mono h2), fun q hq => blk_sets (h.hold q hq) hs (h3 q hq), fun y st hy => ?_⟩
  obtain ⟨rfl, rfl⟩ : x = y ∧ true = st := by simpa using hy
  exact ⟨hs.this, h2, h3⟩
theorem N1.start {w0 u : World} {l : List (Nat × Vec)} (X : Vec) (hb : Below w0.heap.size w0 u) (hh : ∀ q ∈ l, u.heap[q.1]? = some (.cells (cells q.2) 45 (0, 0))) : N1 w0 l X none u :=
  ⟨hb, hh, fun x st hx => by cases hx⟩
theorem do_loadA {σ : Type} {ops : Array Oper} {S : σ → World → Prop} {L : Act → Prop} {o : Oper} {rest : List Oper} {a : Act} (hg : o.guard = none) (x : Operand) (ho : o.op = .load 45 x) (g : Nat)
    (hx : a.eval x = .pointer (some ⟨g, 0, none⟩)) (v : Vec) (h : ∀ D w, S D w → w.heap[g]? = some (.cells (cells v) 45 (0, 0)))
    (hr : wpDA Try.prog ops S L rest (a.put o.dst (.agg (cells v)))) : wpDA Try.prog ops S L (o :: rest) a :=
  wpDA_here hg (fun D w hS => by
    unfold execOp
    simp only [ho, hx, Instr.loadAt, Instr.sureAddr, Sem.run_bind, Sem.run_pure, Result.andThen_ok, run_loadVar_row w g 45 45 (cells v) (0, 0) _ (h D w hS) vunder rfl (vsize v)]) hr
theorem new_run {op : Oper} (ho : op.op = .alloc 45) (a : Act) (w : World) : (execOp a.eval op).run Try.prog w = .ok (.value (ptr w.heap.size)) (w.alloc (.cells (cells 0) 45)) := by
  have hz : (zeroValue 45).run Try.prog w = .ok (.agg #[.int .u8 0, .int .u8 0, .int .u8 0, .int .u8 0, .int .u8 0, .int .u8 0, .int .u8 0, .int .u8 0, .int .u8 0, .int .u8 0, .int .u8 0, .int .u8 0, .int .u8 0, .int .u8 0, .int .u8 0, .int .u8 0]) w := by kernel_rfl
  rw [cells_zero]
  unfold execOp
  simp only [ho, Instr.alloc, Sem.run_bind, hz, Result.andThen_ok]
  simp [newVar, newRow, Value.cells, go_sem, ptr]
theorem store_run {o : Oper} {a : Act} {w : World} (x y : Operand) (ho : o.op = .store 45 x y) (g : Nat) (v u : Vec) (hx : a.eval x = ptr g) (hy : a.eval y = .agg (cells v)) (hg : w.heap[g]? = some (.cells (cells u) 45 (0, 0))) :
    ∃ w1, Sets w g v w1 ∧ (execOp a.eval o).run Try.prog w = .ok .skip w1 := by
  refine ⟨_, sets_setRow v hg, ?_⟩
  unfold execOp
  unfold ptr at hx
  simp only [ho, hx, hy, Instr.storeAt, Instr.sureAddr, Sem.run_bind, Sem.run_pure, Result.andThen_ok, run_storeVar_row w g 45 45 (cells u) (cells v) hg (vsize v) (by simp) (all_cells v)]
/-- The new variable's states. -/
def step1 (p q : Nat) (i : Nat) (D D' : Option (Nat × Bool)) : Prop := (i = p ∧ D = none ∧ ∃ x, D' = some (x, false)) ∨ (i = q ∧ ∃ x, D = some (x, false) ∧ D' = some (x, true))
def val1 (p : Nat) (i : Nat) (D : Option (Nat × Bool)) : Value := if i = p then (match D with | some (x, _) => ptr x | none => undef) else undef
def check1 (ops : Array Oper) (n p q : Nat) (order : List Nat) : Bool :=
  checkA ops n [p, q] order && decide (p ≠ q) && decide (p < n) && decide (q < n) && (Region.ready .any ops (marks (Array.replicate ops.size false) order) == [p]) && (Region.ready .any ops ((marks (Array.replicate ops.size false) order).setIfInBounds p true) == [q]) &&
  Region.seqB .any ops (ops.size - n) n (((marks (Array.replicate ops.size false) order).setIfInBounds p true).setIfInBounds q true)
/-- A region that makes one new vector (operation p) and stores X into it (operation q). -/
theorem region_new1 {id : Nat} {Q : Exit → Act → World → Prop} {a : Act} {w : World} {l : List Oper} (w0 : World) (hs : List (Nat × Vec)) (X : Vec) (n p q : Nat) (order : List Nat) (hB : check1 l.toArray n p q order = true)
    {op oq : Oper} (hop : l[p]? = some op) (hoq : l[q]? = some oq) (hpn : op.guard = none) (hpo : op.op = .alloc 45) (hqn : oq.guard = none) (xo yo : Operand) (hqo : oq.op = .store 45 xo yo) (hqd : oq.dst = none)
    (hS : N1 w0 hs X none w.drew)
    (h : wpDA Try.prog l.toArray (N1 w0 hs X) (fun a' => ∀ x, (a'.put op.dst (ptr x)).eval xo = ptr x ∧ (a'.put op.dst (ptr x)).eval yo = .agg (cells X) ∧ ∀ w', N1 w0 hs X (some (x, true)) w' → wpList Try.prog l.toArray Q (l.drop n) ((a'.put op.dst (ptr x)).put oq.dst undef) w') (opsAt l order) a) : (Code.region id l.toArray true).wp Try.prog Q a w := by
  simp only [check1, Bool.and_eq_true, decide_eq_true_eq, beq_iff_eq] at hB
  obtain ⟨⟨⟨⟨⟨⟨hA, hpq⟩, hp⟩, hq⟩, hr1⟩, hr2⟩, hsq⟩ := hB
  refine region_news (N1 w0 hs X) (step1 p q) (val1 p) none n [p, q] order (by kernel_rfl) hA hS ?_
  have mono : ∀ (os : List Oper) (a : Act) (K K' : Act → Prop), (∀ a, K a → K' a) → wpDA Try.prog l.toArray (N1 w0 hs X) K os a → wpDA Try.prog l.toArray (N1 w0 hs X) K' os a := by
    intro os
    induction os with
    | nil => intro a K K' hk h; exact hk _ h
    | cons o os ih => intro a K K' hk ⟨v, h1, h2⟩; exact ⟨v, h1, ih _ _ _ hk h2⟩
  refine mono _ _ _ _ (fun a' h' => ?_) h
  refine special_one p hr1 hp (by simp) (by simpa using hop) ⟨by unfold Region.wanted; rw [hpn], fun w hw => ⟨some (w.heap.size, false), _, .inl ⟨rfl, rfl, _, rfl⟩, hw.alloc, .inl ?_⟩⟩ (fun D' hD => ?_)
  · rw [new_run hpo]; simp [val1]
  · rcases hD with ⟨_, _, x, rfl⟩ | ⟨h1, _⟩
    · have hv : val1 p p (some (x, false)) = ptr x := by simp [val1]
      rw [hv]
      obtain ⟨hx, hy, hk⟩ := h' x
      refine special_one q hr2 hq (by simp) (by simpa using hoq) ⟨by unfold Region.wanted; rw [hqn], fun w hw => ?_⟩ (fun D' hD => ?_)
      · obtain ⟨w1, h1, h2⟩ := store_run xo yo hqo x X 0 hx hy (hw.new x false rfl).1
        exact ⟨some (x, true), w1, .inr ⟨rfl, x, rfl, rfl⟩, hw.store h1, .inr ⟨h2, by simp [val1, Ne.symm hpq]⟩⟩
      · rcases hD with ⟨h1, _⟩ | ⟨_, y, hy1, rfl⟩
        · exact absurd h1 (Ne.symm hpq)
        · have : x = y := by simpa using hy1
          subst this
          have hv2 : val1 p q (some (x, true)) = undef := by simp [val1, Ne.symm hpq]
          rw [hv2]
          exact ⟨hsq, hk⟩
    · exact absurd h1 hpq
/-- A region that makes one new vector (operation p); the tail behind it stores into it. -/
def check0 (ops : Array Oper) (n p : Nat) (order : List Nat) : Bool :=
  checkA ops n [p] order && decide (p < n) && (Region.ready .any ops (marks (Array.replicate ops.size false) order) == [p]) &&
  Region.seqB .any ops (ops.size - n) n ((marks (Array.replicate ops.size false) order).setIfInBounds p true)
theorem region_new0 {id : Nat} {Q : Exit → Act → World → Prop} {a : Act} {w : World} {l : List Oper} (w0 : World) (hs : List (Nat × Vec)) (n p : Nat) (order : List Nat) (hB : check0 l.toArray n p order = true)
    {op : Oper} (hop : l[p]? = some op) (hpn : op.guard = none) (hpo : op.op = .alloc 45) (hS : N1 w0 hs 0 none w.drew)
    (h : wpDA Try.prog l.toArray (N1 w0 hs 0) (fun a' => ∀ x w', N1 w0 hs 0 (some (x, false)) w' → wpList Try.prog l.toArray Q (l.drop n) (a'.put op.dst (ptr x)) w') (opsAt l order) a) : (Code.region id l.toArray true).wp Try.prog Q a w := by
  simp only [check0, Bool.and_eq_true, decide_eq_true_eq, beq_iff_eq] at hB
  obtain ⟨⟨⟨hA, hp⟩, hr1⟩, hsq⟩ := hB
  refine region_news (N1 w0 hs 0) (step1 p (p + 1)) (val1 p) none n [p] order (by kernel_rfl) hA hS ?_
  have mono : ∀ (os : List Oper) (a : Act) (K K' : Act → Prop), (∀ a, K a → K' a) → wpDA Try.prog l.toArray (N1 w0 hs 0) K os a → wpDA Try.prog l.toArray (N1 w0 hs 0) K' os a := by
    intro os
    induction os with
    | nil => intro a K K' hk h; exact hk _ h
    | cons o os ih => intro a K K' hk ⟨v, h1, h2⟩; exact ⟨v, h1, ih _ _ _ hk h2⟩
  refine mono _ _ _ _ (fun a' h' => ?_) h
  refine special_one p hr1 hp (by simp) (by simpa using hop) ⟨by unfold Region.wanted; rw [hpn], fun w hw => ⟨some (w.heap.size, false), _, .inl ⟨rfl, rfl, _, rfl⟩, hw.alloc, .inl ?_⟩⟩ (fun D' hD => ?_)
  · rw [new_run hpo]; simp [val1]
  · rcases hD with ⟨_, _, x, rfl⟩ | ⟨h1, _⟩
    · have hv : val1 p p (some (x, false)) = ptr x := by simp [val1]
      rw [hv]
      exact ⟨hsq, h' x⟩
    · omega

end Go.Proofs.Ytcpfabkokgiepaa
