/-
  A region that draws its order and makes two new vectors, of which the tail stores the second.
-/
import Derived.Test.YtcpfabkokgiepaaNew
set_option linter.unusedSimpArgs false
set_option linter.unusedVariables false
namespace Go.Proofs.Ytcpfabkokgiepaa
open Go.RowKit Pl
set_option linter.unusedSimpArgs false
set_option linter.unusedVariables false

/-- As N1, for two new variables: the first holds zeros, and X if it has been stored; the second holds zeros. -/
structure N2 (w0 : World) (l : List (Nat × Vec)) (X : Vec) (D : Option Nat × Option Nat × Bool) (u : World) : Prop where
  bel : Below w0.heap.size w0 u
  hold : ∀ q ∈ l, u.heap[q.1]? = some (.cells (cells q.2) 45 (0, 0))
  nb : ∀ x, D.1 = some x → u.heap[x]? = some (.cells (cells (bif D.2.2 then X else 0)) 45 (0, 0)) ∧ w0.heap.size ≤ x ∧ ∀ q ∈ l, q.1 ≠ x
  nc : ∀ y, D.2.1 = some y → u.heap[y]? = some (.cells (cells 0) 45 (0, 0)) ∧ w0.heap.size ≤ y ∧ ∀ q ∈ l, q.1 ≠ y
  ne : ∀ x y, D.1 = some x → D.2.1 = some y → x ≠ y
section
variable {w0 u u1 : World} {l : List (Nat × Vec)} {X : Vec} {D : Option Nat × Option Nat × Bool} {b c : Option Nat}
theorem N2.below (h : N2 w0 l X D u) (hb : Below u.heap.size u u1) : N2 w0 l X D u1 :=
  ⟨h.bel.trans (hb.mono h.bel.size), fun q hq => blk_keep (h.hold q hq) hb, fun x hx => ⟨blk_keep (h.nb x hx).1 hb, (h.nb x hx).2⟩, fun x hx => ⟨blk_keep (h.nc x hx).1 hb, (h.nc x hx).2⟩, h.ne⟩
theorem N2.drew (h : N2 w0 l X D u) : N2 w0 l X D u.drew := ⟨h.bel.drew, h.hold, h.nb, h.nc, h.ne⟩
theorem N2.allocB (h : N2 w0 l X (none, c, false) u) : N2 w0 l X (some u.heap.size, c, false) (u.alloc (.cells (cells 0) 45)) :=
  ⟨h.bel.alloc h.bel.size _, fun q hq => blk_alloc (h.hold q hq) _, fun x hx => by
    obtain rfl : u.heap.size = x := by simpa using hx
    exact ⟨heap_alloc_new _ _, h.bel.size, fun q hq => Nat.ne_of_lt (block_lt (h.hold q hq))⟩, fun y hy => ⟨blk_alloc (h.nc y hy).1 _, (h.nc y hy).2⟩, fun x y hx hy => by
    obtain rfl : u.heap.size = x := by simpa using hx
    exact Nat.ne_of_gt (block_lt (h.nc y hy).1)⟩
theorem N2.allocC (h : N2 w0 l X (b, none, false) u) : N2 w0 l X (b, some u.heap.size, false) (u.alloc (.cells (cells 0) 45)) :=
  ⟨h.bel.alloc h.bel.size _, fun q hq => blk_alloc (h.hold q hq) _, fun x hx => ⟨blk_alloc (h.nb x hx).1 _, (h.nb x hx).2⟩, fun y hy => by
    obtain rfl : u.heap.size = y := by simpa using hy
    exact ⟨heap_alloc_new _ _, h.bel.size, fun q hq => Nat.ne_of_lt (block_lt (h.hold q hq))⟩, fun x y hx hy => by
    obtain rfl : u.heap.size = y := by simpa using hy
    exact Nat.ne_of_lt (block_lt (h.nb x hx).1)⟩
theorem N2.storeB {x : Nat} (h : N2 w0 l X (some x, c, false) u) (hs : Sets u x X u1) : N2 w0 l X (some x, c, true) u1 := by
  obtain ⟨h1, h2, h3⟩ := h.nb x rfl
  refine ⟨h.bel.trans (hs.below.mono h2), fun q hq => blk_sets (h.hold q hq) hs (h3 q hq), fun y hy => ?_, fun y hy => ⟨blk_sets (h.nc y hy).1 hs (Ne.symm (h.ne x y rfl hy)), (h.nc y hy).2⟩, h.ne⟩
  obtain rfl : x = y := by simpa using hy
  exact ⟨hs.this, h2, h3⟩
theorem N2.start (X : Vec) (hb : Below w0.heap.size w0 u) (hh : ∀ q ∈ l, u.heap[q.1]? = some (.cells (cells q.2) 45 (0, 0))) : N2 w0 l X (none, none, false) u :=
  ⟨hb, hh, fun x hx => (by cases hx), fun x hx => (by cases hx), fun x y hx => (by cases hx)⟩
end
def step2 (p1 p2 q : Nat) (i : Nat) (D D' : Option Nat × Option Nat × Bool) : Prop :=
  (i = p1 ∧ D.1 = none ∧ D.2.2 = false ∧ ∃ x, D' = (some x, D.2.1, false)) ∨ (i = p2 ∧ D.2.1 = none ∧ D.2.2 = false ∧ ∃ y, D' = (D.1, some y, false)) ∨ (i = q ∧ D.2.2 = false ∧ D' = (D.1, D.2.1, true))
def val2 (p1 p2 : Nat) (i : Nat) (D : Option Nat × Option Nat × Bool) : Value := if i = p1 then (match D.1 with | some x => ptr x | none => undef) else if i = p2 then (match D.2.1 with | some y => ptr y | none => undef) else undef
def check2 (ops : Array Oper) (n p1 p2 q : Nat) (order : List Nat) : Bool :=
  checkA ops n [p1, p2, q] order && decide (p1 ≠ p2) && decide (p1 ≠ q) && decide (p2 ≠ q) && decide (p1 < n) && decide (p2 < n) && decide (q < n) &&
  (Region.ready .any ops (marks (Array.replicate ops.size false) order) == [p1, p2]) && (Region.ready .any ops ((marks (Array.replicate ops.size false) order).setIfInBounds p1 true) == [p2]) && (Region.ready .any ops ((marks (Array.replicate ops.size false) order).setIfInBounds p2 true) == [p1]) &&
  (Region.ready .any ops (((marks (Array.replicate ops.size false) order).setIfInBounds p1 true).setIfInBounds p2 true) == [q]) &&
  Region.seqB .any ops (ops.size - n) n ((((marks (Array.replicate ops.size false) order).setIfInBounds p1 true).setIfInBounds p2 true).setIfInBounds q true)
theorem region_new2 {id : Nat} {Q : Exit → Act → World → Prop} {a : Act} {w : World} {l : List Oper} (w0 : World) (hs : List (Nat × Vec)) (X : Vec) (n p1 p2 q : Nat) (order : List Nat) (hB : check2 l.toArray n p1 p2 q order = true)
    {o1 o2 oq : Oper} (h1 : l[p1]? = some o1) (h2 : l[p2]? = some o2) (hoq : l[q]? = some oq) (g1 : o1.guard = none) (e1 : o1.op = .alloc 45) (g2 : o2.guard = none) (e2 : o2.op = .alloc 45) (hqn : oq.guard = none) (xo yo : Operand) (hqo : oq.op = .store 45 xo yo)
    (hd : o1.dst ≠ o2.dst) (hS : N2 w0 hs X (none, none, false) w.drew)
    (h : wpDA Try.prog l.toArray (N2 w0 hs X) (fun a' => ∀ x y, ((a'.put o1.dst (ptr x)).put o2.dst (ptr y)).eval xo = ptr x ∧ ((a'.put o1.dst (ptr x)).put o2.dst (ptr y)).eval yo = .agg (cells X) ∧
      ∀ w', N2 w0 hs X (some x, some y, true) w' → wpList Try.prog l.toArray Q (l.drop n) (((a'.put o1.dst (ptr x)).put o2.dst (ptr y)).put oq.dst undef) w') (opsAt l order) a) : (Code.region id l.toArray true).wp Try.prog Q a w := by
  simp only [check2, Bool.and_eq_true, decide_eq_true_eq, beq_iff_eq] at hB
  obtain ⟨⟨⟨⟨⟨⟨⟨⟨⟨⟨⟨hA, n12⟩, n1q⟩, n2q⟩, l1⟩, l2⟩, lq⟩, r0⟩, r1⟩, r2⟩, r3⟩, hsq⟩ := hB
  refine region_news (N2 w0 hs X) (step2 p1 p2 q) (val2 p1 p2) (none, none, false) n [p1, p2, q] order (by kernel_rfl) hA hS ?_
  have mono : ∀ (os : List Oper) (a : Act) (K K' : Act → Prop), (∀ a, K a → K' a) → wpDA Try.prog l.toArray (N2 w0 hs X) K os a → wpDA Try.prog l.toArray (N2 w0 hs X) K' os a := by
    intro os
    induction os with
    | nil => intro a K K' hk h; exact hk _ h
    | cons o os ih => intro a K K' hk ⟨v, h1, h2⟩; exact ⟨v, h1, ih _ _ _ hk h2⟩
  refine mono _ _ _ _ (fun a' h' => ?_) h
  have v1 : ∀ x c b, val2 p1 p2 p1 (some x, c, b) = ptr x := fun x c b => by simp [val2]
  have v2 : ∀ x y b, val2 p1 p2 p2 (x, some y, b) = ptr y := fun x y b => by simp [val2, Ne.symm n12]
  have vq : ∀ D, val2 p1 p2 q D = undef := fun D => by simp [val2, Ne.symm n1q, Ne.symm n2q]
  have i1 : (l.toArray)[p1]? = some o1 := by simpa using h1
  have i2 : (l.toArray)[p2]? = some o2 := by simpa using h2
  have iq : (l.toArray)[q]? = some oq := by simpa using hoq
  have N1A : ∀ (c : Option Nat) (a : Act), NewA Try.prog l.toArray (N2 w0 hs X) (step2 p1 p2 q) (val2 p1 p2) p1 (none, c, false) o1 a := fun c a => ⟨by unfold Region.wanted; rw [g1], fun w hw => ⟨(some w.heap.size, c, false), _, .inl ⟨rfl, rfl, rfl, _, rfl⟩, hw.allocB, .inl (by rw [new_run e1, v1])⟩⟩
  have N2A : ∀ (b : Option Nat) (a : Act), NewA Try.prog l.toArray (N2 w0 hs X) (step2 p1 p2 q) (val2 p1 p2) p2 (b, none, false) o2 a := fun b a => ⟨by unfold Region.wanted; rw [g2], fun w hw => ⟨(b, some w.heap.size, false), _, .inr (.inl ⟨rfl, rfl, rfl, _, rfl⟩), hw.allocC, .inl (by rw [new_run e2, v2])⟩⟩
  have last : ∀ (x y : Nat) (listed : Array Bool), listed = ((marks (Array.replicate l.toArray.size false) order).setIfInBounds p1 true).setIfInBounds p2 true →
      wpHeadA Try.prog .any l.toArray (N2 w0 hs X) (step2 p1 p2 q) (val2 p1 p2) [p1, p2, q] n (fun D listed a' => Region.seqB .any l.toArray (l.toArray.size - n) n listed = true ∧ ∀ w', N2 w0 hs X D w' → wpList Try.prog l.toArray Q (l.drop n) a' w') 1 (some x, some y, false) listed ((a'.put o1.dst (ptr x)).put o2.dst (ptr y)) := fun x y listed hl => by
    subst hl
    obtain ⟨hx, hy, hk⟩ := h' x y
    refine special_one q r3 lq (by simp) iq ⟨by unfold Region.wanted; rw [hqn], fun w hw => ?_⟩ (fun D' hD => ?_)
    · obtain ⟨w1, s1, s2⟩ := store_run xo yo hqo x X 0 hx hy (hw.nb x rfl).1
      exact ⟨(some x, some y, true), w1, .inr (.inr ⟨rfl, rfl, rfl⟩), hw.storeB s1, .inr ⟨s2, vq _⟩⟩
    · rcases hD with ⟨k, _⟩ | ⟨k, _⟩ | ⟨_, _, rfl⟩
      · exact absurd k (Ne.symm n1q)
      · exact absurd k (Ne.symm n2q)
      · rw [vq]; exact ⟨hsq, hk⟩
  refine ⟨by rw [r0]; simp, fun i hi => ?_⟩
  rw [r0] at hi
  rcases (show i = p1 ∨ i = p2 by simpa using hi) with rfl | rfl
  · refine ⟨l1, .inl ⟨by simp, o1, i1, N1A none a', fun D' hD => ?_⟩⟩
    rcases hD with ⟨_, _, _, x, rfl⟩ | ⟨k, _⟩ | ⟨k, _⟩
    · rw [v1]
      refine special_one p2 r1 l2 (by simp) i2 (N2A _ _) (fun D' hD => ?_)
      rcases hD with ⟨k, _⟩ | ⟨_, _, _, y, rfl⟩ | ⟨k, _⟩
      · exact absurd k (Ne.symm n12)
      · rw [v2]; exact last x y _ rfl
      · exact absurd k n2q
    · exact absurd k n12
    · exact absurd k n1q
  · refine ⟨l2, .inl ⟨by simp, o2, i2, N2A none a', fun D' hD => ?_⟩⟩
    rcases hD with ⟨k, _⟩ | ⟨_, _, _, y, rfl⟩ | ⟨k, _⟩
    · exact absurd k (Ne.symm n12)
    · rw [v2]
      refine special_one p1 r2 l1 (by simp) i1 (N1A _ _) (fun D' hD => ?_)
      rcases hD with ⟨_, _, _, x, rfl⟩ | ⟨k, _⟩ | ⟨k, _⟩
      · rw [v1, ← Act.put_comm a' (ptr x) (ptr y) (fun d k1 k2 => hd (k1.trans k2.symm))]; exact last x y _ (Array.setIfInBounds_comm _ _ (Ne.symm n12))
      · exact absurd k n12
      · exact absurd k n1q
    · exact absurd k n2q

end Go.Proofs.Ytcpfabkokgiepaa
