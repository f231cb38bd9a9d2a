/-
  Texts NewTwo, WidB, AriHL, WidR16, WidR32, WidRN, WidRBQ.
-/
import Derived.Test.YtcpfabkokgiepaaQ02
import Derived.Test.YtcpfabkokgiepaaQ05
import Derived.Test.YtcpfabkokgiepaaQ07
import Derived.Test.YtcpfabkokgiepaaQ16
set_option linter.unusedSimpArgs false
set_option linter.unusedVariables false
set_option maxHeartbeats 8000000
open Pl
section
namespace Go.Proofs.Ytcpfabkokgiepaa
open Go.RowKit Pl
structure N2 (w0 : World) (l : List (Nat × Vec)) (X : Vec) (D : Option Nat × Option Nat × Bool) (u : World) : Prop where
 bel : Below w0.heap.size w0 u
 hold : ∀ q ∈ l, u.heap[q.1]? = some (.cells (mY q.2) 45 (0, 0))
 nb : ∀ x, D.1 = some x → u.heap[x]? = some (.cells (mY (bif D.2.2 then X else 0)) 45 (0, 0)) ∧ w0.heap.size ≤ x ∧ ∀ q ∈ l, q.1 ≠ x
 nc : ∀ y, D.2.1 = some y → u.heap[y]? = some (.cells (mY 0) 45 (0, 0)) ∧ w0.heap.size ≤ y ∧ ∀ q ∈ l, q.1 ≠ y
 ne : ∀ x y, D.1 = some x → D.2.1 = some y → x ≠ y
section
variable {w0 u u1 : World} {l : List (Nat × Vec)} {X : Vec} {D : Option Nat × Option Nat × Bool} {b c : Option Nat}
theorem N2.below (h : N2 w0 l X D u) (hb : Below u.heap.size u u1) : N2 w0 l X D u1 :=
 ⟨h.bel.trans (hb.mono h.bel.size), fun q hq => mV (h.hold q hq) hb, fun x hx => ⟨mV (h.nb x hx).1 hb, (h.nb x hx).2⟩, fun x hx => ⟨mV (h.nc x hx).1 hb, (h.nc x hx).2⟩, h.ne⟩
theorem N2.drew (h : N2 w0 l X D u) : N2 w0 l X D u.drew := ⟨h.bel.drew, h.hold, h.nb, h.nc, h.ne⟩
theorem N2.allocB (h : N2 w0 l X (none, c, false) u) : N2 w0 l X (some u.heap.size, c, false) (u.alloc (.cells (mY 0) 45)) :=
 ⟨h.bel.alloc h.bel.size _, fun q hq => mE (h.hold q hq) _, fun x hx => by
  obtain rfl : u.heap.size = x := by simpa using hx
  exact ⟨heap_alloc_new _ _, h.bel.size, fun q hq => Nat.ne_of_lt (mF (h.hold q hq))⟩, fun y hy => ⟨mE (h.nc y hy).1 _, (h.nc y hy).2⟩, fun x y hx hy => by
  obtain rfl : u.heap.size = x := by simpa using hx
  exact Nat.ne_of_gt (mF (h.nc y hy).1)⟩
theorem N2.allocC (h : N2 w0 l X (b, none, false) u) : N2 w0 l X (b, some u.heap.size, false) (u.alloc (.cells (mY 0) 45)) :=
 ⟨h.bel.alloc h.bel.size _, fun q hq => mE (h.hold q hq) _, fun x hx => ⟨mE (h.nb x hx).1 _, (h.nb x hx).2⟩, fun y hy => by
  obtain rfl : u.heap.size = y := by simpa using hy
  exact ⟨heap_alloc_new _ _, h.bel.size, fun q hq => Nat.ne_of_lt (mF (h.hold q hq))⟩, fun x y hx hy => by
  obtain rfl : u.heap.size = y := by simpa using hy
  exact Nat.ne_of_lt (mF (h.nb x hx).1)⟩
theorem N2.storeB {x : Nat} (h : N2 w0 l X (some x, c, false) u) (hs : Sets u x X u1) : N2 w0 l X (some x, c, true) u1 := by
 obtain ⟨h1, h2, h3⟩ := h.nb x rfl
 refine ⟨h.bel.trans (hs.below.mono h2), fun q hq => mR (h.hold q hq) hs (h3 q hq), fun y hy => ?_, fun y hy => ⟨mR (h.nc y hy).1 hs (Ne.symm (h.ne x y rfl hy)), (h.nc y hy).2⟩, h.ne⟩
 obtain rfl : x = y := by simpa using hy
 exact ⟨hs.this, h2, h3⟩
theorem N2.start (X : Vec) (hb : Below w0.heap.size w0 u) (hh : ∀ q ∈ l, u.heap[q.1]? = some (.cells (mY q.2) 45 (0, 0))) : N2 w0 l X (none, none, false) u :=
 ⟨hb, hh, fun x hx => (by cases hx), fun x hx => (by cases hx), fun x y hx => (by cases hx)⟩
end
def step2 (p1 p2 q : Nat) (i : Nat) (D D' : Option Nat × Option Nat × Bool) : Prop :=
 (i = p1 ∧ D.1 = none ∧ D.2.2 = false ∧ ∃ x, D' = (some x, D.2.1, false)) ∨ (i = p2 ∧ D.2.1 = none ∧ D.2.2 = false ∧ ∃ y, D' = (D.1, some y, false)) ∨ (i = q ∧ D.2.2 = false ∧ D' = (D.1, D.2.1, true))
def val2 (p1 p2 : Nat) (i : Nat) (D : Option Nat × Option Nat × Bool) : Value := if i = p1 then (match D.1 with | some x => ptr x | none => undef) else if i = p2 then (match D.2.1 with | some y => ptr y | none => undef) else undef
def check2 (ops : Array Oper) (n p1 p2 q : Nat) (order : List Nat) : Bool :=
 checkA ops n [p1, p2, q] order && decide (p1 ≠ p2) && decide (p1 ≠ q) && decide (p2 ≠ q) && decide (p1 < n) && decide (p2 < n) && decide (q < n) &&
 (Region.ready .any ops (rX (Array.replicate ops.size false) order) == [p1, p2]) && (Region.ready .any ops ((rX (Array.replicate ops.size false) order).setIfInBounds p1 true) == [p2]) && (Region.ready .any ops ((rX (Array.replicate ops.size false) order).setIfInBounds p2 true) == [p1]) &&
 (Region.ready .any ops (((rX (Array.replicate ops.size false) order).setIfInBounds p1 true).setIfInBounds p2 true) == [q]) &&
 Region.seqB .any ops (ops.size - n) n ((((rX (Array.replicate ops.size false) order).setIfInBounds p1 true).setIfInBounds p2 true).setIfInBounds q true)
theorem uZ {id : Nat} {Q : Exit → Act → World → Prop} {a : Act} {w : World} {l : List Oper} (w0 : World) (hs : List (Nat × Vec)) (X : Vec) (n p1 p2 q : Nat) (order : List Nat) (hB : check2 l.toArray n p1 p2 q order = true)
 {o1 o2 oq : Oper} (h1 : l[p1]? = some o1) (h2 : l[p2]? = some o2) (hoq : l[q]? = some oq) (g1 : o1.guard = none) (e1 : o1.op = .alloc 45) (g2 : o2.guard = none) (e2 : o2.op = .alloc 45) (hqn : oq.guard = none) (xo yo : Operand) (hqo : oq.op = .store 45 xo yo)
 (hd : o1.dst ≠ o2.dst) (hS : N2 w0 hs X (none, none, false) w.drew)
 (h : vJ Try.prog l.toArray (N2 w0 hs X) (fun a' => ∀ x y, ((a'.put o1.dst (ptr x)).put o2.dst (ptr y)).eval xo = ptr x ∧ ((a'.put o1.dst (ptr x)).put o2.dst (ptr y)).eval yo = .agg (mY X) ∧
  ∀ w', N2 w0 hs X (some x, some y, true) w' → wpList Try.prog l.toArray Q (l.drop n) (((a'.put o1.dst (ptr x)).put o2.dst (ptr y)).put oq.dst undef) w') (vW l order) a) : (Code.region id l.toArray true).wp Try.prog Q a w := by
 simp only [check2, Bool.and_eq_true, decide_eq_true_eq, beq_iff_eq] at hB
 obtain ⟨⟨⟨⟨⟨⟨⟨⟨⟨⟨⟨hA, n12⟩, n1q⟩, n2q⟩, l1⟩, l2⟩, lq⟩, r0⟩, r1⟩, r2⟩, r3⟩, hsq⟩ := hB
 refine eR (N2 w0 hs X) (step2 p1 p2 q) (val2 p1 p2) (none, none, false) n [p1, p2, q] order (by kernel_rfl) hA hS ?_
 have mono : ∀ (os : List Oper) (a : Act) (K K' : Act → Prop), (∀ a, K a → K' a) → vJ Try.prog l.toArray (N2 w0 hs X) K os a → vJ Try.prog l.toArray (N2 w0 hs X) K' os a := yT
 refine mono _ _ _ _ (fun a' h' => ?_) h
 have v1 : ∀ x c b, val2 p1 p2 p1 (some x, c, b) = ptr x := fun x c b => by simp [val2]
 have v2 : ∀ x y b, val2 p1 p2 p2 (x, some y, b) = ptr y := fun x y b => by simp [val2, Ne.symm n12]
 have vq : ∀ D, val2 p1 p2 q D = undef := fun D => by simp [val2, Ne.symm n1q, Ne.symm n2q]
 have i1 : (l.toArray)[p1]? = some o1 := by simpa using h1
 have i2 : (l.toArray)[p2]? = some o2 := by simpa using h2
 have iq : (l.toArray)[q]? = some oq := by simpa using hoq
 have N1A : ∀ (c : Option Nat) (a : Act), NewA Try.prog l.toArray (N2 w0 hs X) (step2 p1 p2 q) (val2 p1 p2) p1 (none, c, false) o1 a := fun c a => ⟨by unfold Region.wanted; rw [g1], fun w hw => ⟨(some w.heap.size, c, false), _, .inl ⟨rfl, rfl, rfl, _, rfl⟩, hw.allocB, .inl (by rw [new_run e1, v1])⟩⟩
 have N2A : ∀ (b : Option Nat) (a : Act), NewA Try.prog l.toArray (N2 w0 hs X) (step2 p1 p2 q) (val2 p1 p2) p2 (b, none, false) o2 a := fun b a => ⟨by unfold Region.wanted; rw [g2], fun w hw => ⟨(b, some w.heap.size, false), _, .inr (.inl ⟨rfl, rfl, rfl, _, rfl⟩), hw.allocC, .inl (by rw [new_run e2, v2])⟩⟩
 have last : ∀ (x y : Nat) (listed : Array Bool), listed = ((rX (Array.replicate l.toArray.size false) order).setIfInBounds p1 true).setIfInBounds p2 true →
  uJ Try.prog .any l.toArray (N2 w0 hs X) (step2 p1 p2 q) (val2 p1 p2) [p1, p2, q] n (fun D listed a' => Region.seqB .any l.toArray (l.toArray.size - n) n listed = true ∧ ∀ w', N2 w0 hs X D w' → wpList Try.prog l.toArray Q (l.drop n) a' w') 1 (some x, some y, false) listed ((a'.put o1.dst (ptr x)).put o2.dst (ptr y)) := fun x y listed hl => by
  subst hl
  obtain ⟨hx, hy, hk⟩ := h' x y
  refine sJ q r3 lq (by simp) iq ⟨by unfold Region.wanted; rw [hqn], fun w hw => ?_⟩ (fun D' hD => ?_)
  ·obtain ⟨w1, s1, s2⟩ := store_run xo yo hqo x X 0 hx hy (hw.nb x rfl).1
   exact ⟨(some x, some y, true), w1, .inr (.inr ⟨rfl, rfl, rfl⟩), hw.storeB s1, .inr ⟨s2, vq _⟩⟩
  ·rcases hD with ⟨k, _⟩ | ⟨k, _⟩ | ⟨_, _, rfl⟩
   ·exact absurd k (Ne.symm n1q)
   ·exact absurd k (Ne.symm n2q)
   ·rw [vq]; exact ⟨hsq, hk⟩
 refine ⟨by rw [r0]; simp, fun i hi => ?_⟩
 rw [r0] at hi
 rcases (show i = p1 ∨ i = p2 by simpa using hi) with rfl | rfl
 ·refine ⟨l1, .inl ⟨by simp, o1, i1, N1A none a', fun D' hD => ?_⟩⟩
  rcases hD with ⟨_, _, _, x, rfl⟩ | ⟨k, _⟩ | ⟨k, _⟩
  ·rw [v1]
   refine sJ p2 r1 l2 (by simp) i2 (N2A _ _) (fun D' hD => ?_)
   rcases hD with ⟨k, _⟩ | ⟨_, _, _, y, rfl⟩ | ⟨k, _⟩
   ·exact absurd k (Ne.symm n12)
   ·rw [v2]; exact last x y _ rfl
   ·exact absurd k n2q
  ·exact absurd k n12
  ·exact absurd k n1q
 ·refine ⟨l2, .inl ⟨by simp, o2, i2, N2A none a', fun D' hD => ?_⟩⟩
  rcases hD with ⟨k, _⟩ | ⟨_, _, _, y, rfl⟩ | ⟨k, _⟩
  ·exact absurd k (Ne.symm n12)
  ·rw [v2]
   refine sJ p1 r2 l1 (by simp) i1 (N1A _ _) (fun D' hD => ?_)
   rcases hD with ⟨_, _, _, x, rfl⟩ | ⟨k, _⟩ | ⟨k, _⟩
   ·rw [v1, ← Act.put_comm a' (ptr x) (ptr y) (fun d k1 k2 => hd (k1.trans k2.symm))]; exact last x y _ (Array.setIfInBounds_comm _ _ (Ne.symm n12))
   ·exact absurd k n12
   ·exact absurd k n1q
  ·exact absurd k n2q
end Go.Proofs.Ytcpfabkokgiepaa
end
section
namespace Go.Proofs.Ytcpfabkokgiepaa
open Go.RowKit Pl
theorem bin_narrow101 (a b : Vec) (w : World) :
 Calls Try.prog 22 #[.int .i64 64869, .agg (mY a), .agg (mY b)] w fun e w' => e = .returned (.tuple #[.agg (mY (pW 8 8 (tZ (-128) 127 16 a) (tZ (-128) 127 16 b) 8)), .int .i64 0]) ∧ Below w.heap.size w w' := by
 go_enter Try.func22, Try.ntmps22
 go_wp2_with fail
 rw [← mU]
 obtain ⟨W, hW, hA, hB, hR, hO, hZ⟩ := zD w a b
 rw [← hW]
 clear hW
 refine (s5 _ _ _ (by unfold wrap64; decide) (by unfold wrap64; decide) (by unfold wrap64; decide)).mono ?_
 rintro e w' ⟨rfl, rfl⟩
 go_wp2_with (first | (with_reducible refine mG rfl _ rfl _ rfl _ hA ?_) | (with_reducible refine mG rfl _ rfl _ rfl _ hB ?_) | (go_at_call 58; refine (narrow101 a b _).mono ?_; rintro e u2 ⟨rfl, hb⟩; have hR2 := (hb.block _ (mF hR)).trans hR) | (with_reducible refine mK rfl _ _ rfl (w.heap.size + 2) _ rfl rfl _ hR2 ?_; intro wq hq))
 exact bodyPost_ret (mS rfl _ _ (w.heap.size + 2) _ _ rfl rfl hq.this) rfl ⟨rfl, hZ.trans ((hb.mono hZ.size).trans (hq.below.mono (by omega)))⟩
theorem bin_narrow102 (a b : Vec) (w : World) :
 Calls Try.prog 22 #[.int .i64 64870, .agg (mY a), .agg (mY b)] w fun e w' => e = .returned (.tuple #[.agg (mY (pW 8 8 (tZ (0) 255 16 a) (tZ (0) 255 16 b) 8)), .int .i64 0]) ∧ Below w.heap.size w w' := by
 go_enter Try.func22, Try.ntmps22
 go_wp2_with fail
 rw [← mU]
 obtain ⟨W, hW, hA, hB, hR, hO, hZ⟩ := zD w a b
 rw [← hW]
 clear hW
 refine (s5 _ _ _ (by unfold wrap64; decide) (by unfold wrap64; decide) (by unfold wrap64; decide)).mono ?_
 rintro e w' ⟨rfl, rfl⟩
 go_wp2_with (first | (with_reducible refine mG rfl _ rfl _ rfl _ hA ?_) | (with_reducible refine mG rfl _ rfl _ rfl _ hB ?_) | (go_at_call 58; refine (narrow102 a b _).mono ?_; rintro e u2 ⟨rfl, hb⟩; have hR2 := (hb.block _ (mF hR)).trans hR) | (with_reducible refine mK rfl _ _ rfl (w.heap.size + 2) _ rfl rfl _ hR2 ?_; intro wq hq))
 exact bodyPost_ret (mS rfl _ _ (w.heap.size + 2) _ _ rfl rfl hq.this) rfl ⟨rfl, hZ.trans ((hb.mono hZ.size).trans (hq.below.mono (by omega)))⟩
theorem bin_narrow133 (a b : Vec) (w : World) :
 Calls Try.prog 22 #[.int .i64 64901, .agg (mY a), .agg (mY b)] w fun e w' => e = .returned (.tuple #[.agg (mY (pW 16 4 (tZ (-32768) 32767 32 a) (tZ (-32768) 32767 32 b) 4)), .int .i64 0]) ∧ Below w.heap.size w w' := by
 go_enter Try.func22, Try.ntmps22
 go_wp2_with fail
 rw [← mU]
 obtain ⟨W, hW, hA, hB, hR, hO, hZ⟩ := zD w a b
 rw [← hW]
 clear hW
 refine (s5 _ _ _ (by unfold wrap64; decide) (by unfold wrap64; decide) (by unfold wrap64; decide)).mono ?_
 rintro e w' ⟨rfl, rfl⟩
 go_wp2_with (first | (with_reducible refine mG rfl _ rfl _ rfl _ hA ?_) | (with_reducible refine mG rfl _ rfl _ rfl _ hB ?_) | (go_at_call 58; refine (narrow133 a b _).mono ?_; rintro e u2 ⟨rfl, hb⟩; have hR2 := (hb.block _ (mF hR)).trans hR) | (with_reducible refine mK rfl _ _ rfl (w.heap.size + 2) _ rfl rfl _ hR2 ?_; intro wq hq))
 exact bodyPost_ret (mS rfl _ _ (w.heap.size + 2) _ _ rfl rfl hq.this) rfl ⟨rfl, hZ.trans ((hb.mono hZ.size).trans (hq.below.mono (by omega)))⟩
theorem bin_narrow134 (a b : Vec) (w : World) :
 Calls Try.prog 22 #[.int .i64 64902, .agg (mY a), .agg (mY b)] w fun e w' => e = .returned (.tuple #[.agg (mY (pW 16 4 (tZ (0) 65535 32 a) (tZ (0) 65535 32 b) 4)), .int .i64 0]) ∧ Below w.heap.size w w' := by
 go_enter Try.func22, Try.ntmps22
 go_wp2_with fail
 rw [← mU]
 obtain ⟨W, hW, hA, hB, hR, hO, hZ⟩ := zD w a b
 rw [← hW]
 clear hW
 refine (s5 _ _ _ (by unfold wrap64; decide) (by unfold wrap64; decide) (by unfold wrap64; decide)).mono ?_
 rintro e w' ⟨rfl, rfl⟩
 go_wp2_with (first | (with_reducible refine mG rfl _ rfl _ rfl _ hA ?_) | (with_reducible refine mG rfl _ rfl _ rfl _ hB ?_) | (go_at_call 58; refine (narrow134 a b _).mono ?_; rintro e u2 ⟨rfl, hb⟩; have hR2 := (hb.block _ (mF hR)).trans hR) | (with_reducible refine mK rfl _ _ rfl (w.heap.size + 2) _ rfl rfl _ hR2 ?_; intro wq hq))
 exact bodyPost_ret (mS rfl _ _ (w.heap.size + 2) _ _ rfl rfl hq.this) rfl ⟨rfl, hZ.trans ((hb.mono hZ.size).trans (hq.below.mono (by omega)))⟩
end Go.Proofs.Ytcpfabkokgiepaa
end
section
namespace Go.Proofs.Ytcpfabkokgiepaa
open Go.RowKit Pl
abbrev HL (w0 : World) (l : List (Nat × Vec)) (u : World) : Prop := N1 w0 l 0 none u
theorem HL.start (w : World) : HL w [] w := N1.start 0 (Below.refl _ _) (fun q hq => by cases hq)
theorem HL.push {w0 u u1 : World} {l : List (Nat × Vec)} {v : Vec} {x : Obj} (h : HL w0 l u) (hs : Sets (u.alloc x) u.heap.size v u1) : HL w0 ((u.heap.size, v) :: l) u1 :=
 N1.start 0 (tH h.bel (Nat.le_refl _) hs) (fun q hq => by
  rcases List.mem_cons.1 hq with rfl | hq
  ·exact hs.this
  ·exact mR (mE (h.hold q hq) x) hs (Nat.ne_of_lt (mF (h.hold q hq))))
theorem HL.alloc {w0 u : World} {l : List (Nat × Vec)} (h : HL w0 l u) (x : Obj) : HL w0 l (u.alloc x) :=
 N1.start 0 (h.bel.alloc h.bel.size _) (fun q hq => mE (h.hold q hq) _)
theorem HL.three (w : World) (a b c : Vec) : HL w [(w.heap.size + 2, c), (w.heap.size + 1, b), (w.heap.size, a)] (((w.alloc (.cells (mY a) 45)).alloc (.cells (mY b) 45)).alloc (.cells (mY c) 45)) := N1.start 0 (pL _ _ _ _) (by
 simp only [List.mem_cons, List.not_mem_nil, or_false, forall_eq_or_imp, forall_eq]
 exact ⟨pK _ _ _ _, pC _ _ _ _, pB _ _ _ _⟩)
theorem HL.two (w : World) (a b : Vec) : HL w [(w.heap.size + 1, b), (w.heap.size, a)] ((w.alloc (.cells (mY a) 45)).alloc (.cells (mY b) 45)) := N1.start 0 (((Below.refl _ _).alloc (Nat.le_refl _) _).alloc (by simp) _) (by
 simp only [List.mem_cons, List.not_mem_nil, or_false, forall_eq_or_imp, forall_eq]
 exact ⟨heap_alloc2_new _ _ _, heap_alloc2_old _ _ _⟩)
end Go.Proofs.Ytcpfabkokgiepaa
end
section
namespace Go.Proofs.Ytcpfabkokgiepaa
open Go.RowKit Pl
theorem run_row16_0 (v : Vec) (w : World) :
 Calls Try.prog 77 #[.int .i64 64935, .agg (mY v)] w fun e w' => e = .returned (.tuple #[.agg (mY (mJ 0 32 (tG v 16 0) 4)), .int .i64 0]) ∧ Below w.heap.size w w' := by
 go_enter Try.func77, Try.ntmps77
 go_wp2_with fail
 rw [← mU]
 obtain ⟨W, hW, hB, hR, hO, hZ⟩ := zA w v
 rw [← hW]
 clear hW
 refine wp_loop_rounds 2 ?_
 iterate 2 (rw [rounds_succ]; go_wp2_with fail)
 go_loopw [11] (fun j wr => ∃ k : Nat, k ≤ 4 ∧ j = .int .i64 k ∧ St W (w.heap.size + 2) (mJ 0 32 (tG v 16 0) k) wr) (fun j _ => 4 - (intOf j).toNat)
 case atStart => exact xE
 case round =>
  obtain ⟨k, hk, rfl, hs⟩ := hrel
  by_cases hlt : k < 4
  ·go_wp2_with fail
   refine mN (St W (w.heap.size + 2) (mJ 0 32 (tG v 16 0) k)) 14 (by kernel_rfl) (by kernel_rfl) hs.drew ?_
   simp only [zP, zN, zM, zL]
   repeat (first | (refine zK rfl _ rfl _ rfl _ (fun u hS => hS.this) ?_) | (refine zK rfl _ rfl _ rfl _ (fun u hS => hS.kb.get hB (by omega)) ?_) | (refine z8 ?_) | (refine zZ (.int .i64 (vS true 16 v k)) 87 (c := fun u hS => by exact eV v k _ true _ (by omega) (by omega)) (r := ?_)) | (refine zZ (.agg (mY (t7 (mJ 0 32 (tG v 16 0) k) 32 k (tG v 16 0 k)))) 68 (c := fun u hS => by exact vM _ _ _ k (tG v 16 0 k) _ rfl (by rw [wrap_u64, fN 16 v k 0 (by decide) (by decide) _ (by omega)]) (by omega) (fT v 16 0 k (by decide))) (r := ?_)))
   refine mH (fun wq hq => ?_)
   go_wp2_with ((with_reducible refine mK rfl _ _ rfl (w.heap.size + 2) _ rfl rfl _ hq.this ?_; intro wz hz))
   go_roundw
   case rel => exact xA
   case measure => exact xL
  ·exact nY
theorem run_row16_1 (v : Vec) (w : World) :
 Calls Try.prog 77 #[.int .i64 64936, .agg (mY v)] w fun e w' => e = .returned (.tuple #[.agg (mY (mJ 0 32 (tG v 16 1) 4)), .int .i64 0]) ∧ Below w.heap.size w w' := by
 go_enter Try.func77, Try.ntmps77
 go_wp2_with fail
 rw [← mU]
 obtain ⟨W, hW, hB, hR, hO, hZ⟩ := zA w v
 rw [← hW]
 clear hW
 refine wp_loop_rounds 2 ?_
 iterate 2 (rw [rounds_succ]; go_wp2_with fail)
 go_loopw [11] (fun j wr => ∃ k : Nat, k ≤ 4 ∧ j = .int .i64 k ∧ St W (w.heap.size + 2) (mJ 0 32 (tG v 16 1) k) wr) (fun j _ => 4 - (intOf j).toNat)
 case atStart => exact xE
 case round =>
  obtain ⟨k, hk, rfl, hs⟩ := hrel
  by_cases hlt : k < 4
  ·go_wp2_with fail
   refine mN (St W (w.heap.size + 2) (mJ 0 32 (tG v 16 1) k)) 14 (by kernel_rfl) (by kernel_rfl) hs.drew ?_
   simp only [zP, zN, zM, zL]
   repeat (first | (refine zK rfl _ rfl _ rfl _ (fun u hS => hS.this) ?_) | (refine zK rfl _ rfl _ rfl _ (fun u hS => hS.kb.get hB (by omega)) ?_) | (refine z8 ?_) | (refine zZ (.int .i64 (vS true 16 v (4 + k))) 87 (c := fun u hS => by exact eV v (4 + k) _ true _ (by omega) (by omega)) (r := ?_)) | (refine zZ (.agg (mY (t7 (mJ 0 32 (tG v 16 1) k) 32 k (tG v 16 1 k)))) 68 (c := fun u hS => by exact vM _ _ _ k (tG v 16 1 k) _ rfl (by rw [wrap_u64, fN 16 v k 1 (by decide) (by decide) _ (by omega)]) (by omega) (fT v 16 1 k (by decide))) (r := ?_)))
   refine mH (fun wq hq => ?_)
   go_wp2_with ((with_reducible refine mK rfl _ _ rfl (w.heap.size + 2) _ rfl rfl _ hq.this ?_; intro wz hz))
   go_roundw
   case rel => exact xA
   case measure => exact xL
  ·exact nY
theorem run_row16_2 (v : Vec) (w : World) :
 Calls Try.prog 77 #[.int .i64 64937, .agg (mY v)] w fun e w' => e = .returned (.tuple #[.agg (mY (mJ 0 32 (tG v 16 2) 4)), .int .i64 0]) ∧ Below w.heap.size w w' := by
 go_enter Try.func77, Try.ntmps77
 go_wp2_with fail
 rw [← mU]
 obtain ⟨W, hW, hB, hR, hO, hZ⟩ := zA w v
 rw [← hW]
 clear hW
 refine wp_loop_rounds 2 ?_
 iterate 2 (rw [rounds_succ]; go_wp2_with fail)
 go_loopw [11] (fun j wr => ∃ k : Nat, k ≤ 4 ∧ j = .int .i64 k ∧ St W (w.heap.size + 2) (mJ 0 32 (tG v 16 2) k) wr) (fun j _ => 4 - (intOf j).toNat)
 case atStart => exact xE
 case round =>
  obtain ⟨k, hk, rfl, hs⟩ := hrel
  by_cases hlt : k < 4
  ·go_wp2_with fail
   refine mN (St W (w.heap.size + 2) (mJ 0 32 (tG v 16 2) k)) 14 (by kernel_rfl) (by kernel_rfl) hs.drew ?_
   simp only [zP, zN, zM, zL]
   repeat (first | (refine zK rfl _ rfl _ rfl _ (fun u hS => hS.this) ?_) | (refine zK rfl _ rfl _ rfl _ (fun u hS => hS.kb.get hB (by omega)) ?_) | (refine z8 ?_) | (refine zZ (.int .i64 (vS false 16 v k)) 87 (c := fun u hS => by exact eV v k _ false _ (by omega) (by omega)) (r := ?_)) | (refine zZ (.agg (mY (t7 (mJ 0 32 (tG v 16 2) k) 32 k (tG v 16 2 k)))) 68 (c := fun u hS => by exact vM _ _ _ k (tG v 16 2 k) _ rfl (by rw [wrap_u64, fM 16 v k 2 (by decide) (by decide) _ (by omega)]) (by omega) (fT v 16 2 k (by decide))) (r := ?_)))
   refine mH (fun wq hq => ?_)
   go_wp2_with ((with_reducible refine mK rfl _ _ rfl (w.heap.size + 2) _ rfl rfl _ hq.this ?_; intro wz hz))
   go_roundw
   case rel => exact xA
   case measure => exact xL
  ·exact nY
theorem run_row16_3 (v : Vec) (w : World) :
 Calls Try.prog 77 #[.int .i64 64938, .agg (mY v)] w fun e w' => e = .returned (.tuple #[.agg (mY (mJ 0 32 (tG v 16 3) 4)), .int .i64 0]) ∧ Below w.heap.size w w' := by
 go_enter Try.func77, Try.ntmps77
 go_wp2_with fail
 rw [← mU]
 obtain ⟨W, hW, hB, hR, hO, hZ⟩ := zA w v
 rw [← hW]
 clear hW
 refine wp_loop_rounds 2 ?_
 iterate 2 (rw [rounds_succ]; go_wp2_with fail)
 go_loopw [11] (fun j wr => ∃ k : Nat, k ≤ 4 ∧ j = .int .i64 k ∧ St W (w.heap.size + 2) (mJ 0 32 (tG v 16 3) k) wr) (fun j _ => 4 - (intOf j).toNat)
 case atStart => exact xE
 case round =>
  obtain ⟨k, hk, rfl, hs⟩ := hrel
  by_cases hlt : k < 4
  ·go_wp2_with fail
   refine mN (St W (w.heap.size + 2) (mJ 0 32 (tG v 16 3) k)) 14 (by kernel_rfl) (by kernel_rfl) hs.drew ?_
   simp only [zP, zN, zM, zL]
   repeat (first | (refine zK rfl _ rfl _ rfl _ (fun u hS => hS.this) ?_) | (refine zK rfl _ rfl _ rfl _ (fun u hS => hS.kb.get hB (by omega)) ?_) | (refine z8 ?_) | (refine zZ (.int .i64 (vS false 16 v (4 + k))) 87 (c := fun u hS => by exact eV v (4 + k) _ false _ (by omega) (by omega)) (r := ?_)) | (refine zZ (.agg (mY (t7 (mJ 0 32 (tG v 16 3) k) 32 k (tG v 16 3 k)))) 68 (c := fun u hS => by exact vM _ _ _ k (tG v 16 3 k) _ rfl (by rw [wrap_u64, fM 16 v k 3 (by decide) (by decide) _ (by omega)]) (by omega) (fT v 16 3 k (by decide))) (r := ?_)))
   refine mH (fun wq hq => ?_)
   go_wp2_with ((with_reducible refine mK rfl _ _ rfl (w.heap.size + 2) _ rfl rfl _ hq.this ?_; intro wz hz))
   go_roundw
   case rel => exact xA
   case measure => exact xL
  ·exact nY
end Go.Proofs.Ytcpfabkokgiepaa
end
section
namespace Go.Proofs.Ytcpfabkokgiepaa
open Go.RowKit Pl
theorem run_row32_0 (v : Vec) (w : World) :
 Calls Try.prog 77 #[.int .i64 64967, .agg (mY v)] w fun e w' => e = .returned (.tuple #[.agg (mY (mJ 0 64 (tG v 32 0) 2)), .int .i64 0]) ∧ Below w.heap.size w w' := by
 go_enter Try.func77, Try.ntmps77
 go_wp2_with fail
 rw [← mU]
 obtain ⟨W, hW, hB, hR, hO, hZ⟩ := zA w v
 rw [← hW]
 clear hW
 refine wp_loop_rounds 3 ?_
 iterate 3 (rw [rounds_succ]; go_wp2_with fail)
 go_loopw [11] (fun j wr => ∃ k : Nat, k ≤ 2 ∧ j = .int .i64 k ∧ St W (w.heap.size + 2) (mJ 0 64 (tG v 32 0) k) wr) (fun j _ => 2 - (intOf j).toNat)
 case atStart => exact xE
 case round =>
  obtain ⟨k, hk, rfl, hs⟩ := hrel
  by_cases hlt : k < 2
  ·go_wp2_with fail
   refine mN (St W (w.heap.size + 2) (mJ 0 64 (tG v 32 0) k)) 14 (by kernel_rfl) (by kernel_rfl) hs.drew ?_
   simp only [zP, zN, zM, zL]
   repeat (first | (refine zK rfl _ rfl _ rfl _ (fun u hS => hS.this) ?_) | (refine zK rfl _ rfl _ rfl _ (fun u hS => hS.kb.get hB (by omega)) ?_) | (refine z8 ?_) | (refine zZ (.int .i64 (vS true 32 v k)) 87 (c := fun u hS => by exact rlane32 v k _ true _ (by omega) (by omega)) (r := ?_)) | (refine zZ (.agg (mY (t7 (mJ 0 64 (tG v 32 0) k) 64 k (tG v 32 0 k)))) 68 (c := fun u hS => by exact vN _ _ _ k (tG v 32 0 k) _ rfl (by rw [wrap_u64, fN 32 v k 0 (by decide) (by decide) _ (by omega)]) (by omega) (fT v 32 0 k (by decide))) (r := ?_)))
   refine mH (fun wq hq => ?_)
   go_wp2_with ((with_reducible refine mK rfl _ _ rfl (w.heap.size + 2) _ rfl rfl _ hq.this ?_; intro wz hz))
   go_roundw
   case rel => exact xA
   case measure => exact xL
  ·exact nF
theorem run_row32_1 (v : Vec) (w : World) :
 Calls Try.prog 77 #[.int .i64 64968, .agg (mY v)] w fun e w' => e = .returned (.tuple #[.agg (mY (mJ 0 64 (tG v 32 1) 2)), .int .i64 0]) ∧ Below w.heap.size w w' := by
 go_enter Try.func77, Try.ntmps77
 go_wp2_with fail
 rw [← mU]
 obtain ⟨W, hW, hB, hR, hO, hZ⟩ := zA w v
 rw [← hW]
 clear hW
 refine wp_loop_rounds 3 ?_
 iterate 3 (rw [rounds_succ]; go_wp2_with fail)
 go_loopw [11] (fun j wr => ∃ k : Nat, k ≤ 2 ∧ j = .int .i64 k ∧ St W (w.heap.size + 2) (mJ 0 64 (tG v 32 1) k) wr) (fun j _ => 2 - (intOf j).toNat)
 case atStart => exact xE
 case round =>
  obtain ⟨k, hk, rfl, hs⟩ := hrel
  by_cases hlt : k < 2
  ·go_wp2_with fail
   refine mN (St W (w.heap.size + 2) (mJ 0 64 (tG v 32 1) k)) 14 (by kernel_rfl) (by kernel_rfl) hs.drew ?_
   simp only [zP, zN, zM, zL]
   repeat (first | (refine zK rfl _ rfl _ rfl _ (fun u hS => hS.this) ?_) | (refine zK rfl _ rfl _ rfl _ (fun u hS => hS.kb.get hB (by omega)) ?_) | (refine z8 ?_) | (refine zZ (.int .i64 (vS true 32 v (2 + k))) 87 (c := fun u hS => by exact rlane32 v (2 + k) _ true _ (by omega) (by omega)) (r := ?_)) | (refine zZ (.agg (mY (t7 (mJ 0 64 (tG v 32 1) k) 64 k (tG v 32 1 k)))) 68 (c := fun u hS => by exact vN _ _ _ k (tG v 32 1 k) _ rfl (by rw [wrap_u64, fN 32 v k 1 (by decide) (by decide) _ (by omega)]) (by omega) (fT v 32 1 k (by decide))) (r := ?_)))
   refine mH (fun wq hq => ?_)
   go_wp2_with ((with_reducible refine mK rfl _ _ rfl (w.heap.size + 2) _ rfl rfl _ hq.this ?_; intro wz hz))
   go_roundw
   case rel => exact xA
   case measure => exact xL
  ·exact nF
theorem run_row32_2 (v : Vec) (w : World) :
 Calls Try.prog 77 #[.int .i64 64969, .agg (mY v)] w fun e w' => e = .returned (.tuple #[.agg (mY (mJ 0 64 (tG v 32 2) 2)), .int .i64 0]) ∧ Below w.heap.size w w' := by
 go_enter Try.func77, Try.ntmps77
 go_wp2_with fail
 rw [← mU]
 obtain ⟨W, hW, hB, hR, hO, hZ⟩ := zA w v
 rw [← hW]
 clear hW
 refine wp_loop_rounds 3 ?_
 iterate 3 (rw [rounds_succ]; go_wp2_with fail)
 go_loopw [11] (fun j wr => ∃ k : Nat, k ≤ 2 ∧ j = .int .i64 k ∧ St W (w.heap.size + 2) (mJ 0 64 (tG v 32 2) k) wr) (fun j _ => 2 - (intOf j).toNat)
 case atStart => exact xE
 case round =>
  obtain ⟨k, hk, rfl, hs⟩ := hrel
  by_cases hlt : k < 2
  ·go_wp2_with fail
   refine mN (St W (w.heap.size + 2) (mJ 0 64 (tG v 32 2) k)) 14 (by kernel_rfl) (by kernel_rfl) hs.drew ?_
   simp only [zP, zN, zM, zL]
   repeat (first | (refine zK rfl _ rfl _ rfl _ (fun u hS => hS.this) ?_) | (refine zK rfl _ rfl _ rfl _ (fun u hS => hS.kb.get hB (by omega)) ?_) | (refine z8 ?_) | (refine zZ (.int .i64 (vS false 32 v k)) 87 (c := fun u hS => by exact rlane32 v k _ false _ (by omega) (by omega)) (r := ?_)) | (refine zZ (.agg (mY (t7 (mJ 0 64 (tG v 32 2) k) 64 k (tG v 32 2 k)))) 68 (c := fun u hS => by exact vN _ _ _ k (tG v 32 2 k) _ rfl (by rw [wrap_u64, fM 32 v k 2 (by decide) (by decide) _ (by omega)]) (by omega) (fT v 32 2 k (by decide))) (r := ?_)))
   refine mH (fun wq hq => ?_)
   go_wp2_with ((with_reducible refine mK rfl _ _ rfl (w.heap.size + 2) _ rfl rfl _ hq.this ?_; intro wz hz))
   go_roundw
   case rel => exact xA
   case measure => exact xL
  ·exact nF
theorem run_row32_3 (v : Vec) (w : World) :
 Calls Try.prog 77 #[.int .i64 64970, .agg (mY v)] w fun e w' => e = .returned (.tuple #[.agg (mY (mJ 0 64 (tG v 32 3) 2)), .int .i64 0]) ∧ Below w.heap.size w w' := by
 go_enter Try.func77, Try.ntmps77
 go_wp2_with fail
 rw [← mU]
 obtain ⟨W, hW, hB, hR, hO, hZ⟩ := zA w v
 rw [← hW]
 clear hW
 refine wp_loop_rounds 3 ?_
 iterate 3 (rw [rounds_succ]; go_wp2_with fail)
 go_loopw [11] (fun j wr => ∃ k : Nat, k ≤ 2 ∧ j = .int .i64 k ∧ St W (w.heap.size + 2) (mJ 0 64 (tG v 32 3) k) wr) (fun j _ => 2 - (intOf j).toNat)
 case atStart => exact xE
 case round =>
  obtain ⟨k, hk, rfl, hs⟩ := hrel
  by_cases hlt : k < 2
  ·go_wp2_with fail
   refine mN (St W (w.heap.size + 2) (mJ 0 64 (tG v 32 3) k)) 14 (by kernel_rfl) (by kernel_rfl) hs.drew ?_
   simp only [zP, zN, zM, zL]
   repeat (first | (refine zK rfl _ rfl _ rfl _ (fun u hS => hS.this) ?_) | (refine zK rfl _ rfl _ rfl _ (fun u hS => hS.kb.get hB (by omega)) ?_) | (refine z8 ?_) | (refine zZ (.int .i64 (vS false 32 v (2 + k))) 87 (c := fun u hS => by exact rlane32 v (2 + k) _ false _ (by omega) (by omega)) (r := ?_)) | (refine zZ (.agg (mY (t7 (mJ 0 64 (tG v 32 3) k) 64 k (tG v 32 3 k)))) 68 (c := fun u hS => by exact vN _ _ _ k (tG v 32 3 k) _ rfl (by rw [wrap_u64, fM 32 v k 3 (by decide) (by decide) _ (by omega)]) (by omega) (fT v 32 3 k (by decide))) (r := ?_)))
   refine mH (fun wq hq => ?_)
   go_wp2_with ((with_reducible refine mK rfl _ _ rfl (w.heap.size + 2) _ rfl rfl _ hq.this ?_; intro wz hz))
   go_roundw
   case rel => exact xA
   case measure => exact xL
  ·exact nF
end Go.Proofs.Ytcpfabkokgiepaa
end
section
namespace Go.Proofs.Ytcpfabkokgiepaa
open Go.RowKit Pl
theorem run_none0 (op : Int) (v : Vec) (w : World) (h : op < 64892) :
 Calls Try.prog 77 #[.int .i64 op, .agg (mY v)] w fun e w' => e = .returned (.tuple #[.agg (mY 0), .int .i64 1]) ∧ Below w.heap.size w w' := by
 have h1 := trivial
 exact xB
theorem run_none1 (op : Int) (v : Vec) (w : World) (h : 64896 ≤ op ∧ op < 64903) :
 Calls Try.prog 77 #[.int .i64 op, .agg (mY v)] w fun e w' => e = .returned (.tuple #[.agg (mY 0), .int .i64 1]) ∧ Below w.heap.size w w' := by
 obtain ⟨h, h1⟩ := h
 exact xB
theorem run_none2 (op : Int) (v : Vec) (w : World) (h : 64907 ≤ op ∧ op < 64935) :
 Calls Try.prog 77 #[.int .i64 op, .agg (mY v)] w fun e w' => e = .returned (.tuple #[.agg (mY 0), .int .i64 1]) ∧ Below w.heap.size w w' := by
 obtain ⟨h, h1⟩ := h
 exact xB
theorem run_none3 (op : Int) (v : Vec) (w : World) (h : 64939 ≤ op ∧ op < 64967) :
 Calls Try.prog 77 #[.int .i64 op, .agg (mY v)] w fun e w' => e = .returned (.tuple #[.agg (mY 0), .int .i64 1]) ∧ Below w.heap.size w w' := by
 obtain ⟨h, h1⟩ := h
 exact xB
theorem run_none4 (op : Int) (v : Vec) (w : World) (h : 64971 ≤ op) :
 Calls Try.prog 77 #[.int .i64 op, .agg (mY v)] w fun e w' => e = .returned (.tuple #[.agg (mY 0), .int .i64 1]) ∧ Below w.heap.size w w' := by
 have h1 := trivial
 exact xB
theorem run_none (op : Int) (v : Vec) (w : World) (h : op < 64892 ∨ (64896 ≤ op ∧ op < 64903) ∨ (64907 ≤ op ∧ op < 64935) ∨ (64939 ≤ op ∧ op < 64967) ∨ 64971 ≤ op) :
 Calls Try.prog 77 #[.int .i64 op, .agg (mY v)] w fun e w' => e = .returned (.tuple #[.agg (mY 0), .int .i64 1]) ∧ Below w.heap.size w w' := by
 rcases h with h | h | h | h | h
 ·exact run_none0 op v w h
 ·exact run_none1 op v w h
 ·exact run_none2 op v w h
 ·exact run_none3 op v w h
 ·exact run_none4 op v w h
end Go.Proofs.Ytcpfabkokgiepaa
end
section
namespace Go.Proofs.Ytcpfabkokgiepaa
open Go.RowKit Pl
set_option maxRecDepth 100000 in
theorem rbin_q15 (a b : Vec) (w : World) :
 Calls Try.prog 81 #[.int .i64 64898, .agg (mY a), .agg (mY b)] w fun e w' => e = .returned (.tuple #[.agg (mY (mJ 0 16 (uV a b) 8)), .int .i64 0]) ∧ Below w.heap.size w w' := by
 go_enter Try.func81, Try.ntmps81
 go_wp2_with fail
 rw [← mU]
 obtain ⟨W, hW, hA, hB, hR, hO, hZ⟩ := zD w a b
 rw [← hW]
 clear hW
 go_wp2_with fail
 go_loopw [14] (fun j wr => ∃ k : Nat, k ≤ 8 ∧ j = .int .i64 k ∧ St W (w.heap.size + 3) (mJ 0 16 (uV a b) k) wr) (fun j _ => 8 - (intOf j).toNat)
 case atStart => exact xE
 case round =>
  obtain ⟨k, hk, rfl, hs⟩ := hrel
  by_cases hlt : k < 8
  ·go_wp2_with fail
   refine mN (St W (w.heap.size + 3) (mJ 0 16 (uV a b) k)) 8 (by kernel_rfl) (by kernel_rfl) hs.drew ?_
   simp only [zP, zN, zM, zL]
   (refine zK rfl _ rfl _ rfl _ (fun u hS => hS.kb.get hA (by omega)) ?_)
   repeat (refine z8 ?_)
   (refine zZ (.int .i64 (sgn 16 (mT a 16 (k)))) 73 (c := fun u hS => by exact v3 a _ k _ rfl (by omega)) (r := ?_))
   (refine zK rfl _ rfl _ rfl _ (fun u hS => hS.kb.get hB (by omega)) ?_)
   repeat (refine z8 ?_)
   (refine zZ (.int .i64 (sgn 16 (mT b 16 (k)))) 73 (c := fun u hS => by exact v3 b _ k _ rfl (by omega)) (r := ?_))
   repeat (refine z8 ?_)
   refine mH (fun wq hq => ?_)
   have hb1 := rZ (mT a 16 k) (mL a 16 k)
   have hb2 := rZ (mT b 16 k) (mL b 16 k)
   have hmb := fA _ _ hb1 hb2
   obtain ⟨p, hp⟩ : ∃ p, p = sgn 16 (mT a 16 k) * sgn 16 (mT b 16 k) := ⟨_, rfl⟩
   rw [← hp] at hmb ⊢
   have Hp := Lib.hid hp
   clear hb1 hb2 hp
   have e1 : IntKind.i64.wrap (IntKind.i64.wrap p + 16384) = p + 16384 := by rw [IntWalk.i64_in p (by omega), IntWalk.i64_in _ (by omega)]
   rw [e1]
   by_cases hm : p + 16384 < 0
   ·go_wp2_with fail
    ·rename_i ht
     have Ht := Lib.hid (rq_neg (p + 16384) (by omega) hm ht)
     exact wL
    ·rename_i ht
     have Ht := Lib.hid (rq_neg0 (p + 16384) ht)
     exact wL
   ·have Ht := Lib.hid (rq_pos (p + 16384) hm)
    go_wp2_with fail
    ·skip
     refine mN (St W (w.heap.size + 3) (mJ 0 16 (uV a b) k)) 5 (by kernel_rfl) (by kernel_rfl) hq.drew ?_
     simp only [zP, zN, zM, zL]
     (refine zK rfl _ rfl _ rfl _ (fun u hS => hS.this) ?_)
     repeat (refine z8 ?_)
     (refine zZ (.int .u64 (uV a b k : Nat)) 89 (c := fun u hS => by exact rhold16s _ _ (uV a b k) _ (by first | exact Ht.out | rfl) (rq_fold a b k p Hp.out)) (r := ?_))
     (refine zZ (.agg (mY (t7 (mJ 0 16 (uV a b) k) 16 k (uV a b k)))) 68 (c := fun u hS => by exact v4 _ _ _ k (uV a b k) _ rfl rfl (by omega) (tR _)) (r := ?_))
     refine mH (fun wr2 hr => ?_)
     go_wp2_with ((with_reducible refine mK rfl _ _ rfl (w.heap.size + 3) _ rfl rfl _ hr.this ?_; intro wy hy))
     go_roundw
     case rel => exact xD
     case measure => exact xL
  ·exact nN
end Go.Proofs.Ytcpfabkokgiepaa
end
