/-
  An op of a script in its box; regions with calls that change memories; own rows of bytes.
-/
import Derived.Test.YtlcndenbnokcjaaScA
set_option linter.unusedSimpArgs false
set_option linter.unusedVariables false
namespace Go.Proofs.Ytlcndenbnokcjaa
open Go.RowKit Pl

structure OpR where
  kind : Int
  on : Int
  N : Int
  at_ : Int
  X : Int
  len : Int
  p : Int
  ad : Option Addr
  dm : Nat
  dc : Nat
  ν : Nat → Nat
def OpR.row (y : OpR) : Array Value := #[.int .i64 y.kind, .int .i64 y.on, .int .u32 y.N, .int .u64 y.at_, .int .u64 y.X, .int .i64 y.len, .int .i64 y.p, .slice y.ad y.dm y.dc]
structure OpR.Ok (y : OpR) : Prop where
  kind : -9223372036854775808 ≤ y.kind ∧ y.kind ≤ 9223372036854775807
  on : -9223372036854775808 ≤ y.on ∧ y.on ≤ 9223372036854775807
  N : 0 ≤ y.N ∧ y.N < 4294967296
  at_ : 0 ≤ y.at_ ∧ y.at_ < 18446744073709551616
  X : 0 ≤ y.X ∧ y.X < 18446744073709551616
  len : -9223372036854775808 ≤ y.len ∧ y.len ≤ 9223372036854775807
  p : -9223372036854775808 ≤ y.p ∧ y.p ≤ 9223372036854775807
  dmc : y.dm ≤ y.dc
  dcm : y.dc ≤ 140737488351232
structure Bx (u : World) (b : Nat) (y : OpR) : Prop where
  row : u.heap[b]? = some (.cells y.row 50 (0, 0))
theorem Bx.new (w : World) (y : OpR) : Bx (w.alloc (.cells y.row 50)) w.heap.size y := ⟨heap_alloc_new _ _⟩
theorem Bx.keep {u u1 : World} {b : Nat} {y : OpR} {S : Nat → Prop} (h : Bx u b y) (k : Keep S u u1) (hn : ¬ S b) : Bx u1 b y := ⟨k.get h.row hn⟩
theorem Bx.below {u u1 : World} {b : Nat} {y : OpR} (h : Bx u b y) (k : Below u.heap.size u u1) : Bx u1 b y := ⟨blk_keep h.row k⟩
theorem Bx.c {u : World} {b : Nat} {y : OpR} (h : Bx u b y) (i : Nat) {v : Value} (hv : y.row[i]? = some v) : u.cell? ⟨b, i, none⟩ = some v := by rw [cell_of_row u b i _ _ _ h.row]; exact hv
theorem Bx.c0 {u : World} {b : Nat} {y : OpR} (h : Bx u b y) : u.cell? ⟨b, 0, none⟩ = some (.int .i64 y.kind) := h.c 0 rfl
theorem Bx.c1 {u : World} {b : Nat} {y : OpR} (h : Bx u b y) : u.cell? ⟨b, 1, none⟩ = some (.int .i64 y.on) := h.c 1 rfl
theorem Bx.c2 {u : World} {b : Nat} {y : OpR} (h : Bx u b y) : u.cell? ⟨b, 2, none⟩ = some (.int .u32 y.N) := h.c 2 rfl
theorem Bx.c3 {u : World} {b : Nat} {y : OpR} (h : Bx u b y) : u.cell? ⟨b, 3, none⟩ = some (.int .u64 y.at_) := h.c 3 rfl
theorem Bx.c4 {u : World} {b : Nat} {y : OpR} (h : Bx u b y) : u.cell? ⟨b, 4, none⟩ = some (.int .u64 y.X) := h.c 4 rfl
theorem Bx.c5 {u : World} {b : Nat} {y : OpR} (h : Bx u b y) : u.cell? ⟨b, 5, none⟩ = some (.int .i64 y.len) := h.c 5 rfl
theorem Bx.c6 {u : World} {b : Nat} {y : OpR} (h : Bx u b y) : u.cell? ⟨b, 6, none⟩ = some (.int .i64 y.p) := h.c 6 rfl
theorem Bx.c7 {u : World} {b : Nat} {y : OpR} (h : Bx u b y) : u.cell? ⟨b, 7, none⟩ = some (.slice y.ad y.dm y.dc) := h.c 7 rfl
theorem isAgg_u64 (w : World) : (isAgg 34).run Try.prog w = .ok false w := by kernel_rfl

/-- A region in which the memory's call comes ahead of the reference's. -/
structure RS (W : World) (bx : Nat) (y : OpR) (a b : Option MObj) (R R' : Option MObj → Prop) (D : Nat) (u : World) : Prop where
  row : Bx u bx y
  s0 : D = 0 → Below W.heap.size W u
  s1 : D = 1 → ∃ a1, One W u a a1 ∧ R a1
  s2 : D = 2 → ∃ a1 b1 u0, One W u0 a a1 ∧ One u0 u b b1 ∧ R a1 ∧ R' b1
def stepR (p q : Nat) : Nat → Nat → Nat → Prop := fun i D D' => (i = p ∧ D = 0 ∧ D' = 1) ∨ (i = q ∧ D = 1 ∧ D' = 2)
theorem RS.start {W : World} {bx : Nat} {y : OpR} {a b : Option MObj} {R R' : Option MObj → Prop} (h : Bx W bx y) : RS W bx y a b R R' 0 W.drew := ⟨h.below (Below.refl _ _).drew, fun _ => (Below.refl _ _).drew, fun e => (by cases e), fun e => (by cases e)⟩
theorem RS.one {W u u1 : World} {bx : Nat} {y : OpR} {a b a1 : Option MObj} {R R' : Option MObj → Prop} (h : RS W bx y a b R R' 0 u) (hn : ¬ hasO a bx) (h1 : One u u1 a a1) (hr : R a1) : RS W bx y a b R R' 1 u1 :=
  ⟨h.row.keep h1.keep hn, fun e => (by cases e), fun _ => ⟨a1, h1.pre (h.s0 rfl), hr⟩, fun e => (by cases e)⟩
theorem RS.two {W u u1 : World} {bx : Nat} {y : OpR} {a b b1 : Option MObj} {R R' : Option MObj → Prop} (h : RS W bx y a b R R' 1 u) (hn : ¬ hasO b bx) (h1 : One u u1 b b1) (hr : R' b1) : RS W bx y a b R R' 2 u1 :=
  ⟨h.row.keep h1.keep hn, fun e => (by cases e), fun e => (by cases e), fun _ => by
    obtain ⟨a1, g1, g2⟩ := h.s1 rfl
    exact ⟨a1, b1, u, g1, h1, g2, hr⟩⟩
theorem RS.ma {W u : World} {bx : Nat} {y : OpR} {a b : Option MObj} {R R' : Option MObj → Prop} (h : RS W bx y a b R R' 0 u) (hp : Pr W a b) : MemO u a := hp.ha.below (h.s0 rfl)
theorem RS.mb {W u : World} {bx : Nat} {y : OpR} {a b : Option MObj} {R R' : Option MObj → Prop} (h : RS W bx y a b R R' 1 u) (hp : Pr W a b) : MemO u b := by
  obtain ⟨a1, g1, _⟩ := h.s1 rfl
  exact hp.hb.keep g1.keep (fun k hk => hp.apart k hk)
theorem RS.turned {W u : World} {bx : Nat} {y : OpR} {a b : Option MObj} {R R' : Option MObj → Prop} (h : RS W bx y a b R R' 2 u) (hp : Pr W a b) (hl : ∀ a1 b1, R a1 → R' b1 → alike a1 b1) : ∃ a1 b1, Turned W u a b a1 b1 := by
  obtain ⟨a1, b1, u0, g1, g2, r1, r2⟩ := h.s2 rfl
  exact ⟨a1, b1, hp.turn g1 g2 (hl _ _ r1 r2)⟩
theorem Pr.off {w : World} {a b : Option MObj} (h : Pr w a b) {k : Nat} (hk : w.heap.size ≤ k) : ¬ hasO a k ∧ ¬ hasO b k := ⟨fun e => by have := h.ha.lt e; omega, fun e => by have := h.hb.lt e; omega⟩
theorem Turned.own {w u u1 : World} {a b a1 b1 : Option MObj} {S : Nat → Prop} (h : Turned w u a b a1 b1) (hk : Keep S u u1) (hS : ∀ k, S k → w.heap.size ≤ k ∧ ¬ hasO a1 k ∧ ¬ hasO b1 k) : Turned w u1 a b a1 b1 :=
  ⟨⟨h.pr.ha.keep hk (fun k hs => (hS k hs).2.1), h.pr.hb.keep hk (fun k hs => (hS k hs).2.2), h.pr.like, h.pr.apart⟩, ⟨hk.os.trans h.keep.os, hk.tape.trans h.keep.tape, hk.output.trans h.keep.output, Nat.le_trans h.keep.size hk.size, fun i hi hn => (hk.block i (Nat.lt_of_lt_of_le hi h.keep.size) (fun hs => by have := (hS i hs).1; omega)).trans (h.keep.block i hi hn)⟩, h.pa, h.pb, h.newa, h.newb⟩

end Go.Proofs.Ytlcndenbnokcjaa
