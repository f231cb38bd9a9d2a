/-
  Scripts of plaitlaw10: a memory and the reference's beside it, or none of both; six slots of memories.
-/
import Derived.Test.YtlcndenbnokcjaaMemRG
import Derived.Test.YtlcndenbnokcjaaMemE
import Derived.Test.YtlcndenbnokcjaaDoP
import Derived.Test.YtlcndenbnokcjaaDoG
set_option linter.unusedSimpArgs false
set_option linter.unusedVariables false
namespace Go.Proofs.Ytlcndenbnokcjaa
open Go.RowKit Pl

theorem do_ldc {ops : Array Oper} {S : World → Prop} {L : Act → Prop} {o : Oper} {rest : List Oper} {a : Act} (hg : Region.wanted o (yielded ops a.tmps) = true) (T : TypeId) (ha : ∀ w, (isAgg T).run Try.prog w = .ok false w) (x : Operand) (ho : o.op = .load T x) (g j : Nat)
    (hx : a.eval x = .pointer (some ⟨g, j, none⟩)) (z : Value) (h : ∀ w, S w → w.cell? ⟨g, j, none⟩ = some z)
    (hr : wpD Try.prog ops S L rest (a.put o.dst z)) : wpD Try.prog ops S L (o :: rest) a :=
  wpD_hereg hg (fun w hS => by
    have ha := ha w
    unfold execOp
    simp only [ho, hx, Instr.loadAt, Instr.sureAddr, Sem.run_bind, Sem.run_pure, Result.andThen_ok]
    simp [loadVar, Sem.run_bind, ha, h w hS, go_sem]) hr
theorem do_conv {ops : Array Oper} {S : World → Prop} {L : Act → Prop} {o : Oper} {rest : List Oper} {a : Act} (hg : Region.wanted o (yielded ops a.tmps) = true) (x : Operand) (s d : TypeId) (ho : o.op = .convert s d x)
    (v : Value) (hx : a.eval x = v) (v1 : Value) (h : ∀ w, S w → (convert s d v).run Try.prog w = .ok v1 w) (hr : wpD Try.prog ops S L rest (a.put o.dst v1)) : wpD Try.prog ops S L (o :: rest) a :=
  wpD_hereg hg (fun w hS => by simp [execOp, ho, hx, h w hS, Result.andThen]) hr
theorem isAgg_bytes (w : World) : (isAgg 48).run Try.prog w = .ok false w := by kernel_rfl
theorem rpages_z (o : MObj) (w : World) (h : MemAt w o) (k : Int) (hk : ((o.n / 65536 : Nat) : Int) = k) :
    Calls Try.prog 16 #[.pointer (some ⟨o.p, 0, none⟩)] w fun e w' => e = .returned (.int .i64 k) ∧ w' = w := by
  rw [← hk]
  exact rpages_k o w h
theorem mem_piece {w : World} {o : MObj} (h : MemAt w o) (b : Nat) (hb : o.q = some b) (s m : Nat) (hs : s + m ≤ o.n) : BView w (.slice (some ⟨b, s, none⟩) m (o.c - s)) m (fun j => o.β (s + j)) := by
  have hr := h.row
  rw [hb] at hr
  exact BView.piece hr s m _ hs
theorem run_ldc {o : Oper} {a : Act} {w : World} (T : TypeId) (ha : ∀ w, (isAgg T).run Try.prog w = .ok false w) (x : Operand) (ho : o.op = .load T x) (g j : Nat) (hx : a.eval x = .pointer (some ⟨g, j, none⟩)) (z : Value) (h : w.cell? ⟨g, j, none⟩ = some z) :
    (execOp a.eval o).run Try.prog w = .ok (.value z) w := by
  have ha := ha w
  unfold execOp
  simp only [ho, hx, Instr.loadAt, Instr.sureAddr, Sem.run_bind, Sem.run_pure, Result.andThen_ok]
  simp [loadVar, Sem.run_bind, ha, h, go_sem]
theorem isAgg_u32 (w : World) : (isAgg 32).run Try.prog w = .ok false w := by kernel_rfl
theorem isAgg_int (w : World) : (isAgg 3).run Try.prog w = .ok false w := by kernel_rfl
theorem rpoke_k (o : MObj) (w : World) (h : MemAt w o) (at_ m c : Nat) (ad : Option Addr) (ν : Nat → Nat) (hv : BView w (.slice ad m c) m ν) (hmc : m ≤ c) (ha : at_ < 18446744073709551616) (hm : m ≤ 9223372036854775807) (hb0 : 0 < m → ∀ g, ad = some g → ¬ o.has g.block) :
    Calls Try.prog 37 #[.pointer (some ⟨o.p, 0, none⟩), .int .u64 (at_ : Nat), .slice ad m c] w fun e w' => e = .returned (.int .i64 (pokeE o.n at_ m)) ∧ MemAt w' (withβ o (pokeB o at_ m ν)) ∧ Keep (fun k => o.q = some k) w w' := by
  obtain ⟨ad', c', he, hx⟩ := hv.ex
  injection he with e1 e2 e3
  subst e1 e3
  unfold pokeE pokeB
  by_cases hn : at_ + m ≤ o.n
  · rw [if_pos hn, if_pos hn]
    by_cases h0 : m = 0
    · subst h0
      refine (rpoke_none o w h at_ c ad (by omega)).mono ?_
      rintro e u ⟨rfl, rfl⟩
      refine ⟨rfl, ?_, Keep.refl _ _⟩
      have e : putB o.β at_ 0 ν = o.β := by
        funext i
        unfold putB
        rw [if_neg (by omega)]
      rw [e]
      exact h
    · obtain ⟨b, off, rfl, hc⟩ := hx.resolve_left h0
      exact rpoke_some o w h at_ m c b off ν (by omega) hmc hc hv.lt hn (hb0 (by omega) _ rfl)
  · rw [if_neg hn, if_neg hn]
    refine (rpoke_err o w h at_ m c ad ha hm hn).mono ?_
    rintro e u ⟨rfl, rfl⟩
    exact ⟨rfl, h, Keep.refl _ _⟩

/-- What a slot holds, as a pointer. -/
def ptrO : Option MObj → Value
  | none => .pointer none
  | some x => .pointer (some ⟨x.p, 0, none⟩)
def hasO (o : Option MObj) (k : Nat) : Prop := ∃ x, o = some x ∧ x.has k
structure MemO (u : World) (o : Option MObj) : Prop where
  mem : ∀ x, o = some x → MemAt u x
theorem MemO.none (u : World) : MemO u none := ⟨fun _ h => (by cases h)⟩
theorem MemO.some {u : World} {x : MObj} (h : MemAt u x) : MemO u (some x) := ⟨fun _ e => (by cases e; exact h)⟩
theorem MemO.lt {u : World} {o : Option MObj} (h : MemO u o) {k : Nat} (hk : hasO o k) : k < u.heap.size := by
  obtain ⟨x, e, hx⟩ := hk
  exact (h.mem x e).has_lt hx
theorem MemO.keep {u u1 : World} {o : Option MObj} (h : MemO u o) {S : Nat → Prop} (hk : Keep S u u1) (hS : ∀ k, S k → ¬ hasO o k) : MemO u1 o := ⟨fun x e => (h.mem x e).keep hk (fun b hb hs => hS b hs ⟨x, e, hb⟩)⟩
theorem MemO.below {u u1 : World} {o : Option MObj} (h : MemO u o) (hb : Below u.heap.size u u1) : MemO u1 o := ⟨fun x e => (h.mem x e).below hb⟩
/-- One memory's turn. -/
structure One (u u1 : World) (o o1 : Option MObj) : Prop where
  mem : MemO u1 o1
  keep : Keep (hasO o) u u1
  ptr : ptrO o1 = ptrO o
  news : ∀ k, hasO o1 k → hasO o k ∨ u.heap.size ≤ k
theorem One.same {u : World} {o : Option MObj} (h : MemO u o) : One u u o o := ⟨h, Keep.refl _ _, rfl, fun _ h => .inl h⟩
theorem One.pre {w u u1 : World} {o o1 : Option MObj} (hb : Below w.heap.size w u) (h : One u u1 o o1) : One w u1 o o1 :=
  ⟨h.mem, (Keep.of_below hb).trans h.keep, h.ptr, fun k hk => (h.news k hk).imp id (Nat.le_trans hb.size)⟩
theorem One.of {u u1 : World} {x x1 : MObj} (h : MemAt u1 x1) (hk : Keep x.has u u1) (hp : x1.p = x.p) (hn : ∀ k, x1.has k → x.has k ∨ u.heap.size ≤ k) : One u u1 (some x) (some x1) :=
  ⟨MemO.some h, hk.mono fun k _ e => ⟨x, rfl, e⟩, by simp [ptrO, hp], fun k hk => by
    obtain ⟨y, e, hy⟩ := hk
    cases e
    exact (hn k hy).imp (fun e => ⟨x, rfl, e⟩) id⟩
theorem One.bytes {u u1 : World} {x : MObj} {γ : Nat → Nat} (h : MemAt u1 (withβ x γ)) (hk : Keep (fun k => x.q = some k) u u1) : One u u1 (some x) (some (withβ x γ)) :=
  One.of h (hk.mono fun k _ e => .inr e) rfl (fun k h => .inl h)

/-- Both hold the like. -/
def alike (a b : Option MObj) : Prop := match a, b with
  | none, none => True
  | some m, some r => m.T = 86 ∧ r.T = 88 ∧ r.n = m.n ∧ r.β = m.β ∧ r.most = m.most
  | _, _ => False
structure Pr (u : World) (a b : Option MObj) : Prop where
  ha : MemO u a
  hb : MemO u b
  like : alike a b
  apart : ∀ k, hasO a k → ¬ hasO b k
/-- The pair has become another one, in the same place. -/
structure Turned (w w1 : World) (a b a1 b1 : Option MObj) : Prop where
  pr : Pr w1 a1 b1
  keep : Keep (fun k => hasO a k ∨ hasO b k) w w1
  pa : ptrO a1 = ptrO a
  pb : ptrO b1 = ptrO b
  newa : ∀ k, hasO a1 k → hasO a k ∨ w.heap.size ≤ k
  newb : ∀ k, hasO b1 k → hasO b k ∨ w.heap.size ≤ k
theorem Pr.below {u u1 : World} {a b : Option MObj} (h : Pr u a b) (hb : Below u.heap.size u u1) : Pr u1 a b := ⟨h.ha.below hb, h.hb.below hb, h.like, h.apart⟩
theorem Turned.of_below {w w1 : World} {a b : Option MObj} (h : Pr w a b) (hb : Below w.heap.size w w1) : Turned w w1 a b a b :=
  ⟨h.below hb, Keep.of_below hb, rfl, rfl, fun _ h => .inl h, fun _ h => .inl h⟩
theorem Pr.turn {u u1 u2 : World} {a b a1 b1 : Option MObj} (h : Pr u a b) (h1 : One u u1 a a1) (h2 : One u1 u2 b b1) (hl : alike a1 b1) : Turned u u2 a b a1 b1 := by
  have hb1 : MemO u1 b := h.hb.keep h1.keep (fun k hk => h.apart k hk)
  have na : ∀ k, hasO a1 k → ¬ hasO b k := fun k hk hb => by
    rcases h1.news k hk with h3 | h3
    · exact h.apart k h3 hb
    · have := h.hb.lt hb; omega
  refine ⟨⟨h1.mem.keep h2.keep (fun k hk hx => na k hx hk), h2.mem, hl, fun k hk hx => ?_⟩, (h1.keep.mono fun k _ e => .inl e).trans (h2.keep.mono fun k _ e => .inr e), h1.ptr, h2.ptr, h1.news, fun k hk => (h2.news k hk).imp id (Nat.le_trans h1.keep.size)⟩
  rcases h2.news k hx with h3 | h3
  · exact na k hk h3
  · have := h1.mem.lt hk; omega
theorem Turned.pre {w u u1 : World} {a b a1 b1 : Option MObj} (hb : Below w.heap.size w u) (h : Turned u u1 a b a1 b1) : Turned w u1 a b a1 b1 :=
  ⟨h.pr, (Keep.of_below hb).trans h.keep, h.pa, h.pb, fun k hk => (h.newa k hk).imp id (Nat.le_trans hb.size), fun k hk => (h.newb k hk).imp id (Nat.le_trans hb.size)⟩
theorem Turned.post {w u u1 : World} {a b a1 b1 : Option MObj} (h : Turned w u a b a1 b1) (hb : Below u.heap.size u u1) : Turned w u1 a b a1 b1 :=
  ⟨h.pr.below hb, h.keep.trans (Keep.of_below hb), h.pa, h.pb, h.newa, h.newb⟩

/-! ### the calls, of a pair -/
theorem pages_pair (a b : Option MObj) (hl : alike a b) : ∃ V : Int, (∀ u, MemO u a → Calls Try.prog 15 #[ptrO a] u fun e u' => e = .returned (.int .i64 V) ∧ u' = u) ∧
    (∀ u, MemO u b → Calls Try.prog 16 #[ptrO b] u fun e u' => e = .returned (.int .i64 V) ∧ u' = u) := by
  cases a with
  | none =>
    cases b with
    | none => exact ⟨0, fun u _ => pages_nil u, fun u _ => rpages_nil u⟩
    | some r => exact hl.elim
  | some m =>
    cases b with
    | none => exact hl.elim
    | some r =>
      obtain ⟨_, _, hn, _, _⟩ := hl
      exact ⟨_, fun u h => pages_k m u (h.mem m rfl), fun u h => by have := rpages_k r u (h.mem r rfl); rw [hn] at this; exact this⟩
theorem load_pair (a b : Option MObj) (hl : alike a b) (at_ n : Int) (ha : 0 ≤ at_ ∧ at_ < 18446744073709551616) (hm : -9223372036854775808 ≤ n ∧ n ≤ 9223372036854775807) : ∃ X E : Int,
    (∀ u, MemO u a → Calls Try.prog 19 #[ptrO a, .int .u64 at_, .int .i64 n] u fun e u' => e = .returned (.tuple #[.int .u64 X, .int .i64 E]) ∧ u' = u) ∧
    (∀ u, MemO u b → Calls Try.prog 46 #[ptrO b, .int .u64 at_, .int .i64 n] u fun e u' => e = .returned (.tuple #[.int .u64 X, .int .i64 E]) ∧ u' = u) := by
  obtain ⟨k, rfl⟩ := Int.eq_ofNat_of_zero_le ha.1
  cases a with
  | none =>
    cases b with
    | none => exact ⟨0, 2, fun u _ => load_nil u _ _, fun u _ => rload_nil u _ _⟩
    | some r => exact hl.elim
  | some m =>
    cases b with
    | none => exact hl.elim
    | some r =>
      obtain ⟨_, _, hn, hβ, _⟩ := hl
      refine ⟨_, _, fun u h => load_k m u (h.mem m rfl) k n (by omega) hm, fun u h => ?_⟩
      have := rload_k r u (h.mem r rfl) k n (by omega) hm
      have e : loadX r k n = loadX m k n := by unfold loadX; rw [hn, hβ]
      rw [e, hn] at this
      exact this
theorem store_pair (a b : Option MObj) (hl : alike a b) (at_ n x : Int) (ha : 0 ≤ at_ ∧ at_ < 18446744073709551616) (hm : -9223372036854775808 ≤ n ∧ n ≤ 9223372036854775807) (hx : 0 ≤ x ∧ x < 18446744073709551616) : ∃ (V : Int) (a1 b1 : Option MObj), alike a1 b1 ∧
    (∀ u, MemO u a → Calls Try.prog 17 #[ptrO a, .int .u64 at_, .int .i64 n, .int .u64 x] u fun e u' => e = .returned (.int .i64 V) ∧ One u u' a a1) ∧
    (∀ u, MemO u b → Calls Try.prog 47 #[ptrO b, .int .u64 at_, .int .i64 n, .int .u64 x] u fun e u' => e = .returned (.int .i64 V) ∧ One u u' b b1) := by
  obtain ⟨k, rfl⟩ := Int.eq_ofNat_of_zero_le ha.1
  obtain ⟨y, rfl⟩ := Int.eq_ofNat_of_zero_le hx.1
  cases a with
  | none =>
    cases b with
    | none => exact ⟨2, none, none, trivial, fun u h => (store_nil u _ _ _).mono fun e u' ⟨h1, h2⟩ => ⟨h1, by rw [h2]; exact One.same h⟩, fun u h => (rstore_nil u _ _ _).mono fun e u' ⟨h1, h2⟩ => ⟨h1, by rw [h2]; exact One.same h⟩⟩
    | some r => exact hl.elim
  | some m =>
    cases b with
    | none => exact hl.elim
    | some r =>
      obtain ⟨t1, t2, hn, hβ, hmo⟩ := hl
      have e : storeB r k n y = storeB m k n y := by unfold storeB; rw [hn, hβ]
      refine ⟨mayE m.n k n, some (withβ m (storeB m k n y)), some (withβ r (storeB m k n y)), ⟨t1, t2, hn, rfl, hmo⟩, fun u h => (store_k m u (h.mem m rfl) k n y (by omega) hm).mono fun e u' ⟨h1, h2, h3⟩ => ⟨h1, One.bytes h2 h3⟩, fun u h => ?_⟩
      have := rstore_k r u (h.mem r rfl) k n y (by omega) (by omega) hm
      rw [e, hn] at this
      exact this.mono fun e u' ⟨h1, h2, h3⟩ => ⟨h1, One.bytes h2 h3⟩
theorem grow_pair (a b : Option MObj) (hl : alike a b) (x : Int) (hx : 0 ≤ x ∧ x < 4294967296) : ∃ (V : Int) (R R' : Option MObj → Prop), (∀ a1 b1, R a1 → R' b1 → alike a1 b1) ∧
    (∀ u, MemO u a → Calls Try.prog 18 #[ptrO a, .int .u32 x] u fun e u' => e = .returned (.int .u32 V) ∧ ∃ a1, One u u' a a1 ∧ R a1) ∧
    (∀ u, MemO u b → Calls Try.prog 45 #[ptrO b, .int .u32 x] u fun e u' => e = .returned (.int .u32 V) ∧ ∃ b1, One u u' b b1 ∧ R' b1) := by
  obtain ⟨y, rfl⟩ := Int.eq_ofNat_of_zero_le hx.1
  cases a with
  | none =>
    cases b with
    | none => exact ⟨4294967295, fun a => a = none, fun a => a = none, (by rintro _ _ rfl rfl; exact trivial), fun u h => (grow_nil u _).mono fun e u' ⟨h1, h2⟩ => ⟨h1, none, by rw [h2]; exact One.same h, rfl⟩, fun u h => (rgrow_nil u _).mono fun e u' ⟨h1, h2⟩ => ⟨h1, none, by rw [h2]; exact One.same h, rfl⟩⟩
    | some r => exact hl.elim
  | some m =>
    cases b with
    | none => exact hl.elim
    | some r =>
      have hl0 := hl
      obtain ⟨t1, t2, hn, hβ, hmo⟩ := hl
      by_cases hc : (y : Int) + (m.n / 65536 : Nat) ≤ ceilOf m.most
      · refine ⟨((m.n / 65536 : Nat) : Int), fun a => ∃ q1 c1, a = some (grownO m q1 c1 y), fun b => ∃ q1 c1, b = some (grownO r q1 c1 y), ?_, fun u h => ?_, fun u h => ?_⟩
        · rintro _ _ ⟨q, c, rfl⟩ ⟨q', c', rfl⟩
          exact ⟨t1, t2, by show r.n + _ = m.n + _; rw [hn], by show joinB r.n r.β (fun _ => 0) = joinB m.n m.β (fun _ => 0); rw [hn, hβ], hmo⟩
        · refine (grow_ok m u (h.mem m rfl) y (by omega) hc).mono ?_
          rintro e u' ⟨h1, q1, c1, h2, h3, h4⟩
          refine ⟨h1, _, One.of h2 h3 rfl (fun k hk => ?_), q1, c1, rfl⟩
          rcases hk with hk | hk
          · exact .inl (.inl hk)
          · rcases h4 with h4 | ⟨b, h4, h5⟩
            · exact .inl (.inr (by rw [← h4]; exact hk))
            · have e1 : q1 = some k := hk
              rw [h4] at e1; cases e1
              exact .inr h5
        · have := rgrow_ok r u (h.mem r rfl) y (by omega) (by rw [hn, hmo]; exact hc)
          rw [hn] at this
          refine this.mono ?_
          rintro e u' ⟨h1, q1, c1, h2, h3, h4⟩
          refine ⟨h1, _, One.of h2 h3 rfl (fun k hk => ?_), q1, c1, rfl⟩
          rcases hk with hk | hk
          · exact .inl (.inl hk)
          · exact .inr (h4 k hk)
      · refine ⟨4294967295, fun a => a = some m, fun b => b = some r, (by rintro _ _ rfl rfl; exact hl0), fun u h => ?_, fun u h => ?_⟩
        · exact (grow_no m u (h.mem m rfl) y (by omega) hc).mono fun e u' ⟨h1, h2⟩ => ⟨h1, _, by rw [h2]; exact One.same h, rfl⟩
        · exact (rgrow_no r u (h.mem r rfl) y (by omega) (by rw [hn, hmo]; exact hc)).mono fun e u' ⟨h1, h2⟩ => ⟨h1, _, by rw [h2]; exact One.same h, rfl⟩
theorem Peeked.mem {w w1 : World} {v : Value} {k : Nat} {ν : Nat → Nat} (h : Peeked w w1 v k ν) : Below w.heap.size w w1 := h.bel
theorem peek_pair (a b : Option MObj) (hl : alike a b) (p n : Int) (hp : -9223372036854775808 ≤ p ∧ p ≤ 9223372036854775807) (hm : -9223372036854775808 ≤ n ∧ n ≤ 9223372036854775807) : ∃ (E : Int) (k : Nat) (ν : Nat → Nat), k ≤ 4096 ∧
    (∀ u, MemO u a → Calls Try.prog 26 #[ptrO a, .int .i64 p, .int .i64 n] u fun e u' => ∃ v, e = .returned (.tuple #[v, .int .i64 E]) ∧ Peeked u u' v k ν) ∧
    (∀ u, MemO u b → Calls Try.prog 48 #[ptrO b, .int .i64 p, .int .i64 n] u fun e u' => ∃ v, e = .returned (.tuple #[v, .int .i64 E]) ∧ Peeked u u' v k ν) := by
  cases a with
  | none =>
    cases b with
    | none => exact ⟨2, 0, fun _ => 0, by decide, fun u _ => (peek_nil u _ _).mono fun e u' ⟨h1, h2⟩ => ⟨_, h1, by rw [h2]; exact Peeked.nil _ _⟩, fun u _ => (rpeek_nil u _ _).mono fun e u' ⟨h1, h2⟩ => ⟨_, h1, by rw [h2]; exact Peeked.nil _ _⟩⟩
    | some r => exact hl.elim
  | some m =>
    cases b with
    | none => exact hl.elim
    | some r =>
      obtain ⟨_, _, hn, hβ, _⟩ := hl
      by_cases he : peekE m.n p n = 0
      · have h3 : 0 ≤ p ∧ 0 ≤ n ∧ n ≤ 4096 ∧ p + n ≤ m.n := by
          unfold peekE at he
          by_cases c1 : p < 0 ∨ n < 0 ∨ 4096 < n
          · rw [if_pos c1] at he; cases he
          · rw [if_neg c1] at he
            by_cases c2 : p + n ≤ m.n
            · omega
            · rw [if_neg c2] at he; cases he
        obtain ⟨x, rfl⟩ := Int.eq_ofNat_of_zero_le h3.1
        obtain ⟨k, rfl⟩ := Int.eq_ofNat_of_zero_le h3.2.1
        refine ⟨0, k, fun j => m.β (x + j), by omega, fun u h => peek_k m u (h.mem m rfl) x k (by omega) (by omega), fun u h => ?_⟩
        have := rpeek_k r u (h.mem r rfl) x k (by omega) (by omega)
        rw [hβ] at this
        exact this
      · refine ⟨peekE m.n p n, 0, fun _ => 0, by decide, fun u h => (peek_err m u (h.mem m rfl) p n hp hm he).mono fun e u' ⟨h1, h2⟩ => ⟨_, h1, by rw [h2]; exact Peeked.nil _ _⟩, fun u h => ?_⟩
        have := rpeek_err r u (h.mem r rfl) p n hp hm (by rw [hn]; exact he)
        rw [hn] at this
        exact this.mono fun e u' ⟨h1, h2⟩ => ⟨_, h1, by rw [h2]; exact Peeked.nil _ _⟩
theorem poke_pair (a b : Option MObj) (hl : alike a b) (at_ : Int) (m : Nat) (ν : Nat → Nat) (ha : 0 ≤ at_ ∧ at_ < 18446744073709551616) (hm : m ≤ 9223372036854775807) : ∃ (V : Int) (a1 b1 : Option MObj), alike a1 b1 ∧
    (∀ u v, MemO u a → BView u v m ν → Calls Try.prog 25 #[ptrO a, .int .u64 at_, v] u fun e u' => e = .returned (.int .i64 V) ∧ One u u' a a1) ∧
    (∀ u ad c, MemO u b → BView u (.slice ad m c) m ν → m ≤ c → (0 < m → ∀ g, ad = some g → ¬ hasO b g.block) → Calls Try.prog 37 #[ptrO b, .int .u64 at_, .slice ad m c] u fun e u' => e = .returned (.int .i64 V) ∧ One u u' b b1) := by
  obtain ⟨k, rfl⟩ := Int.eq_ofNat_of_zero_le ha.1
  cases a with
  | none =>
    cases b with
    | none => exact ⟨2, none, none, trivial, fun u v h _ => (poke_nil u _ _).mono fun e u' ⟨h1, h2⟩ => ⟨h1, by rw [h2]; exact One.same h⟩, fun u ad c h _ _ _ => (rpoke_nil u _ _).mono fun e u' ⟨h1, h2⟩ => ⟨h1, by rw [h2]; exact One.same h⟩⟩
    | some r => exact hl.elim
  | some o =>
    cases b with
    | none => exact hl.elim
    | some r =>
      obtain ⟨t1, t2, hn, hβ, hmo⟩ := hl
      have e : pokeB r k m ν = pokeB o k m ν := by unfold pokeB; rw [hn, hβ]
      refine ⟨pokeE o.n k m, some (withβ o (pokeB o k m ν)), some (withβ r (pokeB o k m ν)), ⟨t1, t2, hn, rfl, hmo⟩, fun u v h hv => (poke_k o u (h.mem o rfl) k m v ν hv (by omega) hm).mono fun e u' ⟨h1, h2, h3⟩ => ⟨h1, One.bytes h2 h3⟩, fun u ad c h hv hmc hg => ?_⟩
      have := rpoke_k r u (h.mem r rfl) k m c ad ν hv hmc (by omega) hm (fun h0 g hg1 hh => hg h0 g hg1 ⟨r, rfl, hh⟩)
      rw [e, hn] at this
      exact this.mono fun e u' ⟨h1, h2, h3⟩ => ⟨h1, One.bytes h2 h3⟩
end Go.Proofs.Ytlcndenbnokcjaa
