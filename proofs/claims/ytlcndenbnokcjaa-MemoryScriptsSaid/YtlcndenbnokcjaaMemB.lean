/-
  Contracts of memory: New, Clone, Grow, Peek, Poke.
-/
import Derived.Test.YtlcndenbnokcjaaMemA
set_option linter.unusedSimpArgs false
set_option linter.unusedVariables false
namespace Go.Proofs.Ytlcndenbnokcjaa
open Go.RowKit Pl

/-- A value that reads as the m bytes ν. -/
structure BView (w : World) (v : Value) (m : Nat) (ν : Nat → Nat) : Prop where
  ex : ∃ ad c, v = .slice ad m c ∧ (m = 0 ∨ ∃ b off, ad = some ⟨b, off, none⟩ ∧ ∀ j, j < m → w.cell? ⟨b, off + j, none⟩ = some (.int .u8 (ν j : Nat)))
  lt : ∀ j, j < m → ν j < 256
theorem BView.cells {w : World} {b off m : Nat} {ν : Nat → Nat} (h : ∀ j, j < m → w.cell? ⟨b, off + j, none⟩ = some (.int .u8 (ν j : Nat))) : ∀ j u, (byteRow m ν)[j]? = some u → w.cell? ((⟨b, off, none⟩ : Addr).add j) = some u := by
  intro j u hu
  have hj : j < m := by
    rcases Nat.lt_or_ge j m with h1 | h1
    · exact h1
    · rw [List.getElem?_eq_none (by rw [length_byteRow]; exact h1)] at hu; cases hu
  rw [get_byteRow _ _ _ hj] at hu
  cases hu
  rw [Addr.add_lit]
  exact h j hj
theorem BView.src {w : World} {v : Value} {m : Nat} {ν : Nat → Nat} (h : BView w v m ν) : Src Try.prog 1 48 v m (byteRow m ν) w := by
  obtain ⟨ad, c, rfl, h0 | ⟨b, off, rfl, hc⟩⟩ := h.ex
  · subst h0
    cases ad with
    | none => exact Src.ofNil w under_bytes c
    | some a => exact Src.ofSlice w under_bytes a 0 c [] rfl (by simp) (by simp)
  · exact Src.ofSlice w under_bytes _ m c _ (by rw [length_byteRow, Nat.mul_one]) (BView.cells hc) (one_byteRow _ _)
theorem BView.row {w : World} {q : Option Nat} {n c : Nat} {β : Nat → Nat} (h : RowAt w q n c β) : BView w (.slice (headOf q) n c) n β :=
  ⟨⟨_, _, rfl, by
    cases q with
    | none => exact .inl h.1
    | some b => exact .inr ⟨b, 0, rfl, fun j hj => by rw [Nat.zero_add]; exact BytesAt.cell h hj⟩⟩, h.lt⟩
theorem BView.keep {w w1 : World} {v : Value} {m : Nat} {ν : Nat → Nat} (h : BView w v m ν) {S : Nat → Prop} (k : Keep S w w1) (hn : ∀ ad n c, v = .slice (some ad) n c → ¬ S ad.block) : BView w1 v m ν := by
  obtain ⟨ad, c, rfl, h0 | ⟨b, off, rfl, hc⟩⟩ := h.ex
  · exact ⟨⟨ad, c, rfl, .inl h0⟩, h.lt⟩
  · refine ⟨⟨_, c, rfl, .inr ⟨b, off, rfl, fun j hj => ?_⟩⟩, h.lt⟩
    have h1 := hc j hj
    have hb : b < w.heap.size := by
      rcases Nat.lt_or_ge b w.heap.size with h2 | h2
      · exact h2
      · rw [World.cell?, show w.heap[b]? = none from Array.getElem?_eq_none h2] at h1; cases h1
    rw [← h1]
    unfold World.cell?
    rw [k.block b hb (hn _ _ _ rfl)]
theorem BView.below {w w1 : World} {v : Value} {m : Nat} {ν : Nat → Nat} (h : BView w v m ν) (k : Below w.heap.size w w1) : BView w1 v m ν := h.keep (S := fun _ => False) (Keep.of_below k) (fun _ _ _ _ h => h)
theorem BView.congr {w : World} {v : Value} {m : Nat} {ν μ : Nat → Nat} (h : BView w v m ν) (e : ∀ j, j < m → μ j = ν j) : BView w v m μ := by
  obtain ⟨ad, c, rfl, h0 | ⟨b, off, rfl, hc⟩⟩ := h.ex
  · exact ⟨⟨ad, c, rfl, .inl h0⟩, fun j hj => by omega⟩
  · exact ⟨⟨_, c, rfl, .inr ⟨b, off, rfl, fun j hj => by rw [e j hj]; exact hc j hj⟩⟩, fun j hj => by rw [e j hj]; exact h.lt j hj⟩
/-- A piece of a row. -/
theorem BView.piece {w : World} {b n c : Nat} {β : Nat → Nat} (h : BytesAt w b n c β) (s m k : Nat) (hs : s + m ≤ n) : BView w (.slice (some ⟨b, s, none⟩) m k) m (fun j => β (s + j)) :=
  ⟨⟨_, _, rfl, .inr ⟨b, s, rfl, fun j hj => h.cell (by omega)⟩⟩, fun j hj => h.lt _ (by omega)⟩

theorem wpList_app {ops : Array Oper} {rest : List Oper} {o : Oper} {a : Act} {w : World} {Q : Exit → Act → World → Prop} (hg : o.guard = none) (s x : Operand) (t tx : TypeId) (hop : o.op = Op.call { callee := Callee.builtin Builtin.append, args := #[s, x], argTypes := #[t, tx] })
    (vs vx : Value) (hs : a.eval s = vs) (hx : a.eval x = vx) (v : Value) (w1 : World) (hrun : (Builtin.append_ #[t, tx] o.type #[vs, vx]).run Try.prog w = .ok v w1) (h : wpList Try.prog ops Q rest (a.put o.dst v) w1) : wpList Try.prog ops Q (o :: rest) a w := by
  refine wpList_plain hg fun K hK => ?_
  unfold Oper.wp
  simp [execOp, hop, resolve, invoke, builtin, hs, hx, hrun, Result.andThen]
  exact hK _ _ h
theorem step_app {ops : Array Oper} {o : Oper} {a : Act} {w : World} {K : Act → World → Prop} {Q : Exit → Act → World → Prop} {E : Prop} (hg : o.guard = none) (s x : Operand) (t tx : TypeId) (hop : o.op = Op.call { callee := Callee.builtin Builtin.append, args := #[s, x], argTypes := #[t, tx] })
    (vs vx : Value) (hs : a.eval s = vs) (hx : a.eval x = vx) (v : Value) (w1 : World) (hrun : (Builtin.append_ #[t, tx] o.type #[vs, vx]).run Try.prog w = .ok v w1) (h : K (a.put o.dst v) w1) : if Region.wanted o (yielded ops a.tmps) = true then Oper.wp Try.prog o a w K Q else E := by
  have hw : Region.wanted o (yielded ops a.tmps) = true := by simp [Region.wanted, hg]
  rw [if_pos hw]
  unfold Oper.wp
  simp [execOp, hop, resolve, invoke, builtin, hs, hx, hrun, Result.andThen]
  exact h
theorem wpList_copy {ops : Array Oper} {rest : List Oper} {o : Oper} {a : Act} {w : World} {Q : Exit → Act → World → Prop} (hg : o.guard = none) (s x : Operand) (t tx : TypeId) (hop : o.op = Op.call { callee := Callee.builtin Builtin.copy, args := #[s, x], argTypes := #[t, tx] })
    (vs vx : Value) (hs : a.eval s = vs) (hx : a.eval x = vx) (v : Value) (w1 : World) (hrun : (Builtin.copy_ #[t, tx] o.type #[vs, vx]).run Try.prog w = .ok v w1) (h : wpList Try.prog ops Q rest (a.put o.dst v) w1) : wpList Try.prog ops Q (o :: rest) a w := by
  refine wpList_plain hg fun K hK => ?_
  unfold Oper.wp
  simp [execOp, hop, resolve, invoke, builtin, hs, hx, hrun, Result.andThen]
  exact hK _ _ h

/-- A memory that a call has made. -/
structure Fresh (w w1 : World) (o : MObj) (T : TypeId) (n : Nat) (β : Nat → Nat) (most : Int) : Prop where
  mem : MemAt w1 o
  bel : Below w.heap.size w w1
  new : ∀ k, o.has k → w.heap.size ≤ k
  hT : o.T = T
  hn : o.n = n
  hβ : ∀ i, i < n → o.β i = β i
  hmost : o.most = most

/-- The error of New. -/
def newE (least most : Int) : Int := if least < 0 ∨ most < -1 ∨ (0 ≤ most ∧ most < least) then 1 else if 16 < least then 3 else 0

theorem ret_pe {p : Value} {a b : Int} (h : a = b) : Ending.returned (.tuple #[p, .int .i64 a]) = .returned (.tuple #[p, .int .i64 b]) := by rw [h]

set_option maxRecDepth 100000 in
theorem new_err (least most : Int) (w : World) (hl : -9223372036854775808 ≤ least ∧ least ≤ 9223372036854775807) (hm : -9223372036854775808 ≤ most ∧ most ≤ 9223372036854775807) (he : newE least most ≠ 0) :
    Calls Try.prog 13 #[.int .i64 least, .int .i64 most] w fun e w' => e = .returned (.tuple #[.pointer none, .int .i64 (newE least most)]) ∧ w' = w := by
  by_cases c1 : least < 0
  · have e1 : newE least most = 1 := by unfold newE; rw [if_pos (.inl c1)]
    rw [e1]
    clear e1 he
    go_enter Try.func13, Try.ntmps13
    go_wp2
    go_ret2
    exact ⟨rfl, rfl⟩
  by_cases c2 : most < -1
  · have e1 : newE least most = 1 := by unfold newE; rw [if_pos (.inr (.inl c2))]
    rw [e1]
    clear e1 he
    go_enter Try.func13, Try.ntmps13
    go_wp2
    go_ret2
    exact ⟨rfl, rfl⟩
  by_cases c3 : 0 ≤ most ∧ most < least
  · have e1 : newE least most = 1 := by unfold newE; rw [if_pos (.inr (.inr c3))]
    rw [e1]
    clear e1 he
    obtain ⟨c3, c4⟩ := c3
    go_enter Try.func13, Try.ntmps13
    go_wp2
    go_ret2
    exact ⟨rfl, rfl⟩
  by_cases c5 : 16 < least
  · have e1 : newE least most = 3 := by unfold newE; rw [if_neg (by omega), if_pos c5]
    rw [e1]
    clear e1 he
    rcases (show most = -1 ∨ 0 ≤ most ∧ ¬ most < least by omega) with rfl | ⟨c6, c7⟩
    all_goals
      clear c3
      go_enter Try.func13, Try.ntmps13
      go_wp2
      go_ret2
      exact ⟨rfl, rfl⟩
  · exact absurd (by unfold newE; rw [if_neg (by omega), if_neg c5]) he

theorem fresh_new (w : World) (T : TypeId) (n k : Nat) (most : Int) (hn : n = 65536 * k) (hk : k ≤ 16) (hm : -1 ≤ most ∧ most ≤ 9223372036854775807) :
    Fresh w ((w.alloc (.cells (zerosN n) 5)).alloc (.cells #[.slice (some ⟨w.heap.size, 0, none⟩) n n, .int .i64 most] T)) ⟨T, w.heap.size + 1, some w.heap.size, n, n, fun _ => 0, most⟩ T n (fun _ => 0) most := by
  refine ⟨⟨?_, ?_, ⟨k, hk, hn⟩, hm, ?_⟩, ?_, ?_, rfl, rfl, fun _ _ => rfl, rfl⟩
  · have := heap_alloc_new (w.alloc (.cells (zerosN n) 5)) (.cells #[.slice (some ⟨w.heap.size, 0, none⟩) n n, .int .i64 most] T)
    simpa [headOf] using this
  · exact BytesAt.keep (row_new w n) ((Keep.refl (fun _ => False) _).alloc _) (fun h => h)
  · simp
  · exact ((Below.refl _ _).alloc (Nat.le_refl _) _).alloc (by simp) _
  · rintro k (rfl | h)
    · exact Nat.le_succ _
    · cases h; exact Nat.le_refl _

set_option maxRecDepth 100000 in
theorem new_ok (k : Nat) (most : Int) (w : World) (hk : k ≤ 16) (hm : most = -1 ∨ (k : Int) ≤ most ∧ most ≤ 9223372036854775807) :
    Calls Try.prog 13 #[.int .i64 (k : Int), .int .i64 most] w fun e w' => ∃ o, e = .returned (.tuple #[.pointer (some ⟨o.p, 0, none⟩), .int .i64 0]) ∧ Fresh w w' o 86 (65536 * k) (fun _ => 0) most := by
  obtain ⟨n, hn⟩ : ∃ n, n = k * 65536 := ⟨_, rfl⟩
  have hmk := make_bytes w n (by omega)
  have hkn : (k : Int) * 65536 = (n : Int) := by omega
  have hfr := fun m h => fresh_new w 86 n k m (by omega) hk h
  have hfr' := Lib.hid hfr
  rw [show 65536 * k = n by omega]
  clear hn hfr
  rcases hm with rfl | ⟨h1, h2⟩
  · go_enter Try.func13, Try.ntmps13
    go_wp2
    go_ret2
    exact ⟨_, rfl, hfr'.out _ (by decide)⟩
  · go_enter Try.func13, Try.ntmps13
    go_wp2
    go_ret2
    exact ⟨_, rfl, hfr'.out _ (by omega)⟩
theorem new_k (least most : Int) (w : World) (hl : -9223372036854775808 ≤ least ∧ least ≤ 9223372036854775807) (hm : -9223372036854775808 ≤ most ∧ most ≤ 9223372036854775807) (he : newE least most = 0) :
    Calls Try.prog 13 #[.int .i64 least, .int .i64 most] w fun e w' => ∃ o, e = .returned (.tuple #[.pointer (some ⟨o.p, 0, none⟩), .int .i64 0]) ∧ Fresh w w' o 86 (65536 * least.toNat) (fun _ => 0) most := by
  have h : 0 ≤ least ∧ least ≤ 16 ∧ (most = -1 ∨ least ≤ most) := by
    unfold newE at he
    by_cases h1 : least < 0 ∨ most < -1 ∨ (0 ≤ most ∧ most < least)
    · rw [if_pos h1] at he; omega
    · rw [if_neg h1] at he
      by_cases h2 : 16 < least
      · rw [if_pos h2] at he; omega
      · omega
  obtain ⟨k, rfl⟩ := Int.eq_ofNat_of_zero_le h.1
  exact new_ok k most w (by omega) (by omega)

theorem clone_nil (w : World) :
    Calls Try.prog 20 #[.pointer none] w fun e w' => e = .returned (.pointer none) ∧ w' = w := by
  go_enter Try.func20, Try.ntmps20
  go_wp2
  go_ret
  exact ⟨rfl, rfl⟩
/-- What a clone is. -/
theorem fresh_clone {w w1 : World} {o : MObj} (h : MemAt w o) {q1 : Option Nat} {c1 : Nat} (g : Grown w w1 none q1 o.n c1 o.β) :
    Fresh w (w1.alloc (.cells #[.slice (headOf q1) o.n c1, .int .i64 o.most] o.T)) ⟨o.T, w1.heap.size, q1, o.n, c1, o.β, o.most⟩ o.T o.n o.β o.most := by
  have hk : Keep (fun _ => False) w w1 := g.keep.mono (fun k _ hk => by cases hk)
  have hq : ∀ b, q1 = some b → w.heap.size ≤ b := by
    intro b hb
    rcases g.new with h1 | ⟨b1, h1, h2⟩
    · rw [h1] at hb; cases hb
    · rw [h1] at hb; cases hb; exact h2
  refine ⟨⟨heap_alloc_new _ _, ?_, h.pages, h.most, ?_⟩, ?_, ?_, rfl, rfl, fun _ _ => rfl, rfl⟩
  · exact g.row.keep ((Keep.refl (fun _ => False) _).alloc _) (fun _ _ h => h)
  · intro e
    have := g.row
    rw [show q1 = some w1.heap.size from e] at this
    have := BytesAt.block this
    omega
  · exact (Keep.below (B := w.heap.size) (Below.refl _ _) hk (Nat.le_refl _) (fun k h => absurd h (fun h => h))).alloc (by exact hk.size) _
  · rintro k (rfl | h)
    · exact hk.size
    · exact hq k h
theorem Fresh.undrew {w w1 : World} {o : MObj} {T : TypeId} {n : Nat} {β : Nat → Nat} {most : Int} (h : Fresh w.drew w1 o T n β most) : Fresh w w1 o T n β most :=
  ⟨h.mem, ⟨h.bel.os, h.bel.tape, h.bel.output, h.bel.size, h.bel.block⟩, h.new, h.hT, h.hn, h.hβ, h.hmost⟩
set_option maxHeartbeats 2000000 in
theorem clone_k (o : MObj) (w : World) (h : MemAt w o) (hT : o.T = 86) :
    Calls Try.prog 20 #[.pointer (some ⟨o.p, 0, none⟩)] w fun e w' => ∃ o1, e = .returned (.pointer (some ⟨o1.p, 0, none⟩)) ∧ Fresh w w' o1 86 o.n o.β o.most := by
  have hd := h.drew
  obtain ⟨q1, c1, w1, hrun, hg⟩ := app_nil w.drew 48 _ o.n o.β (BView.row hd.row).src hd.row.lt (by have := h.size; omega)
  have hf := fresh_clone hd hg
  have hk : Keep (fun _ => False) w.drew w1 := hg.keep.mono (fun k _ hk => by cases hk)
  have hc0 := hd.c0
  have hc1 := hd.c1
  have hd1 := hd.keep hk (fun _ _ h => h)
  have hc1' := hd1.c1
  rw [hT] at hf
  have HRUN := Lib.hid hrun
  clear hrun hd hg hk hd1
  go_enter Try.func20, Try.ntmps20
  go_wp2
  go_region_law (refine step_app rfl (.const (.slice none 0 0)) (.tmp 8) 48 48 rfl _ _ (by rfl) (by rfl) _ _ HRUN.out ?_)
  all_goals
    go_wp2
    go_ret
    exact ⟨_, rfl, hf.undrew⟩

/-- The error of Peek. -/
def peekE (n : Nat) (at_ m : Int) : Int := if at_ < 0 ∨ m < 0 ∨ 4096 < m then 1 else if at_ + m ≤ n then 0 else 23
theorem peek_nil (w : World) (at_ m : Value) :
    Calls Try.prog 26 #[.pointer none, at_, m] w fun e w' => e = .returned (.tuple #[.slice none 0 0, .int .i64 2]) ∧ w' = w := by
  go_enter Try.func26, Try.ntmps26
  go_wp2
  go_ret2
  exact ⟨rfl, rfl⟩
theorem peek_err (o : MObj) (w : World) (h : MemAt w o) (at_ m : Int) (hl : -9223372036854775808 ≤ at_ ∧ at_ ≤ 9223372036854775807) (hm : -9223372036854775808 ≤ m ∧ m ≤ 9223372036854775807) (he : peekE o.n at_ m ≠ 0) :
    Calls Try.prog 26 #[.pointer (some ⟨o.p, 0, none⟩), .int .i64 at_, .int .i64 m] w fun e w' => e = .returned (.tuple #[.slice none 0 0, .int .i64 (peekE o.n at_ m)]) ∧ w' = w := by
  by_cases c1 : at_ < 0 ∨ m < 0 ∨ 4096 < m
  · have e1 : peekE o.n at_ m = 1 := by unfold peekE; rw [if_pos c1]
    rw [e1]
    clear e1 he h
    by_cases c2 : at_ < 0
    · go_enter Try.func26, Try.ntmps26
      go_wp2
      go_ret2
      exact ⟨rfl, rfl⟩
    by_cases c3 : m < 0
    · go_enter Try.func26, Try.ntmps26
      go_wp2
      go_ret2
      exact ⟨rfl, rfl⟩
    · replace c1 : 4096 < m := by omega
      go_enter Try.func26, Try.ntmps26
      go_wp2
      go_ret2
      exact ⟨rfl, rfl⟩
  · have c2 : ¬ at_ + m ≤ o.n := fun c => he (by unfold peekE; rw [if_neg c1, if_pos c])
    have e1 : peekE o.n at_ m = 23 := by unfold peekE; rw [if_neg c1, if_neg c2]
    rw [e1]
    obtain ⟨a, rfl⟩ := Int.eq_ofNat_of_zero_le (show 0 ≤ at_ by omega)
    obtain ⟨k, rfl⟩ := Int.eq_ofNat_of_zero_le (show 0 ≤ m by omega)
    have hw := within_k o w h a k (by omega) (by omega)
    rw [decide_eq_false (by omega)] at hw
    have c3 : ¬ (4096 : Int) < k := by omega
    clear e1 he h c1 c2
    go_enter Try.func26, Try.ntmps26
    go_wp2_with (go_at_call 49; (with_reducible refine hw.mono ?_); rintro e u ⟨rfl, rfl⟩)
    go_ret2
    exact ⟨rfl, rfl⟩
/-- What a look at memory gives: bytes of its own. -/
structure Peeked (w w1 : World) (v : Value) (m : Nat) (ν : Nat → Nat) : Prop where
  ex : ∃ q c, v = .slice (headOf q) m c ∧ RowAt w1 q m c ν ∧ ∀ b, q = some b → w.heap.size ≤ b
  bel : Below w.heap.size w w1
theorem Peeked.of {w w1 : World} {q : Option Nat} {c m : Nat} {ν : Nat → Nat} (h : Grown w w1 none q m c ν) : Peeked w w1 (.slice (headOf q) m c) m ν :=
  ⟨⟨q, c, rfl, h.row, fun b hb => by
    rcases h.new with h1 | ⟨b1, h1, h2⟩
    · rw [h1] at hb; cases hb
    · rw [h1] at hb; cases hb; exact h2⟩, Keep.below (B := w.heap.size) (Below.refl _ _) h.keep (Nat.le_refl _) (fun k h => by cases h)⟩
theorem Peeked.nil (w : World) (ν : Nat → Nat) : Peeked w w (.slice none 0 0) 0 ν := ⟨⟨none, 0, rfl, ⟨rfl, rfl⟩, fun b hb => by cases hb⟩, Below.refl _ _⟩
theorem Peeked.view {w w1 : World} {v : Value} {m : Nat} {ν : Nat → Nat} (h : Peeked w w1 v m ν) : BView w1 v m ν := by
  obtain ⟨q, c, rfl, hr, _⟩ := h.ex
  exact BView.row hr

set_option maxRecDepth 100000 in
theorem peek_A (o : MObj) (w : World) (h : MemAt w o) (hq : o.q = none) :
    Calls Try.prog 26 #[.pointer (some ⟨o.p, 0, none⟩), .int .i64 0, .int .i64 0] w fun e w' => ∃ v, e = .returned (.tuple #[v, .int .i64 0]) ∧ Peeked w w' v 0 (fun j => o.β (0 + j)) := by
  have hz := h.size
  have hr := h.row
  rw [hq] at hr
  obtain ⟨hr1, hr2⟩ := hr
  have hc0 := h.c0
  rw [hq, hr1, hr2, show headOf none = none from rfl] at hc0
  have hw := within_k o w h 0 0 (by decide) (by decide)
  rw [decide_eq_true (by omega)] at hw
  replace hw : Calls Try.prog 49 #[.pointer (some ⟨o.p, 0, none⟩), .int .u64 0, .int .i64 0] w fun e w' => e = .returned (.bool true) ∧ w' = w := hw
  have hv : BView w (.slice none 0 0) 0 (fun j => o.β (0 + j)) := ⟨⟨_, _, rfl, .inl rfl⟩, fun j hj => by omega⟩
  obtain ⟨q1, c1, w1, hrun, hg⟩ := app_nil w 48 _ _ _ hv.src hv.lt (by omega)
  have hp := Peeked.of hg
  clear hg hv h
  go_enter Try.func26, Try.ntmps26
  go_wp2_with (first | (go_at_call 49; (with_reducible refine hw.mono ?_); rintro e u ⟨rfl, rfl⟩))
  go_ret2
  exact ⟨_, rfl, Peeked.nil _ _⟩

set_option maxRecDepth 100000 in
theorem peek_B (o : MObj) (w : World) (h : MemAt w o) (a : Nat) (hin : a ≤ o.n) (b : Nat) (hq : o.q = some b) (hc : o.c = a) :
    Calls Try.prog 26 #[.pointer (some ⟨o.p, 0, none⟩), .int .i64 (a : Nat), .int .i64 0] w fun e w' => ∃ v, e = .returned (.tuple #[v, .int .i64 0]) ∧ Peeked w w' v 0 (fun j => o.β (a + j)) := by
  have hz := h.size
  have hr := h.row
  have hc0 := h.c0
  rw [hq] at hr hc0
  have hle := h.row.le
  rw [hc, show headOf (some b) = some ⟨b, 0, none⟩ from rfl] at hc0
  have hw := within_k o w h a 0 (by omega) (by decide)
  rw [decide_eq_true (by omega)] at hw
  replace hw : Calls Try.prog 49 #[.pointer (some ⟨o.p, 0, none⟩), .int .u64 (a : Nat), .int .i64 0] w fun e w' => e = .returned (.bool true) ∧ w' = w := hw
  have hv : BView w (.slice (some ⟨b, 0, none⟩) 0 0) 0 (fun j => o.β (a + j)) := ⟨⟨_, _, rfl, .inl rfl⟩, fun j hj => by omega⟩
  clear hc
  obtain ⟨q1, c1, w1, hrun, hg⟩ := app_nil w 48 _ _ _ hv.src hv.lt (by omega)
  have hp := Peeked.of hg
  clear hg hv h hr
  go_enter Try.func26, Try.ntmps26
  go_wp2_with (first | (go_at_call 49; (with_reducible refine hw.mono ?_); rintro e u ⟨rfl, rfl⟩))
  go_ret2
  exact ⟨_, rfl, Peeked.nil _ _⟩

set_option maxRecDepth 100000 in
theorem peek_C (o : MObj) (w : World) (h : MemAt w o) (a k : Nat) (hk : k ≤ 4096) (hin : a + k ≤ o.n) (b : Nat) (hq : o.q = some b) (hc : ¬ o.c = a) :
    Calls Try.prog 26 #[.pointer (some ⟨o.p, 0, none⟩), .int .i64 (a : Nat), .int .i64 (k : Nat)] w fun e w' => ∃ v, e = .returned (.tuple #[v, .int .i64 0]) ∧ Peeked w w' v k (fun j => o.β (a + j)) := by
  have hz := h.size
  have hr := h.row
  have hc0 := h.c0
  rw [hq] at hr hc0
  have hle := h.row.le
  rw [show headOf (some b) = some ⟨b, 0, none⟩ from rfl] at hc0
  have hw := within_k o w h a k (by omega) (by omega)
  rw [decide_eq_true (by omega)] at hw
  have hv : BView w (.slice (some ⟨b, a, none⟩) k (o.c - a)) k (fun j => o.β (a + j)) := BView.piece hr a k _ hin
  obtain ⟨q1, c1, w1, hrun, hg⟩ := app_nil w 48 _ _ _ hv.src hv.lt (by omega)
  have hp := Peeked.of hg
  rw [show Value.slice (some ⟨b, a, none⟩) k (o.c - a) = Value.slice (some ⟨b, a, none⟩) (a + k - a) (o.c - a) by rw [Nat.add_sub_cancel_left]] at hrun
  clear hg hv h hr
  go_enter Try.func26, Try.ntmps26
  go_wp2_with (first | (go_at_call 49; (with_reducible refine hw.mono ?_); rintro e u ⟨rfl, rfl⟩) | (at_builtin; go_loud (refine wpList_app rfl _ _ _ _ rfl (.slice none 0 0) (.slice (some ⟨b, a, none⟩) (a + k - a) (o.c - a)) rfl rfl _ _ hrun ?_)))
  go_ret2
  exact ⟨_, rfl, hp⟩

theorem peek_k (o : MObj) (w : World) (h : MemAt w o) (a k : Nat) (hk : k ≤ 4096) (hin : a + k ≤ o.n) :
    Calls Try.prog 26 #[.pointer (some ⟨o.p, 0, none⟩), .int .i64 (a : Nat), .int .i64 (k : Nat)] w fun e w' => ∃ v, e = .returned (.tuple #[v, .int .i64 0]) ∧ Peeked w w' v k (fun j => o.β (a + j)) := by
  rcases hq : o.q with _ | b
  · have hr := h.row
    rw [hq] at hr
    obtain ⟨hr1, hr2⟩ := hr
    obtain rfl : a = 0 := by omega
    obtain rfl : k = 0 := by omega
    exact peek_A o w h hq
  · by_cases hc : o.c = a
    · have := h.row.le
      obtain rfl : k = 0 := by omega
      exact peek_B o w h a hin b hq hc
    · exact peek_C o w h a k hk hin b hq hc

theorem poke_nil (w : World) (at_ : Value) (v : Value) :
    Calls Try.prog 25 #[.pointer none, at_, v] w fun e w' => e = .returned (.int .i64 2) ∧ w' = w := by
  go_enter Try.func25, Try.ntmps25
  go_wp2
  go_ret
  exact ⟨rfl, rfl⟩
theorem poke_err (o : MObj) (w : World) (h : MemAt w o) (at_ m c : Nat) (ad : Option Addr) (ha : at_ < 18446744073709551616) (hm : m ≤ 9223372036854775807) (hn : ¬ at_ + m ≤ o.n) :
    Calls Try.prog 25 #[.pointer (some ⟨o.p, 0, none⟩), .int .u64 (at_ : Nat), .slice ad m c] w fun e w' => e = .returned (.int .i64 23) ∧ w' = w := by
  have hw := within_k o w h at_ m ha hm
  rw [decide_eq_false hn] at hw
  clear h hn
  go_enter Try.func25, Try.ntmps25
  go_wp2_with (go_at_call 49; (with_reducible refine hw.mono ?_); rintro e u ⟨rfl, rfl⟩)
  go_ret
  exact ⟨rfl, rfl⟩
set_option maxRecDepth 100000 in
theorem poke_none (o : MObj) (w : World) (h : MemAt w o) (at_ c : Nat) (ad : Option Addr) (hn : at_ ≤ o.n) :
    Calls Try.prog 25 #[.pointer (some ⟨o.p, 0, none⟩), .int .u64 (at_ : Nat), .slice ad 0 c] w fun e w' => e = .returned (.int .i64 0) ∧ w' = w := by
  have hz := h.size
  have hle := h.row.le
  have hc0 := h.c0
  have hw := within_k o w h at_ 0 (by omega) (by decide)
  rw [decide_eq_true (by omega)] at hw
  replace hw : Calls Try.prog 49 #[.pointer (some ⟨o.p, 0, none⟩), .int .u64 (at_ : Nat), .int .i64 0] w fun e w' => e = .returned (.bool true) ∧ w' = w := hw
  have hcp := fun (d : Option Addr) (n1 c1 : Nat) => run_copy_none (P := Try.prog) w 48 48 3 5 d ad n1 c1 0 c under_bytes (by kernel_rfl) (Nat.zero_min _)
  have HCP := Lib.hid hcp
  clear h hcp
  go_enter Try.func25, Try.ntmps25
  go_wp2_with (first | (go_at_call 49; (with_reducible refine hw.mono ?_); rintro e u ⟨rfl, rfl⟩) | (with_reducible refine wpList_copy rfl _ _ _ _ rfl (.slice _ _ _) (.slice ad 0 c) rfl rfl _ _ (HCP.out _ _ _) ?_))
  all_goals
    go_ret
    exact ⟨rfl, rfl⟩
set_option maxRecDepth 100000 in
theorem poke_some (o : MObj) (w : World) (h : MemAt w o) (at_ m c b0 off : Nat) (ν : Nat → Nat) (hm : 0 < m) (hc : ∀ j, j < m → w.cell? ⟨b0, off + j, none⟩ = some (.int .u8 (ν j : Nat))) (hν : ∀ j, j < m → ν j < 256) (hn : at_ + m ≤ o.n) :
    Calls Try.prog 25 #[.pointer (some ⟨o.p, 0, none⟩), .int .u64 (at_ : Nat), .slice (some ⟨b0, off, none⟩) m c] w fun e w' => e = .returned (.int .i64 0) ∧ MemAt w' (withβ o (putB o.β at_ m ν)) ∧ Keep (fun k => o.q = some k) w w' := by
  have hz := h.size
  obtain ⟨b, hb, hr⟩ := h.row.pos (by omega)
  have hc0 := h.c0
  rw [hb, show headOf (some b) = some ⟨b, 0, none⟩ from rfl] at hc0
  have hle := hr.le
  have hw := within_k o w h at_ m (by omega) (by omega)
  rw [decide_eq_true hn] at hw
  have hcc : ¬ o.c = at_ := by omega
  have hcp := run_copy_cells (P := Try.prog) w 48 48 3 5 b at_ (o.n - at_) (o.c - at_) ⟨b0, off, none⟩ m c (byteRow m ν) under_bytes (by kernel_rfl) (by rw [length_byteRow]; exact (Nat.min_eq_left (by omega)).symm) (BView.cells hc)
    (by rw [length_byteRow]; intro j hj; exact hr.isCell (by omega)) (fun j hj => hr.frozen _) (one_byteRow _ _)
  have hm1 : MemAt (w.setCells b at_ (byteRow m ν)) (withβ o (putB o.β at_ m ν)) := by
    refine ⟨?_, ?_, h.pages, h.most, h.apart⟩
    · rw [heap_setCells_other _ _ _ _ _ (by intro e; exact h.apart (by rw [hb, ← e]; rfl))]
      exact h.obj
    · show RowAt _ o.q o.n o.c _
      rw [hb]
      exact hr.puts at_ m o.n ν (by omega) hle hν (fun i h1 h2 => by omega)
  have hk1 : Keep (fun k => o.q = some k) w (w.setCells b at_ (byteRow m ν)) := keep_setCells b _ _ _ _ (Keep.refl _ _) hb
  clear h hr hc hν
  go_enter Try.func25, Try.ntmps25
  go_wp2_with (first | (go_at_call 49; (with_reducible refine hw.mono ?_); rintro e u ⟨rfl, rfl⟩) | (with_reducible refine wpList_copy rfl _ _ _ _ rfl _ _ rfl rfl _ _ hcp ?_))
  go_ret
  exact ⟨rfl, hm1, hk1⟩
/-- What a laying of m bytes answers, and the bytes behind it. -/
def pokeE (n at_ m : Nat) : Int := if at_ + m ≤ n then 0 else 23
def pokeB (o : MObj) (at_ m : Nat) (ν : Nat → Nat) : Nat → Nat := if at_ + m ≤ o.n then putB o.β at_ m ν else o.β
theorem poke_k (o : MObj) (w : World) (h : MemAt w o) (at_ m : Nat) (v : Value) (ν : Nat → Nat) (hv : BView w v m ν) (ha : at_ < 18446744073709551616) (hm : m ≤ 9223372036854775807) :
    Calls Try.prog 25 #[.pointer (some ⟨o.p, 0, none⟩), .int .u64 (at_ : Nat), v] w fun e w' => e = .returned (.int .i64 (pokeE o.n at_ m)) ∧ MemAt w' (withβ o (pokeB o at_ m ν)) ∧ Keep (fun k => o.q = some k) w w' := by
  obtain ⟨ad, c, rfl, hx⟩ := hv.ex
  unfold pokeE pokeB
  by_cases hn : at_ + m ≤ o.n
  · rw [if_pos hn, if_pos hn]
    by_cases h0 : m = 0
    · subst h0
      refine (poke_none o w h at_ c ad (by omega)).mono ?_
      rintro e u ⟨rfl, rfl⟩
      refine ⟨rfl, ?_, Keep.refl _ _⟩
      have e : putB o.β at_ 0 ν = o.β := by
        funext i
        unfold putB
        rw [if_neg (by omega)]
      rw [e]
      exact h
    · obtain ⟨b, off, rfl, hc⟩ := hx.resolve_left h0
      exact poke_some o w h at_ m c b off ν (by omega) hc hv.lt hn
  · rw [if_neg hn, if_neg hn]
    refine (poke_err o w h at_ m c ad ha hm hn).mono ?_
    rintro e u ⟨rfl, rfl⟩
    exact ⟨rfl, h, Keep.refl _ _⟩
/-- How many pages there may be. -/
def ceilOf (most : Int) : Int := if 0 ≤ most then min 16 most else 16
/-- A memory that has grown. -/
def grownO (o : MObj) (q1 : Option Nat) (c1 x : Nat) : MObj := { o with q := q1, n := o.n + 65536 * x, c := c1, β := joinB o.n o.β (fun _ => 0) }
theorem grow_nil (w : World) (x : Value) :
    Calls Try.prog 18 #[.pointer none, x] w fun e w' => e = .returned (.int .u32 4294967295) ∧ w' = w := by
  go_enter Try.func18, Try.ntmps18
  go_wp2
  go_ret
  exact ⟨rfl, rfl⟩
theorem grow_no (o : MObj) (w : World) (h : MemAt w o) (x : Nat) (hx : x < 4294967296) (hn : ¬ (x : Int) + (o.n / 65536 : Nat) ≤ ceilOf o.most) :
    Calls Try.prog 18 #[.pointer (some ⟨o.p, 0, none⟩), .int .u32 (x : Nat)] w fun e w' => e = .returned (.int .u32 4294967295) ∧ w' = w := by
  have hz := h.size
  have hc1 := h.c1
  have hp := pages_k o w h
  obtain ⟨k, hk⟩ : ∃ k, k = o.n / 65536 := ⟨_, rfl⟩
  rw [← hk] at hp hn
  have hmost := h.most
  have hk16 : k ≤ 16 := by omega
  clear hk
  unfold ceilOf at hn
  by_cases hm : 0 ≤ o.most
  · rw [if_pos hm] at hn
    have hmin : min (16 : Int) o.most = if (16 : Int) ≤ o.most then 16 else o.most := by
      by_cases h16 : (16 : Int) ≤ o.most
      · rw [if_pos h16]; exact Int.min_eq_left h16
      · rw [if_neg h16]; exact Int.min_eq_right (by omega)
    rw [hmin] at hn
    clear h
    by_cases h16 : (16 : Int) ≤ o.most
    · rw [if_pos h16] at hn hmin
      go_enter Try.func18, Try.ntmps18
      go_wp2_with (go_at_call 15; (with_reducible refine hp.mono ?_); rintro e u ⟨rfl, rfl⟩)
      go_ret
      exact ⟨rfl, rfl⟩
    · rw [if_neg h16] at hn hmin
      go_enter Try.func18, Try.ntmps18
      go_wp2_with (go_at_call 15; (with_reducible refine hp.mono ?_); rintro e u ⟨rfl, rfl⟩)
      go_ret
      exact ⟨rfl, rfl⟩
  · rw [if_neg hm] at hn
    clear h
    go_enter Try.func18, Try.ntmps18
    go_wp2_with (go_at_call 15; (with_reducible refine hp.mono ?_); rintro e u ⟨rfl, rfl⟩)
    go_ret
    exact ⟨rfl, rfl⟩

theorem grown_mem {w w1 : World} {o : MObj} (h : MemAt w o) {q1 : Option Nat} {c1 x m : Nat} (hm : m = 65536 * x) (hx : x + o.n / 65536 ≤ 16) (g : Grown w w1 o.q q1 (o.n + m) c1 (joinB o.n o.β (fun _ => 0))) :
    MemAt (w1.setCell ⟨o.p, 0, none⟩ (.slice (headOf q1) (o.n + m) c1)) (grownO o q1 c1 x) ∧ Keep o.has w (w1.setCell ⟨o.p, 0, none⟩ (.slice (headOf q1) (o.n + m) c1)) ∧ (q1 = o.q ∨ ∃ b, q1 = some b ∧ w.heap.size ≤ b) := by
  have hp : o.p < w.heap.size := block_lt h.obj
  have hobj : w1.heap[o.p]? = some (.cells #[.slice (headOf o.q) o.n o.c, .int .i64 o.most] o.T (0, 0)) := g.keep.get h.obj (fun e => h.apart e)
  have hap : q1 ≠ some o.p := by
    rcases g.new with e | ⟨b, e, hb⟩
    · rw [e]; exact h.apart
    · rw [e]; intro e2; cases e2; omega
  refine ⟨⟨?_, ?_, ?_, h.most, hap⟩, (g.keep.mono (fun k _ hk => .inr hk)).setCell (.inl (.inl rfl)) _, g.new⟩
  · rw [show (grownO o q1 c1 x).p = o.p from rfl, heap_setCell_same _ _ _ _ _ _ hobj, hm]
    rfl
  · show RowAt _ q1 (o.n + 65536 * x) c1 _
    rw [← hm]
    exact g.row.keep ((Keep.refl (fun k => k = o.p) w1).setCell (.inl rfl) _) (fun b hb e => hap (by rw [hb]; exact congrArg _ e))
  · obtain ⟨k, hk, e⟩ := h.pages
    exact ⟨k + x, by omega, by show o.n + 65536 * x = _; omega⟩
set_option maxRecDepth 100000 in
theorem grow_ok (o : MObj) (w : World) (h : MemAt w o) (x : Nat) (hx : x < 4294967296) (hn : (x : Int) + (o.n / 65536 : Nat) ≤ ceilOf o.most) :
    Calls Try.prog 18 #[.pointer (some ⟨o.p, 0, none⟩), .int .u32 (x : Nat)] w fun e w' => e = .returned (.int .u32 (o.n / 65536 : Nat)) ∧ ∃ q1 c1, MemAt w' (grownO o q1 c1 x) ∧ Keep o.has w w' ∧ (q1 = o.q ∨ ∃ b, q1 = some b ∧ w.heap.size ≤ b) := by
  have hz := h.size
  have hc1 := h.c1
  have hc0 := h.c0
  have hp := pages_k o w h
  have hce : ceilOf o.most ≤ 16 := by unfold ceilOf; split <;> omega
  obtain ⟨m, hm⟩ : ∃ m, m = 65536 * x := ⟨_, rfl⟩
  have hxm : (x : Int) * 65536 = (m : Int) := by omega
  obtain ⟨q1, c1, w1, hrun, g⟩ := app_zeros w 48 o.q o.n o.c o.β h.row m (by omega)
  obtain ⟨g1, g2, g3⟩ := grown_mem h hm (by omega) g
  have hobj : w1.heap[o.p]? = some (.cells #[.slice (headOf o.q) o.n o.c, .int .i64 o.most] o.T (0, 0)) := g.keep.get h.obj (fun e => h.apart e)
  have d0 : w1.cell? ⟨o.p, 0, none⟩ = some (.slice (headOf o.q) o.n o.c) := by rw [cell_of_row w1 o.p 0 _ _ _ hobj]; rfl
  have d1 := frozen_of_row w1 o.p 0 _ _ hobj
  obtain ⟨k, hk⟩ : ∃ k, k = o.n / 65536 := ⟨_, rfl⟩
  rw [← hk] at hp hn ⊢
  have hmost := h.most
  have hk16 : k ≤ 16 := by omega
  have G1 := Lib.hid g1
  have G2 := Lib.hid g2
  have G3 := Lib.hid g3
  have HR := Lib.hid hrun
  clear hk g1 g2 g3 g hobj hrun hm
  unfold ceilOf at hn
  by_cases hm : 0 ≤ o.most
  · rw [if_pos hm] at hn
    have hmin : min (16 : Int) o.most = if (16 : Int) ≤ o.most then 16 else o.most := by
      by_cases h16 : (16 : Int) ≤ o.most
      · rw [if_pos h16]; exact Int.min_eq_left h16
      · rw [if_neg h16]; exact Int.min_eq_right (by omega)
    rw [hmin] at hn
    clear h
    by_cases h16 : (16 : Int) ≤ o.most
    · rw [if_pos h16] at hn hmin
      go_enter Try.func18, Try.ntmps18
      go_wp2_with (first | (go_at_call 15; (with_reducible refine hp.mono ?_); rintro e u ⟨rfl, rfl⟩) | (at_builtin; go_loud (refine wpList_app rfl _ _ _ _ rfl (.slice (headOf o.q) o.n o.c) (.int .i64 (m : Int)) rfl rfl _ _ HR.out ?_)))
      go_ret
      exact ⟨rfl, _, _, G1.out, G2.out, G3.out⟩
    · rw [if_neg h16] at hn hmin
      go_enter Try.func18, Try.ntmps18
      go_wp2_with (first | (go_at_call 15; (with_reducible refine hp.mono ?_); rintro e u ⟨rfl, rfl⟩) | (at_builtin; go_loud (refine wpList_app rfl _ _ _ _ rfl (.slice (headOf o.q) o.n o.c) (.int .i64 (m : Int)) rfl rfl _ _ HR.out ?_)))
      go_ret
      exact ⟨rfl, _, _, G1.out, G2.out, G3.out⟩
  · rw [if_neg hm] at hn
    clear h
    go_enter Try.func18, Try.ntmps18
    go_wp2_with (first | (go_at_call 15; (with_reducible refine hp.mono ?_); rintro e u ⟨rfl, rfl⟩) | (at_builtin; go_loud (refine wpList_app rfl _ _ _ _ rfl (.slice (headOf o.q) o.n o.c) (.int .i64 (m : Int)) rfl rfl _ _ HR.out ?_)))
    go_ret
    exact ⟨rfl, _, _, G1.out, G2.out, G3.out⟩

end Go.Proofs.Ytlcndenbnokcjaa
