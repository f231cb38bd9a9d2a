/-
  For every instruction and all five halves plaitlaw09.VectorEach returns true; no condition. (It is proved of the program's text over the formal model.)
-/
import Derived.Test.YtcpfabkokgiepaaQ51
import Derived.Deep.Cut
import Derived.Maps.AppendAt
import Derived.Deep.Slices
import Derived.Deep.MidRow
set_option linter.unusedSimpArgs false
set_option linter.unusedVariables false
set_option maxHeartbeats 8000000
open Pl
section
namespace Go.Proofs.Ytcpfabkokgiepaa
open Go.RowKit Pl
theorem lv_a5 {w : World} {b : Nat} (x0 x1 x2 x3 x4 : Int) (h : w.heap[b]? = some (.cells #[.int .u64 x0, .int .u64 x1, .int .u64 x2, .int .u64 x3, .int .u64 x4] 35 (0, 0))) (n : Nat) (hn : n ≤ 5) : LView .u64 w (.slice (some ⟨b, 0, none⟩) n 5) ([x0, x1, x2, x3, x4].take n) := by
  have hl : ([x0, x1, x2, x3, x4].take n).length = n := by rw [List.length_take]; simp; omega
  refine ⟨_, 5, by rw [hl], by rw [hl]; exact hn, .inr ⟨b, 0, rfl, mF h, fun i z hi => ?_⟩⟩
  rw [Nat.zero_add, cell_of_row w b i _ _ _ h]
  rw [List.getElem?_take] at hi
  split at hi
  · match i, hi with
    | 0, hi => injection hi with hi; subst hi; rfl
    | 1, hi => injection hi with hi; subst hi; rfl
    | 2, hi => injection hi with hi; subst hi; rfl
    | 3, hi => injection hi with hi; subst hi; rfl
    | 4, hi => injection hi with hi; subst hi; rfl
    | n + 5, hi => simp at hi
  · cases hi
theorem LView.of_ownu {w : World} {B n : Nat} {v : Value} {l : List Int} (h : w.ownsRow B 22 1 v n (l.map (Value.int .u64))) : LView .u64 w v l := by
  have hn0 : n = l.length := by have := h.1; simp at this; omega
  subst hn0
  rcases h.2 with ⟨rfl, h0⟩ | ⟨g, cap, cur, rfl, _, hg, hn, _, hs, ht⟩
  · exact ⟨none, 0, by rw [h0], by omega, .inl h0⟩
  · refine ⟨_, cap, rfl, hn, .inr ⟨g, 0, rfl, mF hg, fun i z hi => ?_⟩⟩
    have hlt := (List.getElem?_eq_some_iff.1 hi).1
    rw [Nat.zero_add, cell_of_row w g i _ _ _ hg]
    have h2 : (cur.toList.take (l.length * 1))[i]? = some (.int .u64 z) := by rw [ht, List.getElem?_map, hi]; rfl
    rw [List.getElem?_take, if_pos (by omega)] at h2
    simpa using h2
theorem own_none {w : World} {B b : Nat} (hB : B ≤ b) (hc : w.heap[b]? = some (.cells #[] 22 (0, 0))) : w.ownsRow B 22 1 (.slice (some ⟨b, 0, none⟩) 0 0) 0 (([] : List Int).map (Value.int .u64)) :=
  ⟨by simp, .inr ⟨b, _, _, rfl, hB, hc, Nat.le_refl _, by unfold maxLen; omega, by simp, by simp⟩⟩
theorem own_shape {w : World} {B n : Nat} {v : Value} {xs : List Value} (h : w.ownsRow B 22 1 v n xs) : ∃ ad c, v = .slice ad n c := by
  rcases h.2 with ⟨rfl, rfl⟩ | ⟨g, cap, cur, rfl, _⟩
  · exact ⟨_, _, rfl⟩
  · exact ⟨_, _, rfl⟩
theorem u64Info : (Try.prog.info? 22).map (fun i => (i.zero, i.size, i.bytes)) = some (some (.int .u64 0), 1, 8) := by kernel_rfl
theorem a5under : Try.prog.underlying 35 = some (.array 5 22) := by kernel_rfl
theorem size_i64 : (Try.prog.info? 3).map (·.size) = some 1 := by kernel_rfl
theorem op_bu0 {o : Oper} {a : Act} {w : World} (ho : o.op = .buildSlice 26 0 #[]) :
    (execOp a.eval o).run Try.prog w = .ok (.value (.slice (some ⟨w.heap.size, 0, none⟩) 0 0)) (w.alloc (.cells #[] 22)) := by
  have h : (Instr.buildSlice 26 0 #[]).run Try.prog w = .ok (.slice (some ⟨w.heap.size, 0, none⟩) 0 0) (w.alloc (.cells #[] 22)) := by kernel_rfl
  unfold execOp
  simp only [ho, List.map_toArray, List.map_nil]
  rw [Sem.run_bind, h]
  rfl
set_option maxRecDepth 100000 in
theorem op_app {o : Oper} {a : Act} {w : World} {base b0 F n : Nat} {l : List Int} (s x : Operand) (ho : o.op = .call { callee := .builtin .append, args := #[s, x], argTypes := #[26, 26] })
    (hs : a.eval s = .slice (some ⟨b0, 0, none⟩) 0 0) (hx : a.eval x = .slice (some ⟨F, 0, none⟩) n 5) (h0 : w.heap[b0]? = some (.cells #[] 22 (0, 0))) (hb : base ≤ b0)
    (hv : LView .u64 w (.slice (some ⟨F, 0, none⟩) n 5) l) (hn : l.length = n) (h5 : n ≤ 5) :
    ∃ v' w', (execOp a.eval o).run Try.prog w = .ok (.value v') w' ∧ LView .u64 w' v' l ∧ (∃ ad m c, v' = .slice ad m c) ∧ Below base w w' := by
  obtain ⟨i, hi, hz0, hz1, hz2⟩ := info_parts u64Info
  have hc : ∀ (j : Nat) (z : Int), l[j]? = some z → w.cell? ⟨F, 0 + j, none⟩ = some (.int .u64 z) := fun j z hj => by
    obtain ⟨ad, c', e, _, hx⟩ := hv.ex
    have h0 : l.length ≠ 0 := by have := (List.getElem?_eq_some_iff.1 hj).1; omega
    obtain ⟨b', off', e1, _, hx⟩ := hx.resolve_left h0
    injection e with e2
    rw [e1] at e2
    injection e2 with e2
    injection e2 with e3 e4
    subst e3 e4
    exact hx j z hj
  have hlt : b0 < w.heap.size := mF h0
  obtain ⟨v', w', hr, h2, h3, _, _⟩ := run_append_own_at (P := Try.prog) w base 26 o.type 22 i (.int .u64 0) 1 8 Try.underlying26 hi hz0 hz1 hz2 rfl (by decide) (.slice (some ⟨b0, 0, none⟩) 0 0) 0 (([] : List Int).map (Value.int .u64)) (own_none hb h0) ⟨F, 0, none⟩ n 5 (l.map (Value.int .u64)) (by rw [List.length_map, hn, Nat.mul_one])
    (fun j u hj => by
      rw [List.getElem?_map, Option.map_eq_some_iff] at hj
      obtain ⟨z, hz, rfl⟩ := hj
      rw [Go.Addr.add_mid]
      exact hc j z hz) (fun u hu => by
      obtain ⟨z, _, rfl⟩ := List.mem_map.1 hu
      rfl) (by unfold maxLen; omega) (by omega) (by omega)
  refine ⟨v', w', ?_, LView.of_ownu (B := base) (n := 0 + n) (by simpa using h2), ?_, tU h3 (by omega) (fun g e => by injection e with e; have e' : b0 = g := e; omega)⟩
  · unfold execOp
    simp only [ho, resolve, invoke, builtin, Sem.run_bind, Sem.run_pure, Result.andThen_ok, List.map_toArray, List.map_cons, List.map_nil, hs, hx, hr]
  · obtain ⟨ad, c, e⟩ := own_shape h2
    exact ⟨ad, _, c, e⟩
structure SE (u0 : World) (R : List Nat × Int) (D : Option Value) (u : World) : Prop where
  bel : Below u0.heap.size u0 u
  val : ∀ v, D = some v → ∃ rv, v = .tuple #[rv, .int .i64 R.2] ∧ LView .u64 u rv (R.1.map Nat.cast)
theorem SE.of {u0 u u1 : World} {R : List Nat × Int} {e : Ending} (h : SE u0 R none u) (hd : DoIs u.heap.size R e u1) (hb : Below u.heap.size u u1) : ∃ v, (∃ rv, v = .tuple #[rv, .int .i64 R.2]) ∧ SE u0 R (some v) u1 ∧ e = .returned v := by
  obtain ⟨rv, he, hx⟩ := hd.view
  exact ⟨_, ⟨rv, rfl⟩, ⟨h.bel.trans (hb.mono h.bel.size), fun v hv => by injection hv with hv; exact ⟨rv, hv.symm, hx⟩⟩, he⟩
structure SP (u0 : World) (H : List Nat) (R : List Nat × Int) (D : Nat × Value) (u : World) : Prop where
  bel : Below u0.heap.size u0 u
  s1 : D.1 = 1 → ∃ b0, D.2 = .slice (some ⟨b0, 0, none⟩) 0 0 ∧ u0.heap.size ≤ b0 ∧ u.heap[b0]? = some (.cells #[] 22 (0, 0))
  s2 : D.1 = 2 → LView .u64 u D.2 (H.map Nat.cast)
  s3 : D.1 = 3 → ∃ rv, D.2 = .tuple #[rv, .int .i64 R.2] ∧ LView .u64 u rv (R.1.map Nat.cast)
def stepP (R : List Nat × Int) (i : Nat) (D D' : Nat × Value) : Prop := (i = 1 ∧ D'.1 = 1 ∧ ∃ b0, D'.2 = .slice (some ⟨b0, 0, none⟩) 0 0) ∨ (i = 4 ∧ D'.1 = 2 ∧ ∃ ad m c, D'.2 = .slice ad m c) ∨ (i = 5 ∧ D'.1 = 3 ∧ ∃ rv, D'.2 = .tuple #[rv, .int .i64 R.2])
def valP (i : Nat) (D : Nat × Value) : Value := D.2
theorem valP_mk (i k : Nat) (v : Value) : valP i (k, v) = v := rfl
theorem stepP_1 {R : List Nat × Int} {D D' : Nat × Value} (h : stepP R 1 D D') : ∃ b0, D' = (1, .slice (some ⟨b0, 0, none⟩) 0 0) := by
  rcases h with ⟨_, h1, b0, h2⟩ | ⟨h, _⟩ | ⟨h, _⟩
  · exact ⟨b0, Prod.ext h1 h2⟩
  · omega
  · omega
theorem stepP_4 {R : List Nat × Int} {D D' : Nat × Value} (h : stepP R 4 D D') : ∃ ad m c, D' = (2, .slice ad m c) := by
  rcases h with ⟨h, _⟩ | ⟨_, h1, ad, m, c, h2⟩ | ⟨h, _⟩
  · omega
  · exact ⟨ad, m, c, Prod.ext h1 h2⟩
  · omega
theorem stepP_5 {R : List Nat × Int} {D D' : Nat × Value} (h : stepP R 5 D D') : ∃ rv, D' = (3, .tuple #[rv, .int .i64 R.2]) := by
  rcases h with ⟨h, _⟩ | ⟨h, _⟩ | ⟨_, h1, rv, h2⟩
  · omega
  · omega
  · exact ⟨rv, Prod.ext h1 h2⟩
theorem SP.start {u0 : World} {H : List Nat} {R : List Nat × Int} : SP u0 H R (0, undef) u0.drew :=
  ⟨(Below.refl _ _).drew, fun h => (by cases h), fun h => (by cases h), fun h => (by cases h)⟩
theorem SP.made {u0 u : World} {H : List Nat} {R : List Nat × Int} {D : Nat × Value} (h : SP u0 H R D u) : SP u0 H R (1, .slice (some ⟨u.heap.size, 0, none⟩) 0 0) (u.alloc (.cells #[] 22)) :=
  ⟨h.bel.alloc h.bel.size _, fun _ => ⟨_, rfl, h.bel.size, heap_alloc_new _ _⟩, fun h => (by cases h), fun h => (by cases h)⟩
theorem SP.apped {u0 u u1 : World} {H : List Nat} {R : List Nat × Int} {D : Nat × Value} {v : Value} (h : SP u0 H R D u) (hb : Below u0.heap.size u u1) (hv : LView .u64 u1 v (H.map Nat.cast)) : SP u0 H R (2, v) u1 :=
  ⟨h.bel.trans hb, fun h => (by cases h), fun _ => hv, fun h => (by cases h)⟩
theorem SP.of {u0 u u1 : World} {H : List Nat} {R : List Nat × Int} {D : Nat × Value} {e : Ending} (h : SP u0 H R D u) (hd : DoIs u.heap.size R e u1) (hb : Below u.heap.size u u1) : ∃ D', stepP R 5 D D' ∧ SP u0 H R D' u1 ∧ e = .returned (valP 5 D') := by
  obtain ⟨rv, he, hx⟩ := hd.view
  exact ⟨(3, _), .inr (.inr ⟨rfl, rfl, rv, rfl⟩), ⟨h.bel.trans (hb.mono h.bel.size), fun h => (by cases h), fun h => (by cases h), fun _ => ⟨rv, rfl, hx⟩⟩, he⟩
theorem SP.app {u0 u : World} {H : List Nat} {R : List Nat × Int} {o : Oper} {a : Act} {b0 F n : Nat} {X : World → Prop} (hS : SP u0 H R (1, .slice (some ⟨b0, 0, none⟩) 0 0) u) (s x : Operand) (ho : o.op = .call { callee := .builtin .append, args := #[s, x], argTypes := #[26, 26] })
    (hs : a.eval s = .slice (some ⟨b0, 0, none⟩) 0 0) (hx : a.eval x = .slice (some ⟨F, 0, none⟩) n 5) (hv : LView .u64 u (.slice (some ⟨F, 0, none⟩) n 5) (H.map Nat.cast)) (hn : H.length = n) (h5 : n ≤ 5) :
    ∃ w1, (∃ D', stepP R 4 (1, .slice (some ⟨b0, 0, none⟩) 0 0) D' ∧ SP u0 H R D' w1 ∧ ((execOp a.eval o).run Try.prog u = .ok (.value (valP 4 D')) w1 ∨ ((execOp a.eval o).run Try.prog u = .ok .skip w1 ∧ valP 4 D' = undef))) ∨ X w1 := by
  obtain ⟨b1, e1, hb1, hc1⟩ := hS.s1 rfl
  injection e1 with e1
  injection e1 with e1
  injection e1 with e1
  subst e1
  obtain ⟨v', u1, hr, hv, ⟨ad, m, c, rfl⟩, hb⟩ := op_app (l := H.map Nat.cast) (base := u0.heap.size) s x ho hs hx hc1 hb1 hv (by rw [List.length_map]; exact hn) h5
  exact ⟨_, .inl ⟨(2, _), .inr (.inl ⟨rfl, rfl, _, _, _, rfl⟩), hS.apped hb hv, .inl hr⟩⟩
theorem sl_a5 {o : Oper} {a : Act} (x y : Operand) (ho : o.op = .slice 35 x none (some y) none) (b : Nat) (hx : a.eval x = .pointer (some ⟨b, 0, none⟩)) (n : Nat) (hy : a.eval y = .int .i64 (n : Int)) (hn : n ≤ 5) (w : World) :
    (execOp a.eval o).run Try.prog w = .ok (.value (.slice (some ⟨b, 0, none⟩) n 5)) w := by
  have ha : Try.prog.arrayLen 35 = 5 := by kernel_rfl
  have hz : ∀ w, (sizeOf (Try.prog.elem 35)).run Try.prog w = .ok 1 w := fun w => by kernel_rfl
  have h : (Instr.sliceAt 35 (.pointer (some ⟨b, 0, none⟩)) none (some (.int .i64 (n : Int))) none).run Try.prog w = .ok (.slice (some ⟨b, 0, none⟩) n 5) w := by
    rw [run_sliceAt_array_h w _ _ (by kernel_rfl) _ _ (by omega) (by rw [ha]; omega), hz, ha]
    simp [slicedAt, Addr.add]
  unfold execOp
  simp only [ho, Option.map_none, Option.map_some, hx, hy]
  rw [Sem.run_bind, h]
  rfl
theorem set_op {W : World} {b : Nat} {x : Value} {c0 c1 c2 c3 c4 c5 : Value} (h : W.heap[b]? = some (.cells ((#[c0, c1, c2, c3, c4, c5] : Array Value).setIfInBounds 0 x) 25 (0, 0))) : W.heap[b]? = some (.cells #[x, c1, c2, c3, c4, c5] 25 (0, 0)) := h
end Go.Proofs.Ytcpfabkokgiepaa
end
section
namespace Go.Proofs.Ytcpfabkokgiepaa
open Go.RowKit Pl
theorem doV_len2 (op A : Int) (lo hi : Nat) (hs : List Nat) : (doV op A lo hi hs).1.length ≤ 2 := by
  have hM : ∀ m : Vec × Int, (doM m).1.length ≤ 2 := fun m => by unfold doM; split <;> simp
  have hN : ∀ m : Int × Int, (doN m).1.length ≤ 2 := fun m => by unfold doN; split <;> simp
  unfold doV
  split
  · simp
  · split
    · unfold doR
      split
      · simp
      · split
        · exact hM _
        · exact hN _
    · simp
structure EW (w : World) (c1 c2 c3 c4 c5 : Value) (x0 x1 x2 x3 x4 : Nat) (op : Int) (W : World) : Prop where
  ins : W.heap[w.heap.size]? = some (.cells #[.int .i64 op, c1, c2, c3, c4, c5] 25 (0, 0))
  arr : W.heap[w.heap.size + 1]? = some (.cells #[.int .u64 (x0 : Nat), .int .u64 (x1 : Nat), .int .u64 (x2 : Nat), .int .u64 (x3 : Nat), .int .u64 (x4 : Nat)] 35 (0, 0))
  bel : Below w.heap.size w W
theorem EW.below {w W W1 : World} {c1 c2 c3 c4 c5 : Value} {x0 x1 x2 x3 x4 : Nat} {op : Int} (h : EW w c1 c2 c3 c4 c5 x0 x1 x2 x3 x4 op W) (hb : Below W.heap.size W W1) : EW w c1 c2 c3 c4 c5 x0 x1 x2 x3 x4 op W1 :=
  ⟨mV h.ins hb, mV h.arr hb, h.bel.trans (hb.mono h.bel.size)⟩
set_option maxRecDepth 100000 in
set_option maxHeartbeats 4000000 in
theorem each_walk (op A B : Int) (lo hi x0 x1 x2 x3 x4 : Nat) (L : Value) (w : World) (hlo : lo < 2 ^ 64) (hhi : hi < 2 ^ 64) (hl : ∀ x ∈ [x0, x1, x2, x3, x4], x < 18446744073709551616) :
    Calls Try.prog 4 #[.agg #[.int .i64 op, .int .i64 A, .int .i64 B, .int .u64 (lo : Nat), .int .u64 (hi : Nat), L], .agg #[.int .u64 (x0 : Nat), .int .u64 (x1 : Nat), .int .u64 (x2 : Nat), .int .u64 (x3 : Nat), .int .u64 (x4 : Nat)]] w fun e w' => e = .returned (.bool true) ∧ Below w.heap.size w w' := by
  have D1 := Lib.hid (fun (k : Nat) (hk : k < 256) (n : Nat) (hv : Value) (W : World) (h : LView .u64 W hv (([x0, x1, x2, x3, x4].take n).map Nat.cast)) => do_k (64768 + (k : Int)) A B lo hi L hv ([x0, x1, x2, x3, x4].take n) W ⟨by omega, by omega⟩ h (fun x hx => hl x (List.mem_of_mem_take hx)))
  have D2 := Lib.hid (fun (k : Nat) (hk : k < 256) (n : Nat) (hv : Value) (W : World) (h : LView .u64 W hv (([x0, x1, x2, x3, x4].take n).map Nat.cast)) => rdo_k (64768 + (k : Int)) A B lo hi L hv ([x0, x1, x2, x3, x4].take n) W ⟨by omega, by omega⟩ hlo hhi h (fun x hx => hl x (List.mem_of_mem_take hx)) (by rw [List.length_take]; simp; omega))
  have DL := Lib.hid (fun (k n : Nat) => doV_len2 (64768 + (k : Int)) A lo hi ([x0, x1, x2, x3, x4].take n))
  clear hlo hhi hl
  go_enter Try.func4, Try.ntmps4
  go_wp2_with (first | (go_at_call 9; refine (awake_k _).mono ?_; rintro e u0 ⟨rfl, hb0⟩; have hI := mV (heap_alloc2_old w (.cells #[.int .i64 op, .int .i64 A, .int .i64 B, .int .u64 (lo : Nat), .int .u64 (hi : Nat), L] 25) (.cells #[.int .u64 (x0 : Nat), .int .u64 (x1 : Nat), .int .u64 (x2 : Nat), .int .u64 (x3 : Nat), .int .u64 (x4 : Nat)] 35)) hb0; have hA := mV (heap_alloc2_new w (.cells #[.int .i64 op, .int .i64 A, .int .i64 B, .int .u64 (lo : Nat), .int .u64 (hi : Nat), L] 25) (.cells #[.int .u64 (x0 : Nat), .int .u64 (x1 : Nat), .int .u64 (x2 : Nat), .int .u64 (x3 : Nat), .int .u64 (x4 : Nat)] 35)) hb0; have hZ := vH w _ _ hb0; clear hb0))
  have hs : EW w (.int .i64 A) (.int .i64 B) (.int .u64 (lo : Nat)) (.int .u64 (hi : Nat)) L x0 x1 x2 x3 x4 op u0 := ⟨hI, hA, hZ⟩
  clear hI hA hZ
  go_loopw [5] (fun iv wr => ∃ (k : Nat) (op' : Int), k ≤ 256 ∧ iv = .int .i64 (64768 + (k : Int)) ∧ EW w (.int .i64 A) (.int .i64 B) (.int .u64 (lo : Nat)) (.int .u64 (hi : Nat)) L x0 x1 x2 x3 x4 op' wr) (fun iv _ => (65024 - intOf iv).toNat)
  case atStart => exact ⟨0, op, Nat.zero_le _, rfl, hs⟩
  case round =>
    obtain ⟨wo, hwo⟩ : ∃ x, x = wr := ⟨_, rfl⟩
    subst hwo
    clear hs
    obtain ⟨k, op', hk, rfl, hs⟩ := hrel
    by_cases hlt : k < 256
    · have hq : decide (64768 + (k : Int) ≤ 65023) = true := decide_eq_true (by omega)
      have hI := hs.ins
      go_wp2_with (first | (refine rP rfl 3 size_i64 _ _ rfl w.heap.size 0 rfl (.int .i64 _) rfl rfl rfl _ _ hI (by simp) ?_; intro y1 gy sy hc2))
      skip
      have hs1 : EW w (.int .i64 A) (.int .i64 B) (.int .u64 (lo : Nat)) (.int .u64 (hi : Nat)) L x0 x1 x2 x3 x4 (64768 + (k : Int)) y1 :=
        ⟨set_op hc2, (gy.block _ (mF hs.arr) (fun e => by injection e with e; omega)).trans hs.arr, hs.bel.trans (tU gy hs.bel.size (fun g e => by injection e with e; omega))⟩
      clear hI hc2 gy sy hs hq
      go_loopw [6] (fun iv wr => ∃ n : Nat, n ≤ 6 ∧ iv = .int .i64 n ∧ EW w (.int .i64 A) (.int .i64 B) (.int .u64 (lo : Nat)) (.int .u64 (hi : Nat)) L x0 x1 x2 x3 x4 (64768 + (k : Int)) wr) (fun iv _ => 6 - (intOf iv).toNat)
      case atStart => exact ⟨0, Nat.zero_le _, rfl, hs1⟩
      case round =>
        obtain ⟨wi, hwi⟩ : ∃ x, x = wr := ⟨_, rfl⟩
        subst hwi
        clear hs1
        obtain ⟨n, hn, rfl, hs⟩ := hrel
        by_cases hl5 : n ≤ 5
        · have vL : LView .u64 wi (.slice (some ⟨w.heap.size + 1, 0, none⟩) n 5) (([x0, x1, x2, x3, x4].take n).map Nat.cast) := by
            have := lv_a5 _ _ _ _ _ hs.arr n hl5
            rw [List.map_take]
            exact this
          have hI := hs.ins
          have HD1 := Lib.hid (fun hv W h => D1.out k hlt n hv W h)
          have HD2 := Lib.hid (fun hv W h => D2.out k hlt n hv W h)
          have hlen := DL.out k n
          have hHn : ([x0, x1, x2, x3, x4].take n).length = n := by rw [List.length_take]; simp; omega
          generalize [x0, x1, x2, x3, x4].take n = H at vL HD1 HD2 hlen hHn
          generalize doV (64768 + (k : Int)) A lo hi H = R at HD1 HD2 hlen
          have hnq : decide ((n : Int) ≤ 5) = true := decide_eq_true (by omega)
          go_upto_region 10 with fail
          refine region_call (SE wi R) (fun v => ∃ rv, v = .tuple #[rv, .int .i64 R.2]) 8 3 [0, 1, 2] [4, 5, 6, 7] (by kernel_rfl) (by kernel_rfl) rfl rfl ⟨(Below.refl _ _).drew, fun v hv => by cases hv⟩ ?_
          simp only [vW, List.getElem?_cons_zero, List.getElem?_cons_succ]
          repeat (first | (refine wpDA_here rfl (fun D u hS => run_lin _ rfl w.heap.size rfl _ _ _ _ _ _ (mV hI hS.bel)) ?_; simp only [Act.put, List.setIfInBounds_toArray, List.set_cons_zero, List.set_cons_succ]) | (refine wpDA_here rfl (fun D u hS => sl_a5 _ _ rfl (w.heap.size + 1) rfl n rfl hl5 u) ?_; simp only [Act.put, List.setIfInBounds_toArray, List.set_cons_zero, List.set_cons_succ]) | (refine wpDA_pure (v := ?_) rfl (fun u => ?_) ?_; rotate_left; (focus (go_simp; (try with_reducible rfl); done)); simp only [Act.put, List.setIfInBounds_toArray, List.set_cons_zero, List.set_cons_succ]))
          refine pG ⟨10, ?_, fun u => ?_, fun u hS => ?_, ?_⟩
          rotate_left 1
          focus (go_simp; (try with_reducible rfl); done)
          · refine (HD1.out _ u (vL.below hS.bel)).mono ?_
            rintro e u5 ⟨hd, hbb⟩
            exact hS.of hd hbb
          rintro _ ⟨rv1, rfl⟩
          simp only [vW, List.getElem?_cons_zero, List.getElem?_cons_succ]
          simp only [Act.put, List.setIfInBounds_toArray, List.set_cons_zero, List.set_cons_succ]
          repeat (first | (refine wpDA_pure (v := ?_) rfl (fun u => ?_) ?_; rotate_left; (focus (go_simp; (try with_reducible rfl); done)); simp only [Act.put, List.setIfInBounds_toArray, List.set_cons_zero, List.set_cons_succ]))
          refine pG (fun u5 hS1 => ?_)
          obtain ⟨hb1, hv1⟩ := hS1
          obtain ⟨rx, he, hr1⟩ := hv1 _ rfl
          injection he with he
          injection he with he
          injection he with he _
          subst he
          clear hv1 HD1
          replace hs := hs.below hb1
          replace vL := vL.below hb1
          clear hI hb1
          by_cases hE : R.2 = 0
          · have hEq : (R.2 != 0) = false := by simp [hE]
            go_upto_region 12 with fail
            have hI := hs.ins
            refine region_plan (SP u5 H R) (stepP R) valP (0, undef) 10 [1, 4, 5] [6, 7, 8, 9] [([0, 2, 3], 1), ([], 4), ([], 5)] (by kernel_rfl) (by kernel_rfl) SP.start ?_
            simp only [planE, vW, List.getElem?_cons_zero, List.getElem?_cons_succ]
            repeat (first | (refine wpDA_here rfl (fun D u hS => run_lin _ rfl w.heap.size rfl _ _ _ _ _ _ (mV hI hS.bel)) ?_; simp only [Act.put, List.setIfInBounds_toArray, List.set_cons_zero, List.set_cons_succ]) | (refine wpDA_here rfl (fun D u hS => sl_a5 _ _ rfl (w.heap.size + 1) rfl n rfl hl5 u) ?_; simp only [Act.put, List.setIfInBounds_toArray, List.set_cons_zero, List.set_cons_succ]) | (refine wpDA_pure (v := ?_) rfl (fun u => ?_) ?_; rotate_left; (focus (go_simp; (try with_reducible rfl); done)); simp only [Act.put, List.setIfInBounds_toArray, List.set_cons_zero, List.set_cons_succ]))
            refine pG ⟨_, rfl, ⟨rfl, fun u hS => ?_⟩, ?_⟩
            · exact ⟨_, .inl ⟨(1, _), .inl ⟨rfl, rfl, _, rfl⟩, hS.made, .inl (op_bu0 rfl)⟩⟩
            intro D' hst
            obtain ⟨b0, rfl⟩ := stepP_1 hst
            clear hst
            simp only [Act.put, List.setIfInBounds_toArray, List.set_cons_zero, List.set_cons_succ]
            simp only [valP_mk, planE, vW, List.getElem?_cons_zero, List.getElem?_cons_succ]
            refine pG ⟨_, rfl, ⟨rfl, fun u hS => ?_⟩, ?_⟩
            · exact hS.app _ _ rfl rfl rfl (vL.below hS.bel) hHn hl5
            intro D' hst
            obtain ⟨ad, m, c, rfl⟩ := stepP_4 hst
            clear hst
            simp only [Act.put, List.setIfInBounds_toArray, List.set_cons_zero, List.set_cons_succ]
            simp only [valP_mk, planE, vW, List.getElem?_cons_zero, List.getElem?_cons_succ]
            refine pG ⟨_, rfl, ⟨rfl, fun u hS => ⟨u, .inr ⟨11, ?_, ?_, ?_⟩⟩⟩, ?_⟩
            rotate_left 1
            focus (go_simp; (try with_reducible rfl); done)
            · refine (HD2.out _ u (hS.s2 rfl)).mono ?_
              rintro e u6 ⟨hd, hbb⟩
              exact hS.of hd hbb
            intro D' hst
            obtain ⟨rv2, rfl⟩ := stepP_5 hst
            clear hst
            simp only [Act.put, List.setIfInBounds_toArray, List.set_cons_zero, List.set_cons_succ]
            simp only [valP_mk, planE, vW, List.getElem?_cons_zero, List.getElem?_cons_succ]
            repeat (first | (refine wpDA_pure (v := ?_) rfl (fun u => ?_) ?_; rotate_left; (focus (go_simp; (try with_reducible rfl); done)); simp only [Act.put, List.setIfInBounds_toArray, List.set_cons_zero, List.set_cons_succ]))
            refine pG (fun u6 hS2 => ?_)
            obtain ⟨rx, he, hr2⟩ := hS2.s3 rfl
            injection he with he
            injection he with he
            injection he with he _
            subst he
            have hb2 := hS2.bel
            replace hs := hs.below hb2
            replace hr1 := hr1.below hb2
            clear hS2 hb2 HD2 vL hI
            go_wp2_with (first | (go_at_call 12; refine (same_tt _ _ _ _ hr1 hr2 (by rw [List.length_map]; omega)).mono ?_; rintro e u7 ⟨rfl, hb7⟩; replace hs := hs.below hb7; clear hb7))
            (refine ⟨?_, by simp [intOf]; omega⟩; first | exact ⟨n + 1, by omega, by go_num, hs⟩ | ((repeat apply Exists.intro); exact ⟨⟨n + 1, by omega, by go_num, hs⟩, rfl⟩))
          · have hEq : (R.2 != 0) = true := by simp [hE]
            go_wp2_with fail
            (refine ⟨?_, by simp [intOf]; omega⟩; first | exact ⟨n + 1, by omega, by go_num, hs⟩ | ((repeat apply Exists.intro); exact ⟨⟨n + 1, by omega, by go_num, hs⟩, rfl⟩))
        · obtain rfl : n = 6 := by omega
          go_wp2_with fail
          (refine ⟨?_, by simp [intOf]; omega⟩; first | exact ⟨k + 1, _, by omega, by go_num, hs⟩ | ((repeat apply Exists.intro); exact ⟨⟨k + 1, _, by omega, by go_num, hs⟩, rfl⟩))
    · obtain rfl : k = 256 := by omega
      go_wp2_with fail
      go_ret
      exact ⟨rfl, hs.bel⟩
end Go.Proofs.Ytcpfabkokgiepaa
end
section
namespace Go.Proofs.Ytcpfabkokgiepaa
open Go.RowKit Go.ChangeShapes Go.WideShapes Go.ChangeAt Pl
set_option maxRecDepth 100000 in
theorem ifields : ∃ f0 f1 f2 f3 f4 f5 : Field, Try.prog.underlying 25 = some (.struct #[f0, f1, f2, f3, f4, f5]) ∧ (f0.type = 3 ∧ f0.offset = 0) ∧ (f1.type = 3 ∧ f1.offset = 1) ∧ (f2.type = 3 ∧ f2.offset = 2) ∧ (f3.type = 22 ∧ f3.offset = 3) ∧ (f4.type = 22 ∧ f4.offset = 4) :=
  ⟨_, _, _, _, _, _, rfl, ⟨rfl, rfl⟩, ⟨rfl, rfl⟩, ⟨rfl, rfl⟩, ⟨rfl, rfl⟩, ⟨rfl, rfl⟩⟩
set_option maxRecDepth 100000 in
theorem trod_instr {H : Type} {enc : TypeId × Value → H} {w : World} {spare : Nat → Bool} {held : Bool} {base fuel : Nat} {c0 c1 c2 c3 c4 c5 : Value} {x : DataW H × List MemPlace}
    (h : DataW.trod enc Try.prog w base spare held fuel 25 [c0, c1, c2, c3, c4, c5] = some x) :
    ∃ op a b lo hi, c0 = .int .i64 op ∧ c1 = .int .i64 a ∧ c2 = .int .i64 b ∧ c3 = .int .u64 lo ∧ c4 = .int .u64 hi ∧ (Lit.int .i64 op).wf = true ∧ (Lit.int .i64 a).wf = true ∧ (Lit.int .i64 b).wf = true ∧ (Lit.int .u64 lo).wf = true ∧ (Lit.int .u64 hi).wf = true := by
  have hi : Try.prog.underlying 3 = some (.int .i64) := by kernel_rfl
  have hu : Try.prog.underlying 22 = some (.int .u64) := by kernel_rfl
  have hci : Try.prog.cellsOf 3 = 1 := by kernel_rfl
  have hcu : Try.prog.cellsOf 22 = 1 := by kernel_rfl
  obtain ⟨f0, f1, f2, f3, f4, f5, hS, ⟨t0, o0⟩, ⟨t1, o1⟩, ⟨t2, o2⟩, ⟨t3, o3⟩, ⟨t4, o4⟩⟩ := ifields
  obtain ⟨xs, n, _, _, _, hl, hx⟩ := DataW.trod_struct hS h
  have hl6 : xs.length = 6 := hl
  have g0 := hx 0 f0 rfl
  have g1 := hx 1 f1 rfl
  have g2 := hx 2 f2 rfl
  have g3 := hx 3 f3 rfl
  have g4 := hx 4 f4 rfl
  rw [List.getElem?_eq_getElem (by omega), t0, o0, hci] at g0
  rw [List.getElem?_eq_getElem (by omega), t1, o1, hci] at g1
  rw [List.getElem?_eq_getElem (by omega), t2, o2, hci] at g2
  rw [List.getElem?_eq_getElem (by omega), t3, o3, hcu] at g3
  rw [List.getElem?_eq_getElem (by omega), t4, o4, hcu] at g4
  obtain ⟨z0, e0, _, w0⟩ := DataW.trod_int hi g0
  obtain ⟨z1, e1, _, w1⟩ := DataW.trod_int hi g1
  obtain ⟨z2, e2, _, w2⟩ := DataW.trod_int hi g2
  obtain ⟨z3, e3, _, w3⟩ := DataW.trod_int hu g3
  obtain ⟨z4, e4, _, w4⟩ := DataW.trod_int hu g4
  simp at e0 e1 e2 e3 e4
  exact ⟨z0, z1, z2, z3, z4, e0, e1, e2, e3, e4, w0, w1, w2, w3, w4⟩
set_option maxRecDepth 100000 in
theorem open_instr {H : Type} {enc : TypeId × Value → H} {w : World} {spare : Nat → Bool} {held : Bool} {base b0 : Nat} {r : Reach} {v : Value} {d : DataW H} {p : List MemPlace}
    (hv : Value.okWide Try.prog w r b0 25 v) (h : DataW.Trod enc Try.prog w base spare held 25 v d p) :
    ∃ op a b lo hi L, v = .agg #[.int .i64 op, .int .i64 a, .int .i64 b, .int .u64 lo, .int .u64 hi, L] ∧ (Lit.int .i64 op).wf = true ∧ (Lit.int .i64 a).wf = true ∧ (Lit.int .i64 b).wf = true ∧ (Lit.int .u64 lo).wf = true ∧ (Lit.int .u64 hi).wf = true := by
  have hc : Try.prog.cellsOf 25 = 6 := by kernel_rfl
  obtain ⟨fs, hS⟩ := iunder2
  unfold Value.okWide at hv
  rw [hS] at hv
  obtain ⟨cs, rfl, hsz, _⟩ := hv
  rw [hc] at hsz
  obtain ⟨fuel, hf⟩ := h
  obtain ⟨l⟩ := cs
  match l, hsz, hf with
  | [c0, c1, c2, c3, c4, c5], _, hf =>
    obtain ⟨op, a, b, lo, hi, rfl, rfl, rfl, rfl, rfl, w0, w1, w2, w3, w4⟩ := trod_instr (x := (d, p)) (by simpa [Value.cells] using hf)
    exact ⟨op, a, b, lo, hi, c5, rfl, w0, w1, w2, w3, w4⟩
set_option maxRecDepth 100000 in
theorem open_a5 {H : Type} {enc : TypeId × Value → H} {w : World} {spare : Nat → Bool} {held : Bool} {base b0 : Nat} {r : Reach} {v : Value} {d : DataW H} {p : List MemPlace}
    (hv : Value.okWide Try.prog w r b0 35 v) (h : DataW.Trod enc Try.prog w base spare held 35 v d p) : ∃ x0 x1 x2 x3 x4 : Nat, v = .agg #[.int .u64 (x0 : Nat), .int .u64 (x1 : Nat), .int .u64 (x2 : Nat), .int .u64 (x3 : Nat), .int .u64 (x4 : Nat)] ∧
      x0 < 18446744073709551616 ∧ x1 < 18446744073709551616 ∧ x2 < 18446744073709551616 ∧ x3 < 18446744073709551616 ∧ x4 < 18446744073709551616 := by
  have hu : Try.prog.underlying 22 = some (.int .u64) := by kernel_rfl
  have hc1 : Try.prog.cellsOf 22 = 1 := by kernel_rfl
  have hc5 : Try.prog.cellsOf 35 = 5 := by kernel_rfl
  unfold Value.okWide at hv
  rw [a5under] at hv
  obtain ⟨cs, rfl, hsz, _⟩ := hv
  rw [hc5] at hsz
  obtain ⟨fuel, hf⟩ := h
  obtain ⟨xs, m, _, _, _, hl, hx⟩ := DataW.trod_array a5under hf
  simp only [Value.cells, hc1, Nat.mul_one] at hx
  have hcell : ∀ i, i < 5 → ∃ a : Nat, a < 18446744073709551616 ∧ cs[i]? = some (.int .u64 (a : Int)) := fun i hi => by
    have h1 := hx i hi
    have hci : (cs.toList.drop i).take 1 = [cs[i]'(by omega)] := by
      rw [List.drop_eq_getElem_cons (by simpa using (by omega : i < cs.size))]
      simp
    rw [hci, List.getElem?_eq_getElem (by omega)] at h1
    obtain ⟨a, e, _, wf⟩ := DataW.trod_int hu h1
    simp at e
    have hb := bounds_u64 wf
    refine ⟨a.toNat, by omega, ?_⟩
    rw [Array.getElem?_eq_getElem (by omega), e, Int.toNat_of_nonneg hb.1]
  obtain ⟨x0, h0, e0⟩ := hcell 0 (by decide)
  obtain ⟨x1, h1, e1⟩ := hcell 1 (by decide)
  obtain ⟨x2, h2, e2⟩ := hcell 2 (by decide)
  obtain ⟨x3, h3, e3⟩ := hcell 3 (by decide)
  obtain ⟨x4, h4, e4⟩ := hcell 4 (by decide)
  refine ⟨x0, x1, x2, x3, x4, ?_, h0, h1, h2, h3, h4⟩
  refine congrArg Value.agg ?_
  apply Array.ext_getElem?
  intro i
  match i with
  | 0 => exact e0
  | 1 => exact e1
  | 2 => exact e2
  | 3 => exact e3
  | 4 => exact e4
  | i + 5 => rw [Array.getElem?_eq_none (by omega), Array.getElem?_eq_none (by simp)]
set_option maxRecDepth 100000 in
theorem vectorEach_lifted (os : Os) (started : os.Started) (H : Type) (enc : TypeId × Value → H) :
    ReturnsInHanded {} Try.checked os 4 .any (Rows.vectorEachSpec.pre6 enc Try.prog Try.f4 Rows.vectorEachRow.domain false) (Rows.vectorEachSpec.post enc Try.prog Try.f4 false true false false) := by
  refine returnsInHanded_of_change (C := Try.checked) Try.own started (by kernel_rfl) Try.func4
    (ChangeSpec.witness6 (enc := enc) (C := Try.checked) false ⟨#[], #[.agg #[.int .i64 0, .int .i64 0, .int .i64 0, .int .u64 0, .int .u64 0, .slice none 0 0], .agg #[.int .u64 0, .int .u64 0, .int .u64 0, .int .u64 0, .int .u64 0]], []⟩ 8 (by kernel_rfl) (by kernel_rfl) (by kernel_rfl) (by kernel_rfl)) ?_
  intro W base args ds gs before hval0 hW hcnd _
  have hval : ∀ (j : Nat) t v, Try.f4.params[j]? = some t → args[j]? = some v → Value.okWide Try.prog W .any base t v := hval0
  have hW' := hW
  obtain ⟨p, q, hA0, hV, rfl, hfz, hnd⟩ := hW
  have hA : DataW.TrodAll enc Try.prog W 0 (fun _ => true) true Try.f4.params.toList args.toList ds p := hA0
  rw [Try.params4] at hA hval
  obtain ⟨v0, v1, d0, d1, p0, p1, rfl, rfl, rfl, h0, h1⟩ := trodAll_two hA
  obtain ⟨rfl, rfl⟩ := trodVars_none hV
  clear hA0 hval0
  obtain ⟨op, a, b, lo, hi, L, rfl, w0, w1, w2, w3, w4⟩ := open_instr (hval 0 25 v0 rfl rfl) h0
  obtain ⟨q0, q1, q2, q3, q4, rfl, kk0, kk1, kk2, kk3, kk4⟩ := open_a5 (hval 1 35 v1 rfl rfl) h1
  have b3 := bounds_u64 w3
  have b4 := bounds_u64 w4
  obtain ⟨lo, rfl⟩ := Int.eq_ofNat_of_zero_le b3.1
  obtain ⟨hi, rfl⟩ := Int.eq_ofNat_of_zero_le b4.1
  simp only [List.append_nil] at hW'
  have laid : laidOutB Try.prog = true := by kernel_rfl
  refine (each_walk op a b lo hi q0 q1 q2 q3 q4 L W (by omega) (by omega) (by intro x hx; simp only [List.mem_cons, List.not_mem_nil, or_false] at hx; rcases hx with rfl | rfl | rfl | rfl | rfl <;> assumption)).mono fun e W' ⟨he, hb⟩ => ?_
  subst he
  exact ⟨_, rfl, _, _, _, [], _, [], hW', trodAll_mk1 (shut_bool Try.underlying4 _), trodAll_mk2 (Below.trod laid (by kernel_rfl) (of_decide_eq_true (by kernel_rfl)) h0 hb (fun x hx => hW'.lt x (by simp [hx]))) (Below.trod laid (by kernel_rfl) (of_decide_eq_true (by kernel_rfl)) h1 hb (fun x hx => hW'.lt x (by simp [hx]))), rfl, hb.frame _, fun h => by cases h⟩
theorem vectorEach_holds : Rows.VectorEachSaid :=
  OpenClaim.holds_of_wide 4 Try.f4 rfl rfl rfl rfl rfl rfl rfl ⟨rfl, rfl, rfl, rfl, rfl⟩ rfl rfl rfl rfl rfl (by kernel_rfl) Try.func4 (by kernel_rfl)
    (of_decide_eq_true (by kernel_rfl)) (by unfold Func.isWrapper; rw [if_neg (of_decide_eq_false (by kernel_rfl))]; exact ⟨rfl, rfl⟩)
    (fun os started H enc _ => vectorEach_lifted os started H enc)
end Go.Proofs.Ytcpfabkokgiepaa
end
