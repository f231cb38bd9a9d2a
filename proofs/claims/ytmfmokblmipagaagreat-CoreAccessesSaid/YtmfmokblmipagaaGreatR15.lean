/-
  Texts TaL, TaM, TaZ.
-/
import Derived.Test.YtmfmokblmipagaaGreatR12
import Derived.Test.YtmfmokblmipagaaGreatR13
import Derived.Test.YtmfmokblmipagaaGreatR14
set_option linter.unusedSimpArgs false
set_option linter.unusedVariables false
set_option maxHeartbeats 8000000
open Pl
section
namespace Go.Proofs.YtmfmokblmipagaaGreat
open Go.RowKit Pl
theorem TR.stepB {A : Nat} {R : Option Nat} {l l2 : List Cel} {b k k2 : Nat} {u u2 w2 : World} {f : FuncId} {args : Array Value} {E : Ending} (T : TR A R u l b k u2) (hb : Below u2.heap.size u2 w2)
 (h : ∀ R2, TA A l b k R2 u2 → Calls Tryz.prog f args w2 fun e u3 => e = E ∧ TR A R2 w2 l2 b k2 u3) : Calls Tryz.prog f args w2 fun e u3 => e = E ∧ TR A R u l2 b k2 u3 := by
 obtain ⟨R2, h1, h2, h3⟩ := T.ex
 exact (h R2 h1).mono fun e u3 hh => ⟨hh.1, TR.trans (h2.below hb) h3 hh.2⟩
theorem TR.stepA {A : Nat} {R : Option Nat} {l l2 : List Cel} {b k k2 : Nat} {u u2 : World} {f : FuncId} {args : Array Value} {E : Ending} {o : Obj} (T : TR A R u l b k u2)
 (h : ∀ R2, TA A l b k R2 u2 → Calls Tryz.prog f args (u2.alloc o) fun e u3 => e = E ∧ TR A R2 (u2.alloc o) l2 b k2 u3) : Calls Tryz.prog f args (u2.alloc o) fun e u3 => e = E ∧ TR A R u l2 b k2 u3 :=
 T.stepB ((Below.refl _ _).alloc (Nat.le_refl _) o) h
theorem IL.far {A : Nat} {R : Option Nat} {l : List Cel} {b k : Nat} {u w2 : World} (h : TA A l b k R u) (x : Nat) (hx : u.heap.size ≤ x) (cs : Array Value) (T : TypeId) (hc : w2.heap[x]? = some (.cells cs T (0, 0))) (xs : List Nat) (n c : Nat) (hn : n = xs.length) (hv : ∀ (i y : Nat), xs[i]? = some y → cs[i]? = some (Value.int .i64 (y : Int))) : IL A R w2 (.slice (some ⟨x, 0, none⟩) n c) xs :=
 ⟨some ⟨x, 0, none⟩, c, by rw [hn], .inr ⟨x, cs, T, rfl, hc, fun e => by have := h.lt.1; omega, fun e => by have := h.lt.2 _ e.symm; omega, hv⟩⟩
theorem vals1 (x : Nat) : ∀ (i y : Nat), [x][i]? = some y → (#[Value.int .i64 (x : Int)] : Array Value)[i]? = some (Value.int .i64 (y : Int)) := by
 intro i y h
 match i with
 | 0 => simp at h; subst h; rfl
 | i + 1 => simp at h
theorem vals2 (x z : Nat) : ∀ (i y : Nat), [x, z][i]? = some y → (#[Value.int .i64 (x : Int), Value.int .i64 (z : Int)] : Array Value)[i]? = some (Value.int .i64 (y : Int)) := by
 intro i y h
 match i with
 | 0 => simp at h; subst h; rfl
 | 1 => simp at h; subst h; rfl
 | i + 2 => simp at h
theorem IL.one {A : Nat} {R : Option Nat} {l : List Cel} {b k : Nat} {u : World} {T : TypeId} (h : TA A l b k R u) (x : Nat) : IL A R (u.alloc (.cells #[.int .i64 (x : Int)] T)) (.slice (some ⟨u.heap.size, 0, none⟩) 1 1) [x] := IL.far h _ (Nat.le_refl _) _ _ (heap_alloc_new _ _) _ _ _ rfl (vals1 x)
theorem IL.two {A : Nat} {R : Option Nat} {l : List Cel} {b k : Nat} {u : World} {T : TypeId} (h : TA A l b k R u) (x z : Nat) : IL A R (u.alloc (.cells #[.int .i64 (x : Int), .int .i64 (z : Int)] T)) (.slice (some ⟨u.heap.size, 0, none⟩) 2 2) [x, z] := IL.far h _ (Nat.le_refl _) _ _ (heap_alloc_new _ _) _ _ _ rfl (vals2 x z)
structure LS (W0 : World) (cs : Array Value) (T : TypeId) (n : Nat) (D : Option Value) (w : World) : Prop where
 bel : Below W0.heap.size W0 w
 new : ∀ s, D = some s → ∃ x, s = .slice (some ⟨x, 0, none⟩) n n ∧ W0.heap.size ≤ x ∧ w.heap[x]? = some (.cells cs T (0, 0))
theorem LS.start {W0 : World} {cs : Array Value} {T : TypeId} {n : Nat} : LS W0 cs T n none W0.drew := ⟨(Below.refl _ _).drew, fun s h => by simp at h⟩
theorem LS.mk1 {W0 w : World} {cs : Array Value} {T : TypeId} {n : Nat} (h : LS W0 cs T n none w) : LS W0 cs T n (some (.slice (some ⟨w.heap.size, 0, none⟩) n n)) (w.alloc (.cells cs T)) :=
 ⟨h.bel.alloc h.bel.size _, fun s hs => ⟨w.heap.size, by simpa using hs.symm, h.bel.size, heap_alloc_new _ _⟩⟩
theorem LS.get {W0 w : World} {cs : Array Value} {T : TypeId} {n : Nat} {D : Option Value} (h : LS W0 cs T n D w) {g : Nat} {o : Obj} (hg : W0.heap[g]? = some o) : w.heap[g]? = some o := blk_keep hg h.bel
theorem run_bi2_op {o : Oper} {a : Act} {w : World} (x y : Operand) (z v : Int) (ho : o.op = .buildSlice 23 2 #[(0, x), (1, y)]) (hx : a.eval x = .int .i64 z) (hy : a.eval y = .int .i64 v) : (execOp a.eval o).run Tryz.prog w = .ok (.value (.slice (some ⟨w.heap.size, 0, none⟩) 2 2)) (w.alloc (.cells #[.int .i64 z, .int .i64 v] 3)) := by
 have hp : (#[(0, x), (1, y)] : Array (Nat × Operand)).map (fun (i, x) => (i, a.eval x)) = #[(0, .int .i64 z), (1, .int .i64 v)] := by simp [hx, hy]
 unfold execOp
 simp only [ho]
 rw [hp, Sem.run_bind, run_bi2]
 rfl
def onesN (w : Nat) : Nat := 2 ^ w - 1
theorem ones_k (w : Nat) (hw : w = 8 ∨ w = 16 ∨ w = 32 ∨ w = 64) (u : World) : Calls Tryz.prog 59 #[.int .i64 (w : Int)] u fun e u2 => e = .returned (.int .u64 (onesN w : Int)) ∧ u2 = u := by
 rcases hw with rfl | rfl | rfl | rfl
 ·exact ones_8 u
 ·exact ones_16 u
 ·exact ones_32 u
 ·exact ones_64 u
def intoC (w i : Nat) : List Cel := (if w < 64 then [numc (onesN w), opc 131] else []) ++ (if 0 < i then [numc (w * i), opc 134, opc 132] else [])
set_option maxRecDepth 100000 in
theorem into_k (A b k w i : Nat) (l : List Cel) (R : Option Nat) (u : World) (h : TA A l b k R u) (hw : w = 8 ∨ w = 16 ∨ w = 32 ∨ w = 64) (hi : w * i < 64) (h1 : l.length + 10 ≤ 1000) :
 Calls Tryz.prog 81 #[.pointer (some ⟨A, 0, none⟩), .int .i64 (w : Int), .int .i64 (i : Int)] u fun e u' => e = .returned (.tuple #[]) ∧ TR A R u (l ++ intoC w i) b k u' := by
 have HO := Lib.hid (ones_k w hw)
 have T := h.start
 have hw2 : w ≤ 64 := by omega
 obtain ⟨p, hp⟩ : ∃ p, p = w * i := ⟨_, rfl⟩
 have em : IntKind.i64.wrap ((w : Int) * (i : Int)) = (p : Int) := by
  rw [← Int.natCast_mul, ← hp, IntWalk.i64_in _ (by omega)]
 have ep : IntKind.u64.wrap (p : Int) = (p : Int) := by rw [IntKind.wrap_u64]; omega
 rw [← hp] at hi
 unfold intoC
 rw [← hp]
 have hp0 : (0 < i ↔ 0 < p) ∨ True := .inr trivial
 clear hp hp0
 go_enter Tryz.func81, Tryz.ntmps81
 go_wp2_with (first | (go_at_call 44; refine Calls.mono (TR.stepA T fun R2 h => num_k A b k _ _ _ [_] R2 _ (h.alloc _) (IL.one h _) (by simp only [zP, zN, zM, zL]; omega)) ?_; rintro e u2 ⟨rfl, T⟩) | (go_at_call 57; refine Calls.mono (TR.stepA T fun R2 h => op_k A b k _ _ [_] R2 _ (h.alloc _) (IL.one h _) (by simp only [zP, zN, zM, zL]; omega)) ?_; rintro e u2 ⟨rfl, T⟩))
 ·refine region_sp1 (LS _ #[.int .i64 131] 3 1) 6 5 [0, 1, 2, 3, 4] rfl (by kernel_rfl) rfl rfl LS.start ?_
  simp only [opsAt, List.getElem?_cons_zero, List.getElem?_cons_succ, List.drop_succ_cons, List.drop_zero]
  repeat (first | (refine wpDA_call (v := .int .u64 (onesN w : Int)) rfl 59 ?_ (fun u => ?_) (fun D u hS => ?_) ?_; rotate_left 1; (focus (go_simp; (try with_reducible rfl); done)); (focus (refine (HO.out _).mono ?_; rintro e u2 ⟨rfl, rfl⟩; exact ⟨rfl, hS⟩)); simp only [Act.put, z5, z6, z7]) | (refine wpDA_pure (v := ?_) rfl (fun u => ?_) ?_; rotate_left; (focus (go_simp; (try with_reducible rfl); done)); simp only [Act.put, z5, z6, z7]))
  refine wpDA_nil ⟨fun w hS => ⟨_, _, hS.mk1, run_bi1_op _ _ rfl rfl⟩, fun s w1 hS => ?_⟩
  obtain ⟨x, rfl, hx1, hx2⟩ := hS.new s rfl
  have hb1 := hS.bel
  clear hS
  go_wp2_with (first | (go_at_call 44; refine Calls.mono (TR.stepB T hb1 fun R2 h => num_k A b k (onesN w) _ _ [131] R2 _ (h.below hb1) (IL.far h x hx1 _ _ hx2 _ _ _ rfl (vals1 131)) (by simp only [zP, zN, zM, zL]; omega)) ?_; clear hb1; rintro e u2 ⟨rfl, T⟩) | (go_at_call 44; refine Calls.mono (TR.stepA T fun R2 h => num_k A b k _ _ _ [_] R2 _ (h.alloc _) (IL.one h _) (by simp only [zP, zN, zM, zL]; omega)) ?_; rintro e u2 ⟨rfl, T⟩) | (go_at_call 57; refine Calls.mono (TR.stepA T fun R2 h => op_k A b k _ _ [_] R2 _ (h.alloc _) (IL.one h _) (by simp only [zP, zN, zM, zL]; omega)) ?_; rintro e u2 ⟨rfl, T⟩))
  all_goals go_end0
  all_goals exact ⟨rfl, by simpa [List.append_assoc] using T⟩
 all_goals go_end0
 all_goals exact ⟨rfl, by simpa [List.append_assoc] using T⟩
def laneC (h w i : Nat) (s : Bool) : List Cel := getc h :: (if w = 64 then [] else if s = true then [numc (64 - w - w * i), opc 134, numc (64 - w), opc 135] else (if 0 < i then [numc (w * i), opc 136] else []) ++ [numc (onesN w), opc 131])
set_option maxRecDepth 100000 in
theorem lane_k (A b k w i hf : Nat) (s : Bool) (l : List Cel) (R : Option Nat) (u : World) (h : TA A l b k R u) (hw : w = 8 ∨ w = 16 ∨ w = 32 ∨ w = 64) (hi : w * i + w ≤ 64) (h1 : l.length + 10 ≤ 1000) :
 Calls Tryz.prog 80 #[.pointer (some ⟨A, 0, none⟩), .int .i64 (hf : Int), .int .i64 (w : Int), .int .i64 (i : Int), .bool s] u fun e u' => e = .returned (.tuple #[]) ∧ TR A R u (l ++ laneC hf w i s) b k u' := by
 have HO := Lib.hid (ones_k w hw)
 have T := h.start
 have hw2 : w ≤ 64 := by omega
 obtain ⟨p, hp⟩ : ∃ p, p = w * i := ⟨_, rfl⟩
 have em : IntKind.i64.wrap ((w : Int) * (i : Int)) = (p : Int) := by
  rw [← Int.natCast_mul, ← hp, IntWalk.i64_in _ (by omega)]
 have ep : IntKind.u64.wrap (p : Int) = (p : Int) := by rw [IntKind.wrap_u64]; omega
 obtain ⟨q, hq⟩ : ∃ q, q = 64 - w := ⟨_, rfl⟩
 have eq1 : IntKind.i64.wrap (64 - (w : Int)) = (q : Int) := by rw [IntWalk.i64_in _ (by omega)]; omega
 have eq2 : IntKind.u64.wrap (q : Int) = (q : Int) := by rw [IntKind.wrap_u64]; omega
 obtain ⟨r, hr⟩ : ∃ r, r = 64 - w - w * i := ⟨_, rfl⟩
 have er1 : IntKind.i64.wrap ((q : Int) - (p : Int)) = (r : Int) := by rw [IntWalk.i64_in _ (by omega)]; omega
 have er2 : IntKind.u64.wrap (r : Int) = (r : Int) := by rw [IntKind.wrap_u64]; omega
 unfold laneC
 rw [← hr, ← hq, ← hp]
 clear hp hq hr hi
 by_cases c : w = 64
 ·have tw : ((w : Int) == 64) = true := by rw [c]; rfl
  rw [if_pos c]
  clear c
  cases s
  all_goals
   go_enter Tryz.func80, Tryz.ntmps80
   go_wp2_with (first | (go_at_call 38; refine Calls.mono (TR.stepA T fun R2 h => get_k A b k _ _ [_] R2 _ (h.alloc _) (IL.one h _) (by simp only [zP, zN, zM, zL]; omega)) ?_; rintro e u2 ⟨rfl, T⟩) | (go_at_call 44; refine Calls.mono (TR.stepA T fun R2 h => num_k A b k _ _ _ [_] R2 _ (h.alloc _) (IL.one h _) (by simp only [zP, zN, zM, zL]; omega)) ?_; rintro e u2 ⟨rfl, T⟩))
   go_end0
   exact ⟨rfl, by simpa [List.append_assoc] using T⟩
 ·have tw : ((w : Int) == 64) = false := by rw [beq_eq_false_iff_ne]; omega
  rw [if_neg c]
  clear c
  cases s
  ·by_cases h0 : 0 < i
   all_goals
    go_enter Tryz.func80, Tryz.ntmps80
    go_wp2_with (first | (go_at_call 38; refine Calls.mono (TR.stepA T fun R2 h => get_k A b k _ _ [_] R2 _ (h.alloc _) (IL.one h _) (by simp only [zP, zN, zM, zL]; omega)) ?_; rintro e u2 ⟨rfl, T⟩) | (go_at_call 44; refine Calls.mono (TR.stepA T fun R2 h => num_k A b k _ _ _ [_] R2 _ (h.alloc _) (IL.one h _) (by simp only [zP, zN, zM, zL]; omega)) ?_; rintro e u2 ⟨rfl, T⟩))
    refine region_sp1 (LS _ #[.int .i64 131] 3 1) 6 5 [0, 1, 2, 3, 4] rfl (by kernel_rfl) rfl rfl LS.start ?_
    simp only [opsAt, List.getElem?_cons_zero, List.getElem?_cons_succ, List.drop_succ_cons, List.drop_zero]
    repeat (first | (refine wpDA_call (v := .int .u64 (onesN w : Int)) rfl 59 ?_ (fun u => ?_) (fun D u hS => ?_) ?_; rotate_left 1; (focus (go_simp; (try with_reducible rfl); done)); (focus (refine (HO.out _).mono ?_; rintro e u2 ⟨rfl, rfl⟩; exact ⟨rfl, hS⟩)); simp only [Act.put, z5, z6, z7]) | (refine wpDA_pure (v := ?_) rfl (fun u => ?_) ?_; rotate_left; (focus (go_simp; (try with_reducible rfl); done)); simp only [Act.put, z5, z6, z7]))
    refine wpDA_nil ⟨fun w hS => ⟨_, _, hS.mk1, run_bi1_op _ _ rfl rfl⟩, fun s w1 hS => ?_⟩
    obtain ⟨x, rfl, hx1, hx2⟩ := hS.new s rfl
    have hb1 := hS.bel
    clear hS
    go_wp2_with (first | (go_at_call 44; refine Calls.mono (TR.stepB T hb1 fun R2 h => num_k A b k (onesN w) _ _ [131] R2 _ (h.below hb1) (IL.far h x hx1 _ _ hx2 _ _ _ rfl (vals1 131)) (by simp only [zP, zN, zM, zL]; omega)) ?_; clear hb1; rintro e u2 ⟨rfl, T⟩))
    go_end0
    exact ⟨rfl, by simpa [List.append_assoc] using T⟩
  ·go_enter Tryz.func80, Tryz.ntmps80
   go_wp2_with (first | (go_at_call 38; refine Calls.mono (TR.stepA T fun R2 h => get_k A b k _ _ [_] R2 _ (h.alloc _) (IL.one h _) (by simp only [zP, zN, zM, zL]; omega)) ?_; rintro e u2 ⟨rfl, T⟩) | (go_at_call 44; refine Calls.mono (TR.stepA T fun R2 h => num_k A b k _ _ _ [_] R2 _ (h.alloc _) (IL.one h _) (by simp only [zP, zN, zM, zL]; omega)) ?_; rintro e u2 ⟨rfl, T⟩))
   go_end0
   exact ⟨rfl, by simpa [List.append_assoc] using T⟩
end Go.Proofs.YtmfmokblmipagaaGreat
end
section
namespace Go.Proofs.YtmfmokblmipagaaGreat
open Go.RowKit Pl
def atc (op n : Nat) : Cel := ⟨op, 0, n⟩
theorem isAgg_asm (w : World) : (isAgg 77).run Tryz.prog w = .ok false w := by kernel_rfl
theorem isAgg_u6 (w : World) : (isAgg 22).run Tryz.prog w = .ok false w := by kernel_rfl
theorem run_bc1_op {o : Oper} {a : Act} {w : World} (x : Operand) (c : Cel) (ho : o.op = .buildSlice 34 1 #[(0, x)]) (hx : a.eval x = .agg (celR c).toArray) : (execOp a.eval o).run Tryz.prog w = .ok (.value (.slice (some ⟨w.heap.size, 0, none⟩) 1 1)) (w.alloc (.cells (celsR [c]).toArray 130)) := by
 have hp : (#[(0, x)] : Array (Nat × Operand)).map (fun (i, x) => (i, a.eval x)) = #[(0, .agg (celR c).toArray)] := by simp [hx]
 unfold execOp
 simp only [ho]
 rw [hp, Sem.run_bind, run_bc1]
 rfl
structure MA (M A n off : Nat) (R : Option Nat) (u : World) : Prop where
 blk : u.heap[M]? = some (.cells #[.pointer (some ⟨A, 0, none⟩), .int .i64 (n : Int), .int .u64 (off : Int)] 100 (0, 0))
 ne : M ≠ A
 nr : some M ≠ R
theorem MA.to {M A n off : Nat} {R R2 : Option Nat} {u u2 : World} (h : MA M A n off R u) (c : Chg A R u u2) (f : Frsh u R R2) : MA M A n off R2 u2 :=
 ⟨(c.block M (block_lt h.blk) h.ne h.nr).trans h.blk, h.ne, fun e => by
   rcases f M e.symm with h4 | h4
   ·exact h.nr h4.symm
   ·exact absurd (block_lt h.blk) (by omega)⟩
theorem MA.below {M A n off : Nat} {R : Option Nat} {u u2 : World} (h : MA M A n off R u) (hb : Below u.heap.size u u2) : MA M A n off R u2 := ⟨blk_keep h.blk hb, h.ne, h.nr⟩
theorem TR.stepM {M A n off : Nat} {R : Option Nat} {l l2 : List Cel} {b k k2 : Nat} {u u2 : World} {f : FuncId} {args : Array Value} {E : Ending} (T : TR A R u l b k u2) (hM : MA M A n off R u)
 (h : ∀ R2, TA A l b k R2 u2 → MA M A n off R2 u2 → Calls Tryz.prog f args u2 fun e u3 => e = E ∧ TR A R2 u2 l2 b k2 u3) : Calls Tryz.prog f args u2 fun e u3 => e = E ∧ TR A R u l2 b k2 u3 := by
 obtain ⟨R2, h1, h2, h3⟩ := T.ex
 exact (h R2 h1 (hM.to h2 h3)).mono fun e u3 hh => ⟨hh.1, TR.trans h2 h3 hh.2⟩
set_option maxRecDepth 100000 in
theorem mat_k (M A n off b k op more : Nat) (l : List Cel) (R : Option Nat) (u : World) (h : TA A l b k R u) (hM : MA M A n off R u) (h1 : l.length + 1 ≤ 1000) (h2 : off + more < 18446744073709551616) :
 Calls Tryz.prog 39 #[.pointer (some ⟨M, 0, none⟩), .int .i64 (op : Int), .int .u64 (more : Int)] u fun e u' => e = .returned (.tuple #[]) ∧ TR A R u (l ++ [atc op (off + more)]) b k u' := by
 have T := h.start
 have hB := hM.blk
 clear h hM
 have e1 : IntKind.u64.wrap ((off : Int) + (more : Int)) = (off : Int) + (more : Int) := by rw [IntKind.wrap_u64]; omega
 go_enter Tryz.func39, Tryz.ntmps39
 go_wp2_with fail
 refine region_sp1 (LS u (celsR [atc op (off + more)]).toArray 130 1) 15 14 [0, 1, 2, 3, 4, 5, 6, 7, 8, 9, 10, 11, 12, 13] rfl (by kernel_rfl) rfl rfl LS.start ?_
 simp only [opsAt, List.getElem?_cons_zero, List.getElem?_cons_succ, List.drop_succ_cons, List.drop_zero]
 repeat (first | (refine wpDA_here rfl (fun D w hS => run_ldq _ isAgg_asm _ rfl M 0 rfl (.pointer (some ⟨A, 0, none⟩)) (by rw [cell_of_row w M 0 _ _ _ (hS.get hB)]; rfl)) ?_; simp only [Act.put, z5, z6, z7]) | (refine wpDA_here rfl (fun D w hS => run_ldq _ isAgg_u6 _ rfl M 2 rfl (.int .u64 (off : Int)) (by rw [cell_of_row w M 2 _ _ _ (hS.get hB)]; rfl)) ?_; simp only [Act.put, z5, z6, z7]) | (refine wpDA_pure (v := ?_) rfl (fun u => ?_) ?_; rotate_left; (focus (go_simp; (try with_reducible rfl); done)); simp only [Act.put, z5, z6, z7]))
 refine wpDA_nil ⟨fun w hS => ⟨_, _, hS.mk1, run_bc1_op _ _ rfl rfl⟩, fun s w1 hS => ?_⟩
 obtain ⟨x, rfl, hx1, hx2⟩ := hS.new s rfl
 have hb1 := hS.bel
 clear hS
 go_wp2_with (first | (go_at_call 79; refine Calls.mono (TR.stepB T hb1 fun R2 h => put_k A b k _ _ _ _ [atc op (off + more)] R2 _ (h.below hb1) rfl hx2 (by omega) (by decide)) ?_; clear hb1; rintro e u2 ⟨rfl, T⟩))
 go_end0
 exact ⟨rfl, T⟩
end Go.Proofs.YtmfmokblmipagaaGreat
end
section
namespace Go.Proofs.YtmfmokblmipagaaGreat
open Go.RowKit Pl
set_option maxRecDepth 100000 in
theorem size18_41 (w : World) : Calls Tryz.prog 115 #[.int .i64 41] w fun e w' => e = .returned (.int .i64 8) ∧ Below w.heap.size w w' := by
 go_enter Tryz.func115, Tryz.ntmps115
 go_wp2_with fail
 go_ret
 exact ⟨rfl, (Below.refl _ _).alloc (Nat.le_refl _) _⟩
set_option maxRecDepth 100000 in
theorem size18_49 (w : World) : Calls Tryz.prog 115 #[.int .i64 49] w fun e w' => e = .returned (.int .i64 1) ∧ Below w.heap.size w w' := by
 go_enter Tryz.func115, Tryz.ntmps115
 go_wp2_with fail
 go_ret
 exact ⟨rfl, (Below.refl _ _).alloc (Nat.le_refl _) _⟩
set_option maxRecDepth 100000 in
theorem size18_51 (w : World) : Calls Tryz.prog 115 #[.int .i64 51] w fun e w' => e = .returned (.int .i64 2) ∧ Below w.heap.size w w' := by
 go_enter Tryz.func115, Tryz.ntmps115
 go_wp2_with fail
 go_ret
 exact ⟨rfl, (Below.refl _ _).alloc (Nat.le_refl _) _⟩
set_option maxRecDepth 100000 in
theorem size18_53 (w : World) : Calls Tryz.prog 115 #[.int .i64 53] w fun e w' => e = .returned (.int .i64 4) ∧ Below w.heap.size w w' := by
 go_enter Tryz.func115, Tryz.ntmps115
 go_wp2_with fail
 go_ret
 exact ⟨rfl, (Below.refl _ _).alloc (Nat.le_refl _) _⟩
set_option maxRecDepth 100000 in
theorem size18_55 (w : World) : Calls Tryz.prog 115 #[.int .i64 55] w fun e w' => e = .returned (.int .i64 8) ∧ Below w.heap.size w w' := by
 go_enter Tryz.func115, Tryz.ntmps115
 go_wp2_with fail
 go_ret
 exact ⟨rfl, (Below.refl _ _).alloc (Nat.le_refl _) _⟩
set_option maxRecDepth 100000 in
theorem size18_60 (w : World) : Calls Tryz.prog 115 #[.int .i64 60] w fun e w' => e = .returned (.int .i64 1) ∧ Below w.heap.size w w' := by
 go_enter Tryz.func115, Tryz.ntmps115
 go_wp2_with fail
 go_ret
 exact ⟨rfl, (Below.refl _ _).alloc (Nat.le_refl _) _⟩
set_option maxRecDepth 100000 in
theorem size18_61 (w : World) : Calls Tryz.prog 115 #[.int .i64 61] w fun e w' => e = .returned (.int .i64 2) ∧ Below w.heap.size w w' := by
 go_enter Tryz.func115, Tryz.ntmps115
 go_wp2_with fail
 go_ret
 exact ⟨rfl, (Below.refl _ _).alloc (Nat.le_refl _) _⟩
set_option maxRecDepth 100000 in
theorem size18_62 (w : World) : Calls Tryz.prog 115 #[.int .i64 62] w fun e w' => e = .returned (.int .i64 4) ∧ Below w.heap.size w w' := by
 go_enter Tryz.func115, Tryz.ntmps115
 go_wp2_with fail
 go_ret
 exact ⟨rfl, (Below.refl _ _).alloc (Nat.le_refl _) _⟩
theorem size18_ld (op : Nat) (h : ldC op ≠ 0) (w : World) : Calls Tryz.prog 115 #[.int .i64 (op : Int)] w fun e w' => e = .returned (.int .i64 (ldC op : Int)) ∧ Below w.heap.size w w' := by
 have : op = 41 ∨ op = 49 ∨ op = 51 ∨ op = 53 := by
  unfold ldC at h
  repeat (first | omega | (split at h; omega))
 rcases this with rfl | rfl | rfl | rfl
 ·exact size18_41 w
 ·exact size18_49 w
 ·exact size18_51 w
 ·exact size18_53 w
theorem size18_st (op : Nat) (h : stC op ≠ 0) (w : World) : Calls Tryz.prog 115 #[.int .i64 (op : Int)] w fun e w' => e = .returned (.int .i64 (stC op : Int)) ∧ Below w.heap.size w w' := by
 have : op = 55 ∨ op = 60 ∨ op = 61 ∨ op = 62 := by
  unfold stC at h
  repeat (first | omega | (split at h; omega))
 rcases this with rfl | rfl | rfl | rfl
 ·exact size18_55 w
 ·exact size18_60 w
 ·exact size18_61 w
 ·exact size18_62 w
theorem ldC_sz {op : Nat} (h : ldC op ≠ 0) : szOk (ldC op) = true ∧ ldC op ≤ 8 := by
 unfold ldC at h ⊢
 split <;> (try exact ⟨rfl, by decide⟩)
 split <;> (try exact ⟨rfl, by decide⟩)
 split <;> (try exact ⟨rfl, by decide⟩)
 split <;> (try exact ⟨rfl, by decide⟩)
 simp_all
theorem stC_sz {op : Nat} (h : stC op ≠ 0) : szOk (stC op) = true ∧ stC op ≤ 8 := by
 unfold stC at h ⊢
 split <;> (try exact ⟨rfl, by decide⟩)
 split <;> (try exact ⟨rfl, by decide⟩)
 split <;> (try exact ⟨rfl, by decide⟩)
 split <;> (try exact ⟨rfl, by decide⟩)
 simp_all
set_option maxRecDepth 100000 in
theorem load18_k (o : MObj) (op x N : Nat) (w : World) (h : MemAt w o) (ho : ldC op ≠ 0) (hx : x < 18446744073709551616) (hN : N < 8589934592) :
 Calls Tryz.prog 116 #[.pointer (some ⟨o.p, 0, none⟩), .int .i64 (op : Int), .int .u64 (x : Int), .int .u64 (N : Int)] w fun e w' => e = .returned (.tuple #[.int .u64 ((if x % 4294967296 + N + ldC op ≤ o.n then loadN o.β (x % 4294967296 + N) (ldC op) else 0 : Nat) : Int), .int .i64 (if x % 4294967296 + N + ldC op ≤ o.n then 0 else 23)]) ∧ Below w.heap.size w w' := by
 have HS := Lib.hid (fun W => size18_ld op ho W)
 obtain ⟨s, hs⟩ : ∃ s, s = ldC op := ⟨_, rfl⟩
 obtain ⟨A, hA⟩ : ∃ A, A = x % 4294967296 + N := ⟨_, rfl⟩
 have hsz := ldC_sz ho
 have HR := fun (W : World) (hm : MemAt W o) => rload_k o W hm A (s : Int) (by omega) (by omega)
 rw [← hs] at HS hsz ⊢
 rw [← hA]
 have hop : op = 41 ∨ op = 49 ∨ op = 51 ∨ op = 53 := by
  unfold ldC at ho
  repeat (first | omega | (split at ho; omega))
 obtain ⟨y, hy⟩ : ∃ y : Nat, y = (if A + s ≤ o.n then loadN o.β A s else 0) := ⟨_, rfl⟩
 obtain ⟨E, hE⟩ : ∃ E : Int, E = (if A + s ≤ o.n then 0 else 23) := ⟨_, rfl⟩
 have h1 : loadX o A (s : Int) = y := by
  rw [hy]
  unfold loadX mayE
  rw [if_pos hsz.1, Int.toNat_natCast]
  split <;> simp_all
 have h2 : mayE o.n A (s : Int) = E := by
  rw [hE]
  unfold mayE
  rw [if_pos hsz.1, Int.toNat_natCast]
 rw [← hy, ← hE]
 simp only [h1, h2] at HR
 replace HR := Lib.hid HR
 have HM := Lib.hid h
 have e1 : IntKind.u64.wrap ((x : Int) % 4294967296 + (N : Int)) = (A : Int) := by rw [IntKind.wrap_u64]; omega
 obtain ⟨z, hz⟩ : ∃ z : Int, z = (op : Int) := ⟨_, rfl⟩
 rw [← hz] at HS ⊢
 have t1 : (z == 44) = false := beq_eq_false_iff_ne.2 (by omega)
 have t2 : (z == 46) = false := beq_eq_false_iff_ne.2 (by omega)
 have t3 : (z == 48) = false := beq_eq_false_iff_ne.2 (by omega)
 have t4 : (z == 50) = false := beq_eq_false_iff_ne.2 (by omega)
 have t5 : (z == 52) = false := beq_eq_false_iff_ne.2 (by omega)
 have h41 : z = 41 ∨ 49 ≤ z := by omega
 clear hy hE h1 h2 hA hs ho hsz h hop hz
 rcases h41 with rfl | h49
 ·go_enter Tryz.func116, Tryz.ntmps116
  go_wp2_with (first | (go_at_call 115; (with_reducible refine (HS.out _).mono ?_); rintro e u ⟨rfl, hb⟩) | (go_at_call 121; (with_reducible refine (HR.out _ (HM.out.below hb)).mono ?_); rintro e u2 ⟨rfl, rfl⟩))
  first | go_ret2 | go_ret
  exact ⟨rfl, hb⟩
 ·have l48 : decide (z < 48) = false := decide_eq_false (by omega)
  clear h49
  go_enter Tryz.func116, Tryz.ntmps116
  go_wp2_with (first | (go_at_call 115; (with_reducible refine (HS.out _).mono ?_); rintro e u ⟨rfl, hb⟩) | (go_at_call 121; (with_reducible refine (HR.out _ (HM.out.below hb)).mono ?_); rintro e u2 ⟨rfl, rfl⟩))
  first | go_ret2 | go_ret
  exact ⟨rfl, hb⟩
end Go.Proofs.YtmfmokblmipagaaGreat
end
