/-
  Texts TaB, TaN.
-/
import Derived.Test.YtmfmokblmipagaaGreatR03
import Derived.Test.YtmfmokblmipagaaGreatR12
set_option linter.unusedSimpArgs false
set_option linter.unusedVariables false
set_option maxHeartbeats 8000000
open Pl
section
namespace Go.Proofs.YtmfmokblmipagaaGreat
open Go.RowKit Pl
theorem run_ldq {o : Oper} {a : Act} {w : World} (T : TypeId) (ha : ∀ w, (isAgg T).run Tryz.prog w = .ok false w) (x : Operand) (ho : o.op = .load T x) (g j : Nat) (hx : a.eval x = .pointer (some ⟨g, j, none⟩)) (z : Value) (h : w.cell? ⟨g, j, none⟩ = some z) :
 (execOp a.eval o).run Tryz.prog w = .ok (.value z) w := by
 have ha := ha w
 unfold execOp
 simp only [ho, hx, Instr.loadAt, Instr.sureAddr, Sem.run_bind, Sem.run_pure, Result.andThen_ok]
 simp only [loadVar, Sem.run_bind, ha, Result.andThen_ok]
 simp [h, go_sem]
theorem run_bi1 (z : Int) (w : World) : (Instr.buildSlice 23 1 #[(0, .int .i64 z)]).run Tryz.prog w = .ok (.slice (some ⟨w.heap.size, 0, none⟩) 1 1) (w.alloc (.cells #[.int .i64 z] 3)) := by kernel_rfl
theorem run_bi2 (z y : Int) (w : World) : (Instr.buildSlice 23 2 #[(0, .int .i64 z), (1, .int .i64 y)]).run Tryz.prog w = .ok (.slice (some ⟨w.heap.size, 0, none⟩) 2 2) (w.alloc (.cells #[.int .i64 z, .int .i64 y] 3)) := by kernel_rfl
theorem run_bu1 (z : Int) (w : World) : (Instr.buildSlice 38 1 #[(0, .int .u64 z)]).run Tryz.prog w = .ok (.slice (some ⟨w.heap.size, 0, none⟩) 1 1) (w.alloc (.cells #[.int .u64 z] 22)) := by kernel_rfl
theorem run_bc1 (c : Cel) (w : World) : (Instr.buildSlice 34 1 #[(0, .agg (celR c).toArray)]).run Tryz.prog w = .ok (.slice (some ⟨w.heap.size, 0, none⟩) 1 1) (w.alloc (.cells (celsR [c]).toArray 130)) := by kernel_rfl
theorem run_app1 (base : Nat) (T : TypeId) (v : Value) (xs : List Int) (z : Int) (b c : Nat) (w : World) (hown : w.ownsRow base 3 1 v xs.length (xs.map (Value.int .i64))) (hb : w.heap[b]? = some (.cells #[.int .i64 z] 3 (0, 0))) (hsm : xs.length ≤ 1000) (hbase : base ≤ w.heap.size) :
 ∃ v' w', (Builtin.append_ #[23, 23] T #[v, .slice (some ⟨b, 0, none⟩) 1 c]).run Tryz.prog w = .ok v' w' ∧ w'.ownsRow base 3 1 v' (xs ++ [z]).length ((xs ++ [z]).map (Value.int .i64)) ∧ w.grownBy w' v.ownBlock ∧ (v'.ownBlock = v.ownBlock ∨ v'.ownBlock = some w.heap.size) := by
 obtain ⟨i, hi, hz0, hz1, hz2⟩ := info_parts intInfo
 obtain ⟨v', w', hr, h2, h3, _, h5⟩ := run_append_own_at (P := Tryz.prog) w base 23 T 3 i (.int .i64 0) 1 8 Tryz.underlying23 hi hz0 hz1 hz2 rfl (by decide) v xs.length (xs.map (Value.int .i64)) hown ⟨b, 0, none⟩ 1 c [.int .i64 z] rfl
  (fun j u hj => by
   rw [show (⟨b, 0, none⟩ : Addr).add j = ⟨b, j, none⟩ by first | rfl | (simp [Addr.add]; done) | (simp [Addr.add]; exact fun h => h.symm), cell_of_row w b j _ _ _ hb]
   simpa using hj) (fun u hu => by rw [List.mem_singleton.1 hu]; rfl) (by unfold maxLen; omega) (by omega) hbase
 exact ⟨v', w', hr, by rw [List.map_append, List.length_append]; exact h2, h3, h5⟩
theorem own_slice {w : World} {B : Nat} {e : TypeId} {s : Nat} {v : Value} {n : Nat} {xs : List Value} (h : w.ownsRow B e s v n xs) : ∃ ad c, v = .slice ad n c := by
 rcases h.2 with ⟨rfl, rfl⟩ | ⟨g, cap, cur, rfl, _⟩
 ·exact ⟨_, _, rfl⟩
 ·exact ⟨_, _, rfl⟩
theorem own_below {w w' : World} {B : Nat} {e : TypeId} {s : Nat} {v : Value} {n : Nat} {xs : List Value} (h : w.ownsRow B e s v n xs) (hb : Below w.heap.size w w') : w'.ownsRow B e s v n xs :=
 h.kept (grown_of_below (r := none) hb) (by
  rcases h.2 with ⟨rfl, _⟩ | ⟨g, cap, cur, rfl, _⟩
  ·exact .inl rfl
  ·exact .inr (by simp [Value.ownBlock]))
theorem own_lt {w : World} {B : Nat} {e : TypeId} {s : Nat} {v : Value} {n : Nat} {xs : List Value} (h : w.ownsRow B e s v n xs) (g : Nat) (hg : v.ownBlock = some g) : B ≤ g ∧ g < w.heap.size := by
 rcases h.2 with ⟨rfl, _⟩ | ⟨g2, cap, cur, rfl, hB, hh, _⟩
 ·simp [Value.ownBlock] at hg
 ·simp only [Value.ownBlock, Option.some.injEq] at hg
  subst hg
  exact ⟨hB, block_lt hh⟩
structure NS (W0 : World) (B : Nat) (vr : Value) (xs : List Int) (z : Int) (D : List Value) (w : World) : Prop where
 gr : W0.grownBy w vr.ownBlock
 d0 : D = [] → Below W0.heap.size W0 w
 d1 : ∀ s, D = [s] → Below W0.heap.size W0 w ∧ ∃ x, s = .slice (some ⟨x, 0, none⟩) 1 1 ∧ w.heap[x]? = some (.cells #[.int .i64 z] 3 (0, 0))
 d2 : ∀ s v, D = [v, s] → w.ownsRow B 3 1 v (xs ++ [z]).length ((xs ++ [z]).map (Value.int .i64)) ∧ ∀ n, v.ownBlock = some n → vr.ownBlock = some n ∨ W0.heap.size ≤ n
theorem NS.start {W0 : World} {B : Nat} {vr : Value} {xs : List Int} {z : Int} : NS W0 B vr xs z [] W0.drew :=
 ⟨grown_of_below ((Below.refl _ _).drew), fun _ => (Below.refl _ _).drew, fun s h => by simp at h, fun s v h => by simp at h⟩
theorem NS.mk1 {W0 w : World} {B : Nat} {vr : Value} {xs : List Int} {z : Int} (h : NS W0 B vr xs z [] w) : NS W0 B vr xs z [.slice (some ⟨w.heap.size, 0, none⟩) 1 1] (w.alloc (.cells #[.int .i64 z] 3)) :=
 ⟨grown_of_below ((h.d0 rfl).alloc (h.d0 rfl).size _), fun h => by simp at h, fun s hs => ⟨(h.d0 rfl).alloc (h.d0 rfl).size _, w.heap.size, by simpa using hs.symm, heap_alloc_new _ _⟩, fun s v h => by simp at h⟩
theorem NS.mk2 {W0 w : World} {B : Nat} {vr s : Value} {xs : List Int} {z : Int} (h : NS W0 B vr xs z [s] w) (T : TypeId) (hown : W0.ownsRow B 3 1 vr xs.length (xs.map (Value.int .i64))) (hsm : xs.length ≤ 1000) (hB : B ≤ W0.heap.size) :
 ∃ u w', NS W0 B vr xs z [u, s] w' ∧ (Builtin.append_ #[23, 23] T #[vr, s]).run Tryz.prog w = .ok u w' := by
 obtain ⟨hb, x, rfl, hx⟩ := h.d1 s rfl
 obtain ⟨v', w', hr, h2, h3, h5⟩ := run_app1 B T vr xs z x 1 w (own_below hown hb) hx hsm (Nat.le_trans hB hb.size)
 refine ⟨v', w', ⟨grown_trans (grown_of_below hb) h3, fun h => by simp at h, fun s h => by simp at h, fun s v hv => ?_⟩, hr⟩
 obtain ⟨rfl, rfl⟩ : v' = v ∧ _ := by simpa using hv
 refine ⟨h2, fun n hn => ?_⟩
 rcases h5 with e | e
 ·exact .inl (e ▸ hn)
 ·rw [hn] at e; injection e with e; exact .inr (by rw [e]; exact hb.size)
end Go.Proofs.YtmfmokblmipagaaGreat
end
section
namespace Go.Proofs.YtmfmokblmipagaaGreat
open Go.RowKit Pl
def regs (s : Nat) : Nat → List Nat
 | 0 => []
 | n + 1 => regs s n ++ [s + n]
theorem regs_len (s n : Nat) : (regs s n).length = n := by
 induction n with
 | zero => rfl
 | succ n ih => simp [regs, ih]
def ints (l : List Nat) : List Int := l.map Int.ofNat
theorem ints_len (l : List Nat) : (ints l).length = l.length := by simp [ints]
theorem TA.row_ne {A : Nat} {R : Option Nat} {l : List Cel} {b k : Nat} {u u2 : World} (h : TA A l b k R u) {r : Option Nat} (g : u.grownBy u2 r) (hr : ∀ n, r = some n → n ≠ A ∧ R ≠ some n) : TA A l b k R u2 := by
 obtain ⟨v, h1, h2, h3, h4⟩ := h.ex
 refine ⟨v, (g.block A (block_lt h1) (fun e => (hr A e.symm).1 rfl)).trans h1, h2.kept g ?_, h3, h4⟩
 by_cases hv : v.ownBlock = none
 ·exact .inl hv
 ·right
  intro e
  cases hr0 : r with
  | none => rw [hr0] at e; exact hv e
  | some n => rw [hr0] at e; exact (hr n hr0).2 (h3 ▸ e)
theorem run_bi1_op {o : Oper} {a : Act} {w : World} (x : Operand) (z : Int) (ho : o.op = .buildSlice 23 1 #[(0, x)]) (hx : a.eval x = .int .i64 z) : (execOp a.eval o).run Tryz.prog w = .ok (.value (.slice (some ⟨w.heap.size, 0, none⟩) 1 1)) (w.alloc (.cells #[.int .i64 z] 3)) := by
 have hp : (#[(0, x)] : Array (Nat × Operand)).map (fun (i, x) => (i, a.eval x)) = #[(0, .int .i64 z)] := by simp [hx]
 unfold execOp
 simp only [ho]
 rw [hp, Sem.run_bind, run_bi1]
 rfl
theorem run_app_op {o : Oper} {a : Act} {w w2 : World} (T : TypeId) (s x : Operand) (v u y : Value) (ho : o.op = .call { callee := .builtin .append, args := #[s, x], argTypes := #[T, T] }) (hs : a.eval s = v) (hx : a.eval x = y) (hr : (Builtin.append_ #[T, T] o.type #[v, y]).run Tryz.prog w = .ok u w2) :
 (execOp a.eval o).run Tryz.prog w = .ok (.value u) w2 := by
 unfold execOp
 simp only [ho, resolve, invoke, builtin, Sem.run_bind, Sem.run_pure, Result.andThen_ok, List.map_toArray, List.map_cons, List.map_nil, hs, hx, hr]
theorem grown_setCell (w : World) (g i : Nat) (v : Value) : w.grownBy (w.setCell ⟨g, i, none⟩ v) (some g) :=
 ⟨rfl, rfl, rfl, by simp [World.setCell], fun k hk hne => Below.heap_setCell _ _ _ _ (fun e => hne (by rw [e]))⟩
theorem TA.setk {A : Nat} {R : Option Nat} {l : List Cel} {b k : Nat} {w : World} (h : TA A l b k R w) (k2 : Nat) (z : Int) (hz : z = k2) : TA A l b k2 R (w.setCell ⟨A, 2, none⟩ (.int .i64 z)) := by
 obtain ⟨v, h1, h2, h3, h4⟩ := h.ex
 subst hz
 refine ⟨v, ?_, h2.kept (grown_setCell w A 2 _) ?_, h3, h4⟩
 ·rw [setCell_eq_setRow w A 2 _ _ _ _ h1, setRow_heap w A _ _ _ _ h1]
  rfl
 ·by_cases hv : v.ownBlock = none
  ·exact .inl hv
  ·exact .inr (fun e => h4 (h3 ▸ e))
theorem ints_regs (b k j : Nat) : ints (regs (b + k) (j + 1)) = ints (regs (b + k) j) ++ [(b : Int) + ((k : Int) + (j : Int))] := by simp [ints, regs]; omega
set_option maxRecDepth 100000 in
theorem new_k (A b k n : Nat) (l : List Cel) (R : Option Nat) (u : World) (h : TA A l b k R u) (hn : n ≤ 100) (hb : b + k ≤ 10000) :
 Calls Tryz.prog 65 #[.pointer (some ⟨A, 1, none⟩), .int .i64 (n : Int)] u fun e u' => ∃ v, e = .returned v ∧ IL A R u' v (regs (b + k) n) ∧ TA A l b (k + n) R u' ∧ u.grownBy u' (some A) := by
 have H0 := Lib.hid h
 have hlt := h.lt
 obtain ⟨hA0, hR0⟩ := hlt
 have HR0 := Lib.hid hR0
 clear h hR0
 go_enter Tryz.func65, Tryz.ntmps65
 go_wp2_with fail
 go_loopw [5, 7] (fun sv iv wr => ∃ j : Nat, j ≤ n ∧ iv = .int .i64 j ∧ Hid (wr.ownsRow u.heap.size 3 1 sv (ints (regs (b + k) j)).length ((ints (regs (b + k) j)).map (Value.int .i64))) ∧ Hid (TA A l b (k + j) R wr) ∧ Hid (u.grownBy wr (some A))) (fun _ iv _ => n - (intOf iv).toNat)
 case atStart => exact ⟨0, Nat.zero_le _, rfl, Lib.hid ⟨rfl, .inl ⟨rfl, rfl⟩⟩, Lib.hid H0.out, Lib.hid (grown_refl _ _)⟩
 case round =>
  obtain ⟨j, hj, rfl, HO, HT, HG⟩ := hrel
  have hO1 := fun g hg => own_lt HO.out g hg
  have HO1 := Lib.hid hO1
  obtain ⟨ad, cc, rfl⟩ := own_slice HO.out
  clear hO1
  rw [ints_len, regs_len] at HO HO1 ⊢
  by_cases hlt : j < n
  ·have hsz : u.heap.size ≤ wr.heap.size := HG.out.size
   obtain ⟨v, hv1, hv2, hv3, hv4⟩ := HT.out.ex
   have hv : ∀ w, wr.grownBy w (Value.slice ad j cc).ownBlock → w.heap[A]? = some (.cells #[v, .int .i64 (b : Int), .int .i64 ((k + j : Nat) : Int)] 92 (0, 0)) := fun w g => (g.block A (block_lt hv1) (fun e => by have := (HO1.out A e.symm).1; omega)).trans hv1
   have HV := Lib.hid hv
   have hc2 : wr.cell? ⟨A, 2, none⟩ = some (.int .i64 ((k + j : Nat) : Int)) := by rw [cell_of_row wr A 2 _ _ _ hv1]; rfl
   have hf2 : wr.frozen? ⟨A, 2, none⟩ = false := frozen_of_row wr A 2 _ _ hv1
   clear hv1 hv2 hv3 hv4 hv hc2 hf2
   have e1 : IntKind.i64.wrap ((b : Int) + ((k : Int) + (j : Int))) = (b : Int) + ((k : Int) + (j : Int)) := IntWalk.i64_in _ (by omega)
   have e2 : IntKind.i64.wrap ((k : Int) + (j : Int) + 1) = (k : Int) + (j : Int) + 1 := IntWalk.i64_in _ (by omega)
   go_wp2_with fail
   refine region_sp2 (NS wr u.heap.size (Value.slice ad j cc) (ints (regs (b + k) j)) ((b : Int) + ((k : Int) + (j : Int)))) 12 10 11 [0, 1, 2, 3, 4, 5, 6, 7, 8, 9] rfl (by kernel_rfl) rfl rfl rfl rfl NS.start ?_
   simp only [opsAt, List.getElem?_cons_zero, List.getElem?_cons_succ, List.drop_succ_cons, List.drop_zero]
   repeat (first | (refine wpDA_here rfl (fun D w hS => run_ldq _ isAgg_int _ rfl A 1 rfl (.int .i64 (b : Int)) (by rw [cell_of_row w A 1 _ _ _ (HV.out w hS.gr)]; rfl)) ?_; simp only [Act.put, z5, z6, z7]) | (refine wpDA_here rfl (fun D w hS => run_ldq _ isAgg_int _ rfl A 2 rfl (.int .i64 ((k : Int) + (j : Int))) (by rw [cell_of_row w A 2 _ _ _ (HV.out w hS.gr)]; rfl)) ?_; simp only [Act.put, z5, z6, z7]) | (refine wpDA_pure (v := ?_) rfl (fun u => ?_) ?_; rotate_left; (focus (go_simp; (try with_reducible rfl); done)); simp only [Act.put, z5, z6, z7]))
   refine wpDA_nil ⟨fun w hS => ⟨_, _, hS.mk1, run_bi1_op _ _ rfl rfl⟩, fun s => ⟨fun w hS => ?_, fun v2 w2 hS => ?_⟩⟩
   ·obtain ⟨v3, w3, h3, h4⟩ := hS.mk2 23 (by rw [ints_len, regs_len]; exact HO.out) (by rw [ints_len, regs_len]; omega) hsz
    exact ⟨v3, w3, h3, run_app_op _ _ _ _ _ _ rfl rfl rfl h4⟩
   ·have hd := hS.d2 s v2 rfl
    have hAw := HV.out w2 hS.gr
    have hg2 := hS.gr
    have hc2 : w2.cell? ⟨A, 2, none⟩ = some (.int .i64 ((k : Int) + (j : Int))) := by rw [cell_of_row w2 A 2 _ _ _ hAw]; rfl
    have hf2 : w2.frozen? ⟨A, 2, none⟩ = false := frozen_of_row w2 A 2 _ _ hAw
    clear hS hAw
    have HD := Lib.hid hd
    have HG2 := Lib.hid hg2
    clear hd hg2
    go_wp2_with fail
    have hrow : ∀ n, (Value.slice ad j cc).ownBlock = some n → n ≠ A ∧ R ≠ some n := fun n hn => by
     have h8 := HO1.out n hn
     exact ⟨by omega, fun e => by have := HR0.out n e; omega⟩
    have hg3 : u.grownBy w2 (some A) := grown_far HG.out HG2.out (fun g hg => (HO1.out g hg).1)
    refine ⟨⟨j + 1, by omega, by first | rfl | simp, Lib.hid ?_, Lib.hid ((TA.row_ne HT.out HG2.out hrow).setk _ _ (by omega)), Lib.hid (grown_trans hg3 (grown_setCell _ _ _ _))⟩, by simp [intOf]; omega⟩
    rw [ints_regs]
    refine HD.out.1.kept (grown_setCell w2 A 2 _) (.inr (fun e => ?_))
    rcases HD.out.2 A e with e2 | e2
    ·exact (hrow A e2).1 rfl
    ·omega
  ·obtain rfl : j = n := by omega
   go_wp2_with fail
   go_ret
   refine ⟨_, rfl, ?_, HT.out, HG.out⟩
   have ho := HO.out
   refine ⟨ad, cc, by show Value.slice ad j cc = _; rw [regs_len], ?_⟩
   rcases ho.2 with ⟨e, e0⟩ | ⟨g, cap, cur, e, hB, hg, hn2, _, hs, ht⟩
   ·left
    obtain rfl : j = 0 := e0
    rfl
   ·right
    injection e with e1 e2 e3
    subst e1 e3
    refine ⟨g, cur, _, rfl, hg, by omega, fun e => by have := HR0.out g e.symm; omega, fun i x hx => ?_⟩
    have hil : i < j := by have := (List.getElem?_eq_some_iff.1 hx).1; rw [regs_len] at this; exact this
    have h2 : (cur.toList.take (j * 1))[i]? = some (.int .i64 (x : Int)) := by rw [ht, List.getElem?_map, ints, List.getElem?_map, hx]; rfl
    rw [List.getElem?_take, if_pos (by omega)] at h2
    simpa using h2
theorem IL.to {A : Nat} {R R2 : Option Nat} {u u2 : World} {v : Value} {xs : List Nat} (h : IL A R u v xs) (c : Chg A R u u2) (f : Frsh u R R2) : IL A R2 u2 v xs := by
 obtain ⟨ad, c0, e, hi⟩ := h.ex
 refine ⟨ad, c0, e, hi.imp id fun ⟨g, cur, T0, e1, hg, hA, hR, hc⟩ => ⟨g, cur, T0, e1, (c.block g (block_lt hg) hA hR).trans hg, hA, fun e => ?_, hc⟩⟩
 rcases f g e.symm with h4 | h4
 ·exact hR h4.symm
 ·exact absurd (block_lt hg) (by omega)
theorem grown_chg {A : Nat} {R : Option Nat} {u u2 : World} (g : u.grownBy u2 (some A)) : Chg A R u u2 := ⟨g.os, g.tape, g.output, g.size, fun i hi hA _ => g.block i hi (fun e => hA (by injection e))⟩
set_option maxRecDepth 100000 in
theorem save_k (A b k n : Nat) (l : List Cel) (R : Option Nat) (u : World) (h : TA A l b k R u) (hn : n ≤ 100) (hb : b + k ≤ 10000) (h1 : l.length + n ≤ 1000) :
 Calls Tryz.prog 29 #[.pointer (some ⟨A, 0, none⟩), .int .i64 (n : Int)] u fun e u' => ∃ v R2, e = .returned v ∧ TA A (l ++ (regs (b + k) n).reverse.map setc) b (k + n) R2 u' ∧ Chg A R u u' ∧ Frsh u R R2 ∧ IL A R2 u' v (regs (b + k) n) := by
 have H := Lib.hid h
 have HN := Lib.hid (new_k A b k n l R u h hn hb)
 clear h
 go_enter Tryz.func29, Tryz.ntmps29
 go_wp2_with (first | (go_at_call 65; refine Calls.mono HN.out ?_; rintro e u2 ⟨v, rfl, hI, hT, hG⟩) | (go_at_call 66; refine Calls.mono (set_k A b (k + n) l v _ R _ hT hI (by rw [regs_len]; exact h1)) ?_; rintro e u3 ⟨rfl, hT3⟩))
 go_ret
 obtain ⟨R2, hA, hC, hF⟩ := hT3.ex
 exact ⟨_, R2, rfl, hA, (grown_chg hG).trans hC (fun n hn => .inl hn), fun n hn => (hF n hn).imp id (Nat.le_trans hG.size), hI.to hC hF⟩
set_option maxRecDepth 100000 in
theorem at_k (b : Nat) (u : World) : Calls Tryz.prog 22 #[.int .i64 (b : Int)] u fun e u' => e = .returned (.pointer (some ⟨u.heap.size, 0, none⟩)) ∧ TA u.heap.size [] b 0 none u' ∧ Below u.heap.size u u' := by
 go_enter Tryz.func22, Tryz.ntmps22
 go_wp2_with fail
 go_ret
 exact ⟨rfl, ⟨.slice none 0 0, heap_alloc_new _ _, ⟨rfl, .inl ⟨rfl, rfl⟩⟩, rfl, by simp⟩, (Below.refl _ _).alloc (Nat.le_refl _) _⟩
end Go.Proofs.YtmfmokblmipagaaGreat
end
