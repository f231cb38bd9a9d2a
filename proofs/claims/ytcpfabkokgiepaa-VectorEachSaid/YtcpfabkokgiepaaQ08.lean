/-
  Texts VcT, VcL.
-/
import Derived.Test.YtcpfabkokgiepaaQ03
import Derived.Great.Walk
import Derived.Maps.AppendAt
import Derived.OwnWalk
set_option linter.unusedSimpArgs false
set_option linter.unusedVariables false
set_option maxHeartbeats 8000000
open Pl
section
namespace Go.Proofs.Ytcpfabkokgiepaa
open Go.RowKit Pl
structure Row where
 fr : Int
 to : Int
 form : Int
 lim : Int
 sig : List UInt8
def Row.cells (r : Row) : List Value := [.int .i64 r.fr, .int .i64 r.to, .int .i64 r.form, .int .i64 r.lim, .string ⟨r.sig.toArray⟩]
def fW (l : List Row) : List Value := l.flatMap Row.cells
set_option maxRecDepth 100000 in
theorem run_row (a b c d : Int) (s : ByteArray) : Try.prog.built 79 [(0, .int .i64 a), (1, .int .i64 b), (2, .int .i64 c), (3, .int .i64 d), (4, .string s)] = some #[.int .i64 a, .int .i64 b, .int .i64 c, .int .i64 d, .string s] := by kernel_rfl
set_option maxRecDepth 100000 in
theorem wpList_row {ops : Array Oper} {rest : List Oper} {o : Oper} {t : Act} {w : World} {Q : Exit → Act → World → Prop} (hg : o.guard = none) (a b c d : Int) (s : ByteArray)
 (ho : o.op = .build 79 #[(0, .const (.int .i64 a)), (1, .const (.int .i64 b)), (2, .const (.int .i64 c)), (3, .const (.int .i64 d)), (4, .const (.string s))])
 (h : wpList Try.prog ops Q rest (t.put o.dst (.agg #[.int .i64 a, .int .i64 b, .int .i64 c, .int .i64 d, .string s])) w) : wpList Try.prog ops Q (o :: rest) t w := by
 have hm : (#[(0, Operand.const (.int .i64 a)), (1, .const (.int .i64 b)), (2, .const (.int .i64 c)), (3, .const (.int .i64 d)), (4, .const (.string s))].map fun (i, x) => (i, t.eval x)).toList = [(0, Value.int .i64 a), (1, .int .i64 b), (2, .int .i64 c), (3, .int .i64 d), (4, .string s)] := by
  simp only [List.map_toArray, List.map_cons, List.map_nil]
  rfl
 have hr : Try.prog.built 79 (#[(0, Operand.const (.int .i64 a)), (1, .const (.int .i64 b)), (2, .const (.int .i64 c)), (3, .const (.int .i64 d)), (4, .const (.string s))].map fun (i, x) => (i, t.eval x)).toList = some #[.int .i64 a, .int .i64 b, .int .i64 c, .int .i64 d, .string s] := by
  rw [hm]
  exact run_row a b c d s
 refine wpList_plain hg fun K hK => ?_
 unfold Oper.wp execOp
 simp only [ho, Sem.run_bind, run_build w 79 _ _ hr, Result.andThen_ok]
 exact hK _ _ h
def rowsS : List Row := [
 ⟨0, 0, 1, 0, []⟩,
 ⟨1, 1, 1, 0, [58]⟩,
 ⟨2, 4, 2, 0, []⟩,
 ⟨5, 5, 1, 0, []⟩,
 ⟨11, 11, 1, 0, []⟩,
 ⟨12, 13, 3, 0, []⟩,
 ⟨14, 14, 4, 0, []⟩,
 ⟨15, 15, 1, 0, []⟩,
 ⟨16, 16, 5, 0, []⟩,
 ⟨17, 17, 6, 0, []⟩,
 ⟨26, 27, 1, 0, []⟩,
 ⟨32, 36, 5, 0, []⟩,
 ⟨40, 40, 7, 2, [105, 58, 105]⟩,
 ⟨41, 41, 7, 3, [105, 58, 108]⟩,
 ⟨44, 45, 7, 0, [105, 58, 105]⟩,
 ⟨46, 47, 7, 1, [105, 58, 105]⟩,
 ⟨48, 49, 7, 0, [105, 58, 108]⟩,
 ⟨50, 51, 7, 1, [105, 58, 108]⟩,
 ⟨52, 53, 7, 2, [105, 58, 108]⟩,
 ⟨54, 54, 7, 2, [105, 105, 58]⟩,
 ⟨55, 55, 7, 3, [105, 108, 58]⟩,
 ⟨58, 58, 7, 0, [105, 105, 58]⟩,
 ⟨59, 59, 7, 1, [105, 105, 58]⟩,
 ⟨60, 60, 7, 0, [105, 108, 58]⟩,
 ⟨61, 61, 7, 1, [105, 108, 58]⟩,
 ⟨62, 62, 7, 2, [105, 108, 58]⟩,
 ⟨63, 63, 14, 0, [58, 105]⟩,
 ⟨64, 64, 14, 0, [105, 58, 105]⟩,
 ⟨65, 65, 9, 0, [58, 105]⟩,
 ⟨66, 66, 10, 0, [58, 108]⟩,
 ⟨69, 69, 1, 0, [105, 58, 105]⟩,
 ⟨70, 79, 1, 0, [105, 105, 58, 105]⟩,
 ⟨80, 80, 1, 0, [108, 58, 105]⟩,
 ⟨81, 90, 1, 0, [108, 108, 58, 105]⟩,
 ⟨103, 105, 1, 0, [105, 58, 105]⟩,
 ⟨106, 120, 1, 0, [105, 105, 58, 105]⟩,
 ⟨121, 123, 1, 0, [108, 58, 108]⟩,
 ⟨124, 138, 1, 0, [108, 108, 58, 108]⟩,
 ⟨167, 167, 1, 0, [108, 58, 105]⟩,
 ⟨172, 173, 1, 0, [105, 58, 108]⟩,
 ⟨192, 193, 1, 0, [105, 58, 105]⟩,
 ⟨194, 196, 1, 0, [108, 58, 108]⟩]
set_option maxRecDepth 100000 in
theorem scalars_k (w : World) : Calls Try.prog 46 #[] w fun e w' => ∃ b, e = .returned (.slice (some ⟨b, 0, none⟩) 42 42) ∧ w'.heap[b]? = some (.cells (fW rowsS).toArray 79 (0, 0)) ∧ w.heap.size ≤ b ∧ Below w.heap.size w w' := by
 go_enter Try.func46, Try.ntmps46
 go_wp2_with (first
  | (with_reducible refine wpList_row rfl _ _ _ _ _ rfl ?_)
  | (refine Great.wpList_buildSliceTo rfl 76 79 42 _ rfl w.heap.size rfl _ rfl (by kernel_rfl) (fW rowsS).toArray (by kernel_rfl) ?_))
 go_ret
 exact ⟨_, rfl, heap_alloc_new _ _, Nat.le_refl _, Below.alloc (Below.refl _ _) (Nat.le_refl _) _⟩
def rowsV : List Row := [
 ⟨64768, 64768, 7, 4, [105, 58, 118]⟩,
 ⟨64769, 64774, 7, 3, [105, 58, 118]⟩,
 ⟨64775, 64775, 7, 0, [105, 58, 118]⟩,
 ⟨64776, 64776, 7, 1, [105, 58, 118]⟩,
 ⟨64777, 64777, 7, 2, [105, 58, 118]⟩,
 ⟨64778, 64778, 7, 3, [105, 58, 118]⟩,
 ⟨64779, 64779, 7, 4, [105, 118, 58]⟩,
 ⟨64780, 64780, 11, 0, [58, 118]⟩,
 ⟨64781, 64781, 12, 0, [118, 118, 58, 118]⟩,
 ⟨64782, 64782, 1, 0, [118, 118, 58, 118]⟩,
 ⟨64783, 64785, 1, 0, [105, 58, 118]⟩,
 ⟨64786, 64786, 1, 0, [108, 58, 118]⟩,
 ⟨64789, 64790, 13, 16, [118, 58, 105]⟩,
 ⟨64791, 64791, 13, 16, [118, 105, 58, 118]⟩,
 ⟨64792, 64793, 13, 8, [118, 58, 105]⟩,
 ⟨64794, 64794, 13, 8, [118, 105, 58, 118]⟩,
 ⟨64795, 64795, 13, 4, [118, 58, 105]⟩,
 ⟨64796, 64796, 13, 4, [118, 105, 58, 118]⟩,
 ⟨64797, 64797, 13, 2, [118, 58, 108]⟩,
 ⟨64798, 64798, 13, 2, [118, 108, 58, 118]⟩,
 ⟨64803, 64832, 1, 0, [118, 118, 58, 118]⟩,
 ⟨64845, 64845, 1, 0, [118, 58, 118]⟩,
 ⟨64846, 64849, 1, 0, [118, 118, 58, 118]⟩,
 ⟨64850, 64850, 1, 0, [118, 118, 118, 58, 118]⟩,
 ⟨64851, 64851, 1, 0, [118, 58, 105]⟩,
 ⟨64852, 64852, 8, 0, [105, 118, 58, 118]⟩,
 ⟨64853, 64853, 8, 1, [105, 118, 58, 118]⟩,
 ⟨64854, 64854, 8, 2, [105, 118, 58, 118]⟩,
 ⟨64855, 64855, 8, 3, [105, 118, 58, 118]⟩,
 ⟨64856, 64856, 8, 0, [105, 118, 58]⟩,
 ⟨64857, 64857, 8, 1, [105, 118, 58]⟩,
 ⟨64858, 64858, 8, 2, [105, 118, 58]⟩,
 ⟨64859, 64859, 8, 3, [105, 118, 58]⟩,
 ⟨64860, 64860, 7, 2, [105, 58, 118]⟩,
 ⟨64861, 64861, 7, 3, [105, 58, 118]⟩,
 ⟨64864, 64866, 1, 0, [118, 58, 118]⟩,
 ⟨64867, 64868, 1, 0, [118, 58, 105]⟩,
 ⟨64869, 64870, 1, 0, [118, 118, 58, 118]⟩,
 ⟨64875, 64877, 1, 0, [118, 105, 58, 118]⟩,
 ⟨64878, 64883, 1, 0, [118, 118, 58, 118]⟩,
 ⟨64886, 64889, 1, 0, [118, 118, 58, 118]⟩,
 ⟨64891, 64891, 1, 0, [118, 118, 58, 118]⟩,
 ⟨64892, 64897, 1, 0, [118, 58, 118]⟩,
 ⟨64898, 64898, 1, 0, [118, 118, 58, 118]⟩,
 ⟨64899, 64900, 1, 0, [118, 58, 105]⟩,
 ⟨64901, 64902, 1, 0, [118, 118, 58, 118]⟩,
 ⟨64903, 64906, 1, 0, [118, 58, 118]⟩,
 ⟨64907, 64909, 1, 0, [118, 105, 58, 118]⟩,
 ⟨64910, 64915, 1, 0, [118, 118, 58, 118]⟩,
 ⟨64917, 64921, 1, 0, [118, 118, 58, 118]⟩,
 ⟨64923, 64927, 1, 0, [118, 118, 58, 118]⟩,
 ⟨64928, 64929, 1, 0, [118, 58, 118]⟩,
 ⟨64931, 64932, 1, 0, [118, 58, 105]⟩,
 ⟨64935, 64938, 1, 0, [118, 58, 118]⟩,
 ⟨64939, 64941, 1, 0, [118, 105, 58, 118]⟩,
 ⟨64942, 64942, 1, 0, [118, 118, 58, 118]⟩,
 ⟨64945, 64945, 1, 0, [118, 118, 58, 118]⟩,
 ⟨64949, 64954, 1, 0, [118, 118, 58, 118]⟩,
 ⟨64956, 64959, 1, 0, [118, 118, 58, 118]⟩,
 ⟨64960, 64961, 1, 0, [118, 58, 118]⟩,
 ⟨64963, 64964, 1, 0, [118, 58, 105]⟩,
 ⟨64967, 64970, 1, 0, [118, 58, 118]⟩,
 ⟨64971, 64973, 1, 0, [118, 105, 58, 118]⟩,
 ⟨64974, 64974, 1, 0, [118, 118, 58, 118]⟩,
 ⟨64977, 64977, 1, 0, [118, 118, 58, 118]⟩,
 ⟨64981, 64991, 1, 0, [118, 118, 58, 118]⟩]
set_option maxRecDepth 100000 in
theorem vectors_k (w : World) : Calls Try.prog 47 #[] w fun e w' => ∃ b, e = .returned (.slice (some ⟨b, 0, none⟩) 66 66) ∧ w'.heap[b]? = some (.cells (fW rowsV).toArray 79 (0, 0)) ∧ w.heap.size ≤ b ∧ Below w.heap.size w w' := by
 go_enter Try.func47, Try.ntmps47
 go_wp2_with (first
  | (with_reducible refine wpList_row rfl _ _ _ _ _ rfl ?_)
  | (refine Great.wpList_buildSliceTo rfl 76 79 66 _ rfl w.heap.size rfl _ rfl (by kernel_rfl) (fW rowsV).toArray (by kernel_rfl) ?_))
 go_ret
 exact ⟨_, rfl, heap_alloc_new _ _, Nat.le_refl _, Below.alloc (Below.refl _ _) (Nat.le_refl _) _⟩
end Go.Proofs.Ytcpfabkokgiepaa
end
section
namespace Go.Proofs.Ytcpfabkokgiepaa
open Go.RowKit Pl
theorem grown_refl (w : World) (r : Option Nat) : w.grownBy w r := ⟨rfl, rfl, rfl, Nat.le_refl _, fun _ _ _ => rfl⟩
theorem eN {a b c : World} {r : Option Nat} (h : a.grownBy b r) (k : b.grownBy c r) : a.grownBy c r :=
 ⟨k.os.trans h.os, k.tape.trans h.tape, k.output.trans h.output, Nat.le_trans h.size k.size, fun i hi hn => (k.block i (Nat.lt_of_lt_of_le hi h.size) hn).trans (h.block i hi hn)⟩
theorem grown_far {a b c : World} {r s : Option Nat} (h : a.grownBy b r) (k : b.grownBy c s) (hs : ∀ g, s = some g → a.heap.size ≤ g) : a.grownBy c r :=
 ⟨k.os.trans h.os, k.tape.trans h.tape, k.output.trans h.output, Nat.le_trans h.size k.size, fun i hi hn => (k.block i (Nat.lt_of_lt_of_le hi h.size) (fun e => by have := hs i e.symm; omega)).trans (h.block i hi hn)⟩
theorem tU {a b : World} {r : Option Nat} {B : Nat} (h : a.grownBy b r) (hB : B ≤ a.heap.size) (hr : ∀ g, r = some g → B ≤ g) : Below B a b :=
 ⟨h.os, h.tape, h.output, h.size, fun k hk => h.block k (Nat.lt_of_lt_of_le hk hB) (fun e => by have := hr k e.symm; omega)⟩
theorem rH {a b : World} {r : Option Nat} (h : Below a.heap.size a b) : a.grownBy b r := ⟨h.os, h.tape, h.output, h.size, fun k hk _ => h.block k hk⟩
theorem setRow_alloc (w : World) (z mY : Array Value) (T : TypeId) : (w.alloc (.cells z T)).setRow w.heap.size mY = w.alloc (.cells mY T) := by
 unfold World.setRow World.alloc
 simp only
 congr 1
 apply Array.ext
 ·simp
 ·intro i h1 h2
  simp only [Array.getElem_modify, Array.getElem_push]
  by_cases h : i < w.heap.size
  ·simp [h, show w.heap.size ≠ i by omega]
  ·have : i = w.heap.size := by simp at h2; omega
   subst this
   simp
section
variable {ops : Array Oper} {rest : List Oper} {o : Oper} {a : Act} {w : World} {Q : Exit → Act → World → Prop}
theorem store_new (hgd : o.guard = none) (T : TypeId) (x y : Operand) (ho : o.op = .store T x y) (z mY : Array Value) (hx : a.eval x = .pointer (some ⟨w.heap.size, 0, none⟩)) (hy : a.eval y = .agg mY)
 (hi : (Try.prog.info? T).map (·.size) = some mY.size) (hold : z.size = mY.size) (h1 : mY.all (·.oneCell') = true)
 (h : wpList Try.prog ops Q rest (a.put o.dst undef) (w.alloc (.cells mY T))) : wpList Try.prog ops Q (o :: rest) a (w.alloc (.cells z T)) := by
 refine wpList_store_row hgd T x y ho w.heap.size mY hx hy T z (heap_alloc_new w _) hi hold h1 ?_
 rw [setRow_alloc]
 exact h
theorem rP (hgd : o.guard = none) (T : TypeId) (hi : (Try.prog.info? T).map (·.size) = some 1) (x y : Operand) (ho : o.op = .store T x y) (g j : Nat) (hx : a.eval x = .pointer (some ⟨g, j, none⟩))
 (v : Value) (hy : a.eval y = v) (hv : v.cells = #[v]) (h1 : v.oneCell' = true) (cs : Array Value) (T0 : TypeId) (hg : w.heap[g]? = some (.cells cs T0 (0, 0))) (hj : j < cs.size)
 (h : ∀ w', w.grownBy w' (some g) → w'.heap.size = w.heap.size → w'.heap[g]? = some (.cells (cs.setIfInBounds j v) T0 (0, 0)) → wpList Try.prog ops Q rest (a.put o.dst undef) w') : wpList Try.prog ops Q (o :: rest) a w := by
 refine wpList_plain hgd fun K hK => ?_
 have hcell : w.cell? ⟨g, j, none⟩ = some cs[j] := by simp [World.cell?, hg, hj]
 have hfro : w.frozen? ⟨g, j, none⟩ = false := by simp [World.frozen?, hg]
 have hst : (store ⟨g, j, none⟩ v).run Try.prog w = .ok () (w.setRow g (cs.setIfInBounds j v)) := by
  rw [run_store Try.prog w _ v _ h1, hcell]
  simp [hfro, setCell_eq_setRow w g j cs T0 (0, 0) v hg]
 have hadd : (⟨g, j, none⟩ : Addr).add 0 = ⟨g, j, none⟩ := by simp [Addr.add]
 obtain ⟨i, hi1, hi2⟩ : ∃ i, Try.prog.info? T = some i ∧ i.size = 1 := by
  cases hq : Try.prog.info? T with
  | none => simp [hq] at hi
  | some i => exact ⟨i, rfl, by simpa [hq] using hi⟩
 have hrun : (storeVar T ⟨g, j, none⟩ v).run Try.prog w = .ok () (w.setRow g (cs.setIfInBounds j v)) := by
  simp [storeVar, sizeOf, typeInfo, hi1, hv, hi2, storeCells, hadd, hst]
 unfold Oper.wp execOp
 simp only [ho, hx, hy, Instr.storeAt, Instr.sureAddr, Sem.run_bind, Sem.run_pure, Result.andThen_ok, hrun]
 exact hK _ _ (h _ ⟨rfl, rfl, rfl, by simp, fun k _ hk => setRow_other w g k _ (fun e => hk (by rw [e]))⟩ (by simp) (setRow_heap w g cs _ T0 _ hg))
theorem load_fld (hgd : o.guard = none) (T : TypeId) (ha : ∀ w, (isAgg T).run Try.prog w = .ok false w) (x : Operand) (ho : o.op = .load T x) (g j : Nat) (hx : a.eval x = .pointer (some ⟨g, j, none⟩))
 (cs : Array Value) (T0 : TypeId) (hg : w.heap[g]? = some (.cells cs T0 (0, 0))) (v : Value) (hv : cs[j]? = some v)
 (h : wpList Try.prog ops Q rest (a.put o.dst v) w) : wpList Try.prog ops Q (o :: rest) a w := by
 refine wpList_plain hgd fun K hK => ?_
 exact m5
theorem uM (hgd : o.guard = none) (s x : Operand) (ho : o.op = .call { callee := .builtin .append, args := #[s, x], argTypes := #[23, 23] })
 (i : TypeInfo) (hi : Try.prog.info? 3 = some i) (hz : i.zero = some (.int .i64 0)) (hz1 : i.size = 1) (hz2 : i.bytes = 8)
 (base : Nat) (v : Value) (xs : List Int) (z : Int) (b c : Nat) (hs : a.eval s = v) (hown : w.ownsRow base 3 1 v xs.length (xs.map (Value.int .i64)))
 (hx : a.eval x = .slice (some ⟨b, 0, none⟩) 1 c) (hb : w.heap[b]? = some (.cells #[.int .i64 z] 3 (0, 0)))
 (hsm : xs.length ≤ 1000) (hbase : base ≤ w.heap.size)
 (h : ∀ v' w', w'.ownsRow base 3 1 v' (xs ++ [z]).length ((xs ++ [z]).map (Value.int .i64)) → w.grownBy w' v.ownBlock → (v'.ownBlock = v.ownBlock ∨ v'.ownBlock = some w.heap.size) → v'.cells = #[v'] → v'.oneCell' = true →
  wpList Try.prog ops Q rest (a.put o.dst v') w') : wpList Try.prog ops Q (o :: rest) a w := by
 refine wpList_plain hgd fun K hK => ?_
 obtain ⟨v', w', hr, h2, h3, _, h5⟩ := run_append_own_at (P := Try.prog) w base 23 o.type 3 i (.int .i64 0) 1 8 Try.underlying23 hi hz hz1 hz2 rfl (by decide) v xs.length (xs.map (Value.int .i64)) hown ⟨b, 0, none⟩ 1 c [.int .i64 z] rfl
  (fun j u hj => by
   rw [show (⟨b, 0, none⟩ : Addr).add j = ⟨b, j, none⟩ by first | rfl | (simp [Addr.add]; done) | (simp [Addr.add]; exact fun h => h.symm), cell_of_row w b j _ _ _ hb]
   simpa using hj) (fun u hu => by rw [List.mem_singleton.1 hu]; rfl) (by unfold maxLen; omega) (by omega) hbase
 have hsl : v'.cells = #[v'] ∧ v'.oneCell' = true := by
  rcases h2.2 with ⟨rfl, _⟩ | ⟨g, cap, cur, rfl, _⟩ <;> exact ⟨rfl, rfl⟩
 unfold Oper.wp execOp
 simp only [ho, resolve, invoke, builtin, Sem.run_bind, Sem.run_pure, Result.andThen_ok, List.map_toArray, List.map_cons, List.map_nil, hs, hx, hr]
 exact hK _ _ (h v' w' (by rw [List.map_append, List.length_append]; exact h2) h3 h5 hsl.1 hsl.2)
end
theorem tab_at (l : List Row) (i : Nat) (r : Row) (hr : l[i]? = some r) (j : Nat) (v : Value) (hj : r.cells[j]? = some v) : (fW l)[5 * i + j]? = some v := by
 induction l generalizing i with
 | nil => cases hr
 | cons x l ih =>
   unfold fW
   rw [List.flatMap_cons]
   have hx : x.cells.length = 5 := rfl
   cases i with
   | zero =>
     injection hr with hr
     subst hr
     rw [List.getElem?_append_left (by rw [hx]; have := (List.getElem?_eq_some_iff.1 hj).1; rw [hx] at this; omega)]
     simpa using hj
   | succ i =>
     rw [List.getElem?_append_right (by rw [hx]; omega), hx, show 5 * (i + 1) + j - 5 = 5 * i + j by omega]
     exact ih i hr
theorem tab_range {w : World} {b : Nat} {l : List Row} {T : TypeId} (h : w.heap[b]? = some (.cells (fW l).toArray T (0, 0))) (i : Nat) (r : Row) (hr : l[i]? = some r) : w.rangeAt b (5 * i) r.cells := fun j v hj => by
 simp only [World.cell?, h]
 simpa using tab_at l i r hr j v hj
set_option maxRecDepth 100000 in
theorem runder : ∃ fs, Try.prog.underlying 79 = some (.struct fs) := ⟨_, rfl⟩
theorem rsize (r : Row) : (Try.prog.info? 79).map (·.size) = some r.cells.length := by kernel_rfl
theorem rsize2 (a b c d e : Value) : (Try.prog.info? 79).map (·.size) = some #[a, b, c, d, e].size := by kernel_rfl
theorem sW (a b c d e : Value) : (Try.prog.info? 40).map (·.size) = some #[a, b, c, d, e].size := by kernel_rfl
theorem sK : (Try.prog.info? 23).map (·.size) = some 1 := by kernel_rfl
theorem mM (w : World) : (isAgg 3).run Try.prog w = .ok false w := by kernel_rfl
theorem vQ (w : World) : (isAgg 9).run Try.prog w = .ok false w := by kernel_rfl
theorem tP (w : World) : (isAgg 23).run Try.prog w = .ok false w := by kernel_rfl
theorem load_row {ops : Array Oper} {rest : List Oper} {o : Oper} {a : Act} {w : World} {Q : Exit → Act → World → Prop} (hgd : o.guard = none) (x : Operand) (ho : o.op = .load 79 x) (b i : Nat) (hx : a.eval x = .pointer (some ⟨b, 5 * i, none⟩)) (l : List Row) {T : TypeId}
 (hb : w.heap[b]? = some (.cells (fW l).toArray T (0, 0))) (r : Row) (hr : l[i]? = some r)
 (h : wpList Try.prog ops Q rest (a.put o.dst (.agg #[.int .i64 r.fr, .int .i64 r.to, .int .i64 r.form, .int .i64 r.lim, .string ⟨r.sig.toArray⟩])) w) : wpList Try.prog ops Q (o :: rest) a w := by
 obtain ⟨fs, hf⟩ := runder
 exact wpList_load_mid hgd 79 x ho b (5 * i) hx r.cells _ (tab_range hb i r hr) hf rfl (rsize r) h
theorem ix_row {ops : Array Oper} {rest : List Oper} {o : Oper} {a : Act} {w : World} {Q : Exit → Act → World → Prop} (hgd : o.guard = none) (x i : Operand) (ho : o.op = .indexAddr 76 x i) (b n c : Nat) (hx : a.eval x = .slice (some ⟨b, 0, none⟩) n c) (z : Int) (hi : a.eval i = .int .i64 z) (k : Nat) (hz : z = k) (hk : k < n)
 (h : wpList Try.prog ops Q rest (a.put o.dst (.pointer (some ⟨b, 5 * k, none⟩))) w) : wpList Try.prog ops Q (o :: rest) a w := by
 have hs : ∀ u, (sizeOf (Try.prog.elem 76)).run Try.prog u = .ok 5 u := fun u => by kernel_rfl
 have hu : Try.prog.underlying 76 = some (.slice (Try.prog.elem 76)) := by kernel_rfl
 exact gZ
end Go.Proofs.Ytcpfabkokgiepaa
end
