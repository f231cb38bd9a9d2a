/- A part of the proof that plaittop.CoreLanes returns true. -/
import Derived.Great.Walk
import Derived.Maps.AppendAt
import Derived.Deep.MidRow
import Derived.OwnWalk
import Derived.Laws.IdiomStrings
import Derived.Test.YtebpijlmeemfaaaGreatDoorA02
set_option linter.all false
set_option linter.unusedSectionVars false
set_option linter.unusedSimpArgs false
set_option linter.unusedVariables false
section
namespace Go.Proofs.YtebpijlmeemfaaaGreatDoor
open Go.RowKit Pl
structure Row where
 fr : Int
 to : Int
 form : Int
 lim : Int
 sig : List UInt8
def Row.cells (r : Row) : List Value := [.int .i64 r.fr, .int .i64 r.to, .int .i64 r.form, .int .i64 r.lim, .string ⟨r.sig.toArray⟩]
def tabCells (l : List Row) : List Value := l.flatMap Row.cells
set_option maxRecDepth 100000 in
theorem run_row (a b c d : Int) (s : ByteArray) : Tryz.prog.built 185 [(0, .int .i64 a), (1, .int .i64 b), (2, .int .i64 c), (3, .int .i64 d), (4, .string s)] = some #[.int .i64 a, .int .i64 b, .int .i64 c, .int .i64 d, .string s] := by kernel_rfl
set_option maxRecDepth 100000 in
theorem wpList_row {ops : Array Oper} {rest : List Oper} {o : Oper} {t : Act} {w : World} {Q : Exit → Act → World → Prop} (hg : o.guard = none) (a b c d : Int) (s : ByteArray)
  (ho : o.op = .build 185 #[(0, .const (.int .i64 a)), (1, .const (.int .i64 b)), (2, .const (.int .i64 c)), (3, .const (.int .i64 d)), (4, .const (.string s))])
  (h : wpList Tryz.prog ops Q rest (t.put o.dst (.agg #[.int .i64 a, .int .i64 b, .int .i64 c, .int .i64 d, .string s])) w) : wpList Tryz.prog ops Q (o :: rest) t w := by
 have hm : (#[(0, Operand.const (.int .i64 a)), (1, .const (.int .i64 b)), (2, .const (.int .i64 c)), (3, .const (.int .i64 d)), (4, .const (.string s))].map fun (i, x) => (i, t.eval x)).toList = [(0, Value.int .i64 a), (1, .int .i64 b), (2, .int .i64 c), (3, .int .i64 d), (4, .string s)] := by
  simp only [List.map_toArray, List.map_cons, List.map_nil]
  rfl
 have hr : Tryz.prog.built 185 (#[(0, Operand.const (.int .i64 a)), (1, .const (.int .i64 b)), (2, .const (.int .i64 c)), (3, .const (.int .i64 d)), (4, .const (.string s))].map fun (i, x) => (i, t.eval x)).toList = some #[.int .i64 a, .int .i64 b, .int .i64 c, .int .i64 d, .string s] := by
  rw [hm]
  exact run_row a b c d s
 refine wpList_plain hg fun K hK => ?_
 unfold Oper.wp execOp
 simp only [ho, Sem.run_bind, run_build w 185 _ _ hr, Result.andThen_ok]
 exact hK _ _ h
def rowsS : List Row := [
 ⟨0, 0, 1, 0, []⟩,
 ⟨1, 1, 1, 0, [58]⟩,
 ⟨2, 4, 2, 0, []⟩,
 ⟨5, 5, 1, 0, []⟩,
 ⟨11, 11, 1, 0, []⟩,
 ⟨12, 13, 3, 0, []⟩,
 ⟨14, 14, 4, 0, []⟩,
 ⟨15, 15, 1, 0, []⟩,
 ⟨16, 16, 5, 0, []⟩,
 ⟨17, 17, 6, 0, []⟩,
 ⟨26, 27, 1, 0, []⟩,
 ⟨32, 36, 5, 0, []⟩,
 ⟨40, 40, 7, 2, [105, 58, 105]⟩,
 ⟨41, 41, 7, 3, [105, 58, 108]⟩,
 ⟨44, 45, 7, 0, [105, 58, 105]⟩,
 ⟨46, 47, 7, 1, [105, 58, 105]⟩,
 ⟨48, 49, 7, 0, [105, 58, 108]⟩,
 ⟨50, 51, 7, 1, [105, 58, 108]⟩,
 ⟨52, 53, 7, 2, [105, 58, 108]⟩,
 ⟨54, 54, 7, 2, [105, 105, 58]⟩,
 ⟨55, 55, 7, 3, [105, 108, 58]⟩,
 ⟨58, 58, 7, 0, [105, 105, 58]⟩,
 ⟨59, 59, 7, 1, [105, 105, 58]⟩,
 ⟨60, 60, 7, 0, [105, 108, 58]⟩,
 ⟨61, 61, 7, 1, [105, 108, 58]⟩,
 ⟨62, 62, 7, 2, [105, 108, 58]⟩,
 ⟨63, 63, 14, 0, [58, 105]⟩,
 ⟨64, 64, 14, 0, [105, 58, 105]⟩,
 ⟨65, 65, 9, 0, [58, 105]⟩,
 ⟨66, 66, 10, 0, [58, 108]⟩,
 ⟨69, 69, 1, 0, [105, 58, 105]⟩,
 ⟨70, 79, 1, 0, [105, 105, 58, 105]⟩,
 ⟨80, 80, 1, 0, [108, 58, 105]⟩,
 ⟨81, 90, 1, 0, [108, 108, 58, 105]⟩,
 ⟨103, 105, 1, 0, [105, 58, 105]⟩,
 ⟨106, 120, 1, 0, [105, 105, 58, 105]⟩,
 ⟨121, 123, 1, 0, [108, 58, 108]⟩,
 ⟨124, 138, 1, 0, [108, 108, 58, 108]⟩,
 ⟨167, 167, 1, 0, [108, 58, 105]⟩,
 ⟨172, 173, 1, 0, [105, 58, 108]⟩,
 ⟨192, 193, 1, 0, [105, 58, 105]⟩,
 ⟨194, 196, 1, 0, [108, 58, 108]⟩]
set_option maxRecDepth 100000 in
set_option maxHeartbeats 4000000 in
theorem scalars_k (w : World) : Calls Tryz.prog 76 #[] w fun e w' => ∃ b, e = .returned (.slice (some ⟨b, 0, none⟩) 42 42) ∧ w'.heap[b]? = some (.cells (tabCells rowsS).toArray 185 (0, 0)) ∧ w.heap.size ≤ b ∧ Below w.heap.size w w' := by
 go_enter Tryz.func76, Tryz.ntmps76
 go_wp2_with (first
  | (with_reducible refine wpList_row rfl _ _ _ _ _ rfl ?_)
  | (refine Great.wpList_buildSliceTo rfl 182 185 42 _ rfl w.heap.size rfl _ rfl (by kernel_rfl) (tabCells rowsS).toArray (by kernel_rfl) ?_))
 go_ret
 exact ⟨_, rfl, heap_alloc_new _ _, Nat.le_refl _, Below.alloc (Below.refl _ _) (Nat.le_refl _) _⟩
def rowsV : List Row := [
 ⟨64768, 64768, 7, 4, [105, 58, 118]⟩,
 ⟨64769, 64774, 7, 3, [105, 58, 118]⟩,
 ⟨64775, 64775, 7, 0, [105, 58, 118]⟩,
 ⟨64776, 64776, 7, 1, [105, 58, 118]⟩,
 ⟨64777, 64777, 7, 2, [105, 58, 118]⟩,
 ⟨64778, 64778, 7, 3, [105, 58, 118]⟩,
 ⟨64779, 64779, 7, 4, [105, 118, 58]⟩,
 ⟨64780, 64780, 11, 0, [58, 118]⟩,
 ⟨64781, 64781, 12, 0, [118, 118, 58, 118]⟩,
 ⟨64782, 64782, 1, 0, [118, 118, 58, 118]⟩,
 ⟨64783, 64785, 1, 0, [105, 58, 118]⟩,
 ⟨64786, 64786, 1, 0, [108, 58, 118]⟩,
 ⟨64789, 64790, 13, 16, [118, 58, 105]⟩,
 ⟨64791, 64791, 13, 16, [118, 105, 58, 118]⟩,
 ⟨64792, 64793, 13, 8, [118, 58, 105]⟩,
 ⟨64794, 64794, 13, 8, [118, 105, 58, 118]⟩,
 ⟨64795, 64795, 13, 4, [118, 58, 105]⟩,
 ⟨64796, 64796, 13, 4, [118, 105, 58, 118]⟩,
 ⟨64797, 64797, 13, 2, [118, 58, 108]⟩,
 ⟨64798, 64798, 13, 2, [118, 108, 58, 118]⟩,
 ⟨64803, 64832, 1, 0, [118, 118, 58, 118]⟩,
 ⟨64845, 64845, 1, 0, [118, 58, 118]⟩,
 ⟨64846, 64849, 1, 0, [118, 118, 58, 118]⟩,
 ⟨64850, 64850, 1, 0, [118, 118, 118, 58, 118]⟩,
 ⟨64851, 64851, 1, 0, [118, 58, 105]⟩,
 ⟨64852, 64852, 8, 0, [105, 118, 58, 118]⟩,
 ⟨64853, 64853, 8, 1, [105, 118, 58, 118]⟩,
 ⟨64854, 64854, 8, 2, [105, 118, 58, 118]⟩,
 ⟨64855, 64855, 8, 3, [105, 118, 58, 118]⟩,
 ⟨64856, 64856, 8, 0, [105, 118, 58]⟩,
 ⟨64857, 64857, 8, 1, [105, 118, 58]⟩,
 ⟨64858, 64858, 8, 2, [105, 118, 58]⟩,
 ⟨64859, 64859, 8, 3, [105, 118, 58]⟩,
 ⟨64860, 64860, 7, 2, [105, 58, 118]⟩,
 ⟨64861, 64861, 7, 3, [105, 58, 118]⟩,
 ⟨64864, 64866, 1, 0, [118, 58, 118]⟩,
 ⟨64867, 64868, 1, 0, [118, 58, 105]⟩,
 ⟨64869, 64870, 1, 0, [118, 118, 58, 118]⟩,
 ⟨64875, 64877, 1, 0, [118, 105, 58, 118]⟩,
 ⟨64878, 64883, 1, 0, [118, 118, 58, 118]⟩,
 ⟨64886, 64889, 1, 0, [118, 118, 58, 118]⟩,
 ⟨64891, 64891, 1, 0, [118, 118, 58, 118]⟩,
 ⟨64892, 64897, 1, 0, [118, 58, 118]⟩,
 ⟨64898, 64898, 1, 0, [118, 118, 58, 118]⟩,
 ⟨64899, 64900, 1, 0, [118, 58, 105]⟩,
 ⟨64901, 64902, 1, 0, [118, 118, 58, 118]⟩,
 ⟨64903, 64906, 1, 0, [118, 58, 118]⟩,
 ⟨64907, 64909, 1, 0, [118, 105, 58, 118]⟩,
 ⟨64910, 64915, 1, 0, [118, 118, 58, 118]⟩,
 ⟨64917, 64921, 1, 0, [118, 118, 58, 118]⟩,
 ⟨64923, 64927, 1, 0, [118, 118, 58, 118]⟩,
 ⟨64928, 64929, 1, 0, [118, 58, 118]⟩,
 ⟨64931, 64932, 1, 0, [118, 58, 105]⟩,
 ⟨64935, 64938, 1, 0, [118, 58, 118]⟩,
 ⟨64939, 64941, 1, 0, [118, 105, 58, 118]⟩,
 ⟨64942, 64942, 1, 0, [118, 118, 58, 118]⟩,
 ⟨64945, 64945, 1, 0, [118, 118, 58, 118]⟩,
 ⟨64949, 64954, 1, 0, [118, 118, 58, 118]⟩,
 ⟨64956, 64959, 1, 0, [118, 118, 58, 118]⟩,
 ⟨64960, 64961, 1, 0, [118, 58, 118]⟩,
 ⟨64963, 64964, 1, 0, [118, 58, 105]⟩,
 ⟨64967, 64970, 1, 0, [118, 58, 118]⟩,
 ⟨64971, 64973, 1, 0, [118, 105, 58, 118]⟩,
 ⟨64974, 64974, 1, 0, [118, 118, 58, 118]⟩,
 ⟨64977, 64977, 1, 0, [118, 118, 58, 118]⟩,
 ⟨64981, 64991, 1, 0, [118, 118, 58, 118]⟩]
set_option maxRecDepth 100000 in
set_option maxHeartbeats 4000000 in
theorem vectors_k (w : World) : Calls Tryz.prog 77 #[] w fun e w' => ∃ b, e = .returned (.slice (some ⟨b, 0, none⟩) 66 66) ∧ w'.heap[b]? = some (.cells (tabCells rowsV).toArray 185 (0, 0)) ∧ w.heap.size ≤ b ∧ Below w.heap.size w w' := by
 go_enter Tryz.func77, Tryz.ntmps77
 go_wp2_with (first
  | (with_reducible refine wpList_row rfl _ _ _ _ _ rfl ?_)
  | (refine Great.wpList_buildSliceTo rfl 182 185 66 _ rfl w.heap.size rfl _ rfl (by kernel_rfl) (tabCells rowsV).toArray (by kernel_rfl) ?_))
 go_ret
 exact ⟨_, rfl, heap_alloc_new _ _, Nat.le_refl _, Below.alloc (Below.refl _ _) (Nat.le_refl _) _⟩
end Go.Proofs.YtebpijlmeemfaaaGreatDoor
end
section
namespace Go.Proofs.YtebpijlmeemfaaaGreatDoor
open Go.RowKit Pl
theorem grown_refl (w : World) (r : Option Nat) : w.grownBy w r := ⟨rfl, rfl, rfl, Nat.le_refl _, fun _ _ _ => rfl⟩
theorem grown_trans {a b c : World} {r : Option Nat} (h : a.grownBy b r) (k : b.grownBy c r) : a.grownBy c r :=
 ⟨k.os.trans h.os, k.tape.trans h.tape, k.output.trans h.output, Nat.le_trans h.size k.size, fun i hi hn => (k.block i (Nat.lt_of_lt_of_le hi h.size) hn).trans (h.block i hi hn)⟩
theorem grown_far {a b c : World} {r s : Option Nat} (h : a.grownBy b r) (k : b.grownBy c s) (hs : ∀ g, s = some g → a.heap.size ≤ g) : a.grownBy c r :=
 ⟨k.os.trans h.os, k.tape.trans h.tape, k.output.trans h.output, Nat.le_trans h.size k.size, fun i hi hn => (k.block i (Nat.lt_of_lt_of_le hi h.size) (fun e => by have := hs i e.symm; omega)).trans (h.block i hi hn)⟩
theorem grown_below {a b : World} {r : Option Nat} {B : Nat} (h : a.grownBy b r) (hB : B ≤ a.heap.size) (hr : ∀ g, r = some g → B ≤ g) : Below B a b :=
 ⟨h.os, h.tape, h.output, h.size, fun k hk => h.block k (Nat.lt_of_lt_of_le hk hB) (fun e => by have := hr k e.symm; omega)⟩
theorem grown_of_below {a b : World} {r : Option Nat} (h : Below a.heap.size a b) : a.grownBy b r := ⟨h.os, h.tape, h.output, h.size, fun k hk _ => h.block k hk⟩
theorem setRow_alloc (w : World) (z cells : Array Value) (T : TypeId) : (w.alloc (.cells z T)).setRow w.heap.size cells = w.alloc (.cells cells T) := by
 unfold World.setRow World.alloc
 simp only
 congr 1
 apply Array.ext
 ·simp
 ·intro i h1 h2
  simp only [Array.getElem_modify, Array.getElem_push]
  by_cases h : i < w.heap.size
  ·simp [h, show w.heap.size ≠ i by omega]
  ·have : i = w.heap.size := by simp at h2; omega
   subst this
   simp
section
variable {ops : Array Oper} {rest : List Oper} {o : Oper} {a : Act} {w : World} {Q : Exit → Act → World → Prop}
theorem store_new (hgd : o.guard = none) (T : TypeId) (x y : Operand) (ho : o.op = .store T x y) (z cells : Array Value) (hx : a.eval x = .pointer (some ⟨w.heap.size, 0, none⟩)) (hy : a.eval y = .agg cells)
  (hi : (Tryz.prog.info? T).map (·.size) = some cells.size) (hold : z.size = cells.size) (h1 : cells.all (·.oneCell') = true)
  (h : wpList Tryz.prog ops Q rest (a.put o.dst undef) (w.alloc (.cells cells T))) : wpList Tryz.prog ops Q (o :: rest) a (w.alloc (.cells z T)) := by
 refine wpList_store_row hgd T x y ho w.heap.size cells hx hy T z (heap_alloc_new w _) hi hold h1 ?_
 rw [setRow_alloc]
 exact h
theorem store_fld (hgd : o.guard = none) (T : TypeId) (hi : (Tryz.prog.info? T).map (·.size) = some 1) (x y : Operand) (ho : o.op = .store T x y) (g j : Nat) (hx : a.eval x = .pointer (some ⟨g, j, none⟩))
  (v : Value) (hy : a.eval y = v) (hv : v.cells = #[v]) (h1 : v.oneCell' = true) (cs : Array Value) (T0 : TypeId) (hg : w.heap[g]? = some (.cells cs T0 (0, 0))) (hj : j < cs.size)
  (h : ∀ w', w.grownBy w' (some g) → w'.heap.size = w.heap.size → w'.heap[g]? = some (.cells (cs.setIfInBounds j v) T0 (0, 0)) → wpList Tryz.prog ops Q rest (a.put o.dst undef) w') : wpList Tryz.prog ops Q (o :: rest) a w := by
 refine wpList_plain hgd fun K hK => ?_
 have hcell : w.cell? ⟨g, j, none⟩ = some cs[j] := by simp [World.cell?, hg, hj]
 have hfro : w.frozen? ⟨g, j, none⟩ = false := by simp [World.frozen?, hg]
 have hst : (store ⟨g, j, none⟩ v).run Tryz.prog w = .ok () (w.setRow g (cs.setIfInBounds j v)) := by
  rw [run_store Tryz.prog w _ v _ h1, hcell]
  simp [hfro, setCell_eq_setRow w g j cs T0 (0, 0) v hg]
 have hadd : (⟨g, j, none⟩ : Addr).add 0 = ⟨g, j, none⟩ := by simp [Addr.add]
 obtain ⟨i, hi1, hi2⟩ : ∃ i, Tryz.prog.info? T = some i ∧ i.size = 1 := by
  cases hq : Tryz.prog.info? T with
  | none => simp [hq] at hi
  | some i => exact ⟨i, rfl, by simpa [hq] using hi⟩
 have hrun : (storeVar T ⟨g, j, none⟩ v).run Tryz.prog w = .ok () (w.setRow g (cs.setIfInBounds j v)) := by
  simp [storeVar, sizeOf, typeInfo, hi1, hv, hi2, storeCells, hadd, hst]
 unfold Oper.wp execOp
 simp only [ho, hx, hy, Instr.storeAt, Instr.sureAddr, Sem.run_bind, Sem.run_pure, Result.andThen_ok, hrun]
 exact hK _ _ (h _ ⟨rfl, rfl, rfl, by simp, fun k _ hk => setRow_other w g k _ (fun e => hk (by rw [e]))⟩ (by simp) (setRow_heap w g cs _ T0 _ hg))
theorem app_int1 (hgd : o.guard = none) (s x : Operand) (ho : o.op = .call { callee := .builtin .append, args := #[s, x], argTypes := #[34, 34] })
  (i : TypeInfo) (hi : Tryz.prog.info? 3 = some i) (hz : i.zero = some (.int .i64 0)) (hz1 : i.size = 1) (hz2 : i.bytes = 8)
  (base : Nat) (v : Value) (xs : List Int) (z : Int) (b c : Nat) (hs : a.eval s = v) (hown : w.ownsRow base 3 1 v xs.length (xs.map (Value.int .i64)))
  (hx : a.eval x = .slice (some ⟨b, 0, none⟩) 1 c) (hb : w.heap[b]? = some (.cells #[.int .i64 z] 3 (0, 0)))
  (hsm : xs.length ≤ 1000) (hbase : base ≤ w.heap.size)
  (h : ∀ v' w', w'.ownsRow base 3 1 v' (xs ++ [z]).length ((xs ++ [z]).map (Value.int .i64)) → w.grownBy w' v.ownBlock → (v'.ownBlock = v.ownBlock ∨ v'.ownBlock = some w.heap.size) → v'.cells = #[v'] → v'.oneCell' = true →
   wpList Tryz.prog ops Q rest (a.put o.dst v') w') : wpList Tryz.prog ops Q (o :: rest) a w := by
 refine wpList_plain hgd fun K hK => ?_
 obtain ⟨v', w', hr, h2, h3, _, h5⟩ := run_append_own_at (P := Tryz.prog) w base 34 o.type 3 i (.int .i64 0) 1 8 Tryz.underlying34 hi hz hz1 hz2 rfl (by decide) v xs.length (xs.map (Value.int .i64)) hown ⟨b, 0, none⟩ 1 c [.int .i64 z] rfl
  (fun j u hj => by
   rw [show (⟨b, 0, none⟩ : Addr).add j = ⟨b, j, none⟩ by first | rfl | (simp [Addr.add]; done) | (simp [Addr.add]; exact fun h => h.symm), cell_of_row w b j _ _ _ hb]
   simpa using hj) (fun u hu => by rw [List.mem_singleton.1 hu]; rfl) (by unfold maxLen; omega) (by omega) hbase
 have hsl : v'.cells = #[v'] ∧ v'.oneCell' = true := by
  rcases h2.2 with ⟨rfl, _⟩ | ⟨g, cap, cur, rfl, _⟩ <;> exact ⟨rfl, rfl⟩
 unfold Oper.wp execOp
 simp only [ho, resolve, invoke, builtin, Sem.run_bind, Sem.run_pure, Result.andThen_ok, List.map_toArray, List.map_cons, List.map_nil, hs, hx, hr]
 exact hK _ _ (h v' w' (by rw [List.map_append, List.length_append]; exact h2) h3 h5 hsl.1 hsl.2)
end
theorem tab_at (l : List Row) (i : Nat) (r : Row) (hr : l[i]? = some r) (j : Nat) (v : Value) (hj : r.cells[j]? = some v) : (tabCells l)[5 * i + j]? = some v := by
 induction l generalizing i with
 | nil => cases hr
 | cons x l ih =>
  unfold tabCells
  rw [List.flatMap_cons]
  have hx : x.cells.length = 5 := rfl
  cases i with
  | zero =>
   injection hr with hr
   subst hr
   rw [List.getElem?_append_left (by rw [hx]; have := (List.getElem?_eq_some_iff.1 hj).1; rw [hx] at this; omega)]
   simpa using hj
  | succ i =>
   rw [List.getElem?_append_right (by rw [hx]; omega), hx, show 5 * (i + 1) + j - 5 = 5 * i + j by omega]
   exact ih i hr
theorem tab_range {w : World} {b : Nat} {l : List Row} {T : TypeId} (h : w.heap[b]? = some (.cells (tabCells l).toArray T (0, 0))) (i : Nat) (r : Row) (hr : l[i]? = some r) : w.rangeAt b (5 * i) r.cells := fun j v hj => by
 simp only [World.cell?, h]
 simpa using tab_at l i r hr j v hj
set_option maxRecDepth 100000 in
theorem runder : ∃ fs, Tryz.prog.underlying 185 = some (.struct fs) := ⟨_, rfl⟩
theorem rsize (r : Row) : (Tryz.prog.info? 185).map (·.size) = some r.cells.length := by kernel_rfl
theorem infsize (a b c d e : Value) : (Tryz.prog.info? 86).map (·.size) = some #[a, b, c, d, e].size := by kernel_rfl
theorem size_slint : (Tryz.prog.info? 34).map (·.size) = some 1 := by kernel_rfl
theorem isAgg_int (w : World) : (isAgg 3).run Tryz.prog w = .ok false w := by kernel_rfl
theorem isAgg_str (w : World) : (isAgg 9).run Tryz.prog w = .ok false w := by kernel_rfl
theorem isAgg_slint (w : World) : (isAgg 34).run Tryz.prog w = .ok false w := by kernel_rfl
theorem load_row {ops : Array Oper} {rest : List Oper} {o : Oper} {a : Act} {w : World} {Q : Exit → Act → World → Prop} (hgd : o.guard = none) (x : Operand) (ho : o.op = .load 185 x) (b i : Nat) (hx : a.eval x = .pointer (some ⟨b, 5 * i, none⟩)) (l : List Row) {T : TypeId}
  (hb : w.heap[b]? = some (.cells (tabCells l).toArray T (0, 0))) (r : Row) (hr : l[i]? = some r)
  (h : wpList Tryz.prog ops Q rest (a.put o.dst (.agg #[.int .i64 r.fr, .int .i64 r.to, .int .i64 r.form, .int .i64 r.lim, .string ⟨r.sig.toArray⟩])) w) : wpList Tryz.prog ops Q (o :: rest) a w := by
 obtain ⟨fs, hf⟩ := runder
 exact wpList_load_mid hgd 185 x ho b (5 * i) hx r.cells _ (tab_range hb i r hr) hf rfl (rsize r) h
theorem ix_row {ops : Array Oper} {rest : List Oper} {o : Oper} {a : Act} {w : World} {Q : Exit → Act → World → Prop} (hgd : o.guard = none) (x i : Operand) (ho : o.op = .indexAddr 182 x i) (b n c : Nat) (hx : a.eval x = .slice (some ⟨b, 0, none⟩) n c) (z : Int) (hi : a.eval i = .int .i64 z) (k : Nat) (hz : z = k) (hk : k < n)
  (h : wpList Tryz.prog ops Q rest (a.put o.dst (.pointer (some ⟨b, 5 * k, none⟩))) w) : wpList Tryz.prog ops Q (o :: rest) a w := by
 have hs : ∀ u, (sizeOf (Tryz.prog.elem 182)).run Tryz.prog u = .ok 5 u := fun u => by kernel_rfl
 have hu : Tryz.prog.underlying 182 = some (.slice (Tryz.prog.elem 182)) := by kernel_rfl
 have h2 : (0 ≤ z ∧ z < (n : Int)) := by omega
 refine wpList_plain hgd fun K hK => ?_
 unfold Oper.wp execOp
 simp only [ho, hx, hi, Sem.run_bind, run_indexAt_slice (h := hu)]
 rw [if_pos h2, hs]
 subst hz
 rw [Nat.mul_comm] at h
 have := hK _ _ h
 simpa [Go.Addr.add_mid, go_sem] using this
end Go.Proofs.YtebpijlmeemfaaaGreatDoor
end
section
namespace Pl
def tyOf (c : UInt8) : Int := if c = 108 then 126 else if c = 118 then 123 else 127
def sigStep (st : Bool × List Int × List Int) (c : UInt8) : Bool × List Int × List Int :=
 if c = 58 then (true, st.2.1, st.2.2) else if st.1 then (true, st.2.1, st.2.2 ++ [tyOf c]) else (false, st.2.1 ++ [tyOf c], st.2.2)
def sigOf (l : List UInt8) : Bool × List Int × List Int := l.foldl sigStep (false, [], [])
theorem sigOf_take (l : List UInt8) (j : Nat) (h : j < l.length) : sigOf (l.take (j + 1)) = sigStep (sigOf (l.take j)) l[j] := by
 unfold sigOf
 rw [List.take_succ_eq_append_getElem h, List.foldl_append]
 rfl
end Pl
namespace Go.Proofs.YtebpijlmeemfaaaGreatDoor
open Go.RowKit Pl
structure InfoSt (W : World) (I : Nat) (form lim : Int) (pl : Bool) (s t : Value) (xs ys : List Int) (u : World) : Prop where
 grown : W.grownBy u (some I)
 blk : u.heap[I]? = some (.cells #[.int .i64 form, .int .i64 lim, .bool pl, s, t] 86 (0, 0))
 inn : u.ownsRow W.heap.size 3 1 s xs.length (xs.map (Value.int .i64))
 out : u.ownsRow W.heap.size 3 1 t ys.length (ys.map (Value.int .i64))
 apart : ∀ k, s.ownBlock = some k → t.ownBlock ≠ some k
 lt : I < W.heap.size
theorem InfoSt.start {W : World} {I : Nat} {form lim : Int} {pl : Bool} (h : W.heap[I]? = some (.cells #[.int .i64 form, .int .i64 lim, .bool pl, .slice none 0 0, .slice none 0 0] 86 (0, 0))) :
  InfoSt W I form lim pl (.slice none 0 0) (.slice none 0 0) [] [] W :=
 ⟨grown_refl _ _, h, World.ownsRow_nil _ _ _ _, World.ownsRow_nil _ _ _ _, fun k hk => by simp [Value.ownBlock] at hk, block_lt h⟩
theorem own_kept {u u1 : World} {B : Nat} {v : Value} {n : Nat} {xs : List Value} (h : u.ownsRow B 3 1 v n xs) {r : Option Nat} (hg : u.grownBy u1 r) (hne : ∀ k, v.ownBlock = some k → r ≠ some k) : u1.ownsRow B 3 1 v n xs :=
 h.kept hg (by
  cases hv : v.ownBlock with
  | none => exact .inl rfl
  | some k => exact .inr (fun e => hne k hv (by rw [← e])))
theorem InfoSt.into {W u u1 u2 u3 : World} {I : Nat} {form lim : Int} {pl : Bool} {s t v : Value} {xs ys xs' : List Int} (h : InfoSt W I form lim pl s t xs ys u)
  (h1 : Below u.heap.size u u1) (h2 : u2.ownsRow W.heap.size 3 1 v xs'.length (xs'.map (Value.int .i64))) (g2 : u1.grownBy u2 s.ownBlock) (a2 : v.ownBlock = s.ownBlock ∨ v.ownBlock = some u1.heap.size)
  (g3 : u2.grownBy u3 (some I)) (b3 : u3.heap[I]? = some (.cells #[.int .i64 form, .int .i64 lim, .bool pl, v, t] 86 (0, 0))) : InfoSt W I form lim pl v t xs' ys u3 := by
 have hsz := h.grown.size
 have hI := h.lt
 refine ⟨grown_trans (grown_far (grown_far h.grown (grown_of_below (r := none) h1) (fun g e => by cases e)) g2 (fun g e => (h.inn.lt g e).1)) g3, b3, own_kept h2 g3 (fun k hk e => ?_), own_kept (own_kept (own_kept h.out (grown_of_below (r := none) h1) (fun k _ e => by cases e)) g2 (fun k hk e => h.apart k e hk)) g3 (fun k hk e => ?_), fun k hk hk2 => ?_, hI⟩
 ·injection e with e
  have := (h2.lt k hk).1
  omega
 ·injection e with e
  have := (h.out.lt k hk).1
  omega
 ·rcases a2 with e | e
  ·exact h.apart k (e ▸ hk) hk2
  ·have h5 := (h.out.lt k hk2).2
   have h6 := h1.size
   rw [e] at hk
   injection hk with hk
   omega
theorem InfoSt.onto {W u u1 u2 u3 : World} {I : Nat} {form lim : Int} {pl : Bool} {s t v : Value} {xs ys ys' : List Int} (h : InfoSt W I form lim pl s t xs ys u)
  (h1 : Below u.heap.size u u1) (h2 : u2.ownsRow W.heap.size 3 1 v ys'.length (ys'.map (Value.int .i64))) (g2 : u1.grownBy u2 t.ownBlock) (a2 : v.ownBlock = t.ownBlock ∨ v.ownBlock = some u1.heap.size)
  (g3 : u2.grownBy u3 (some I)) (b3 : u3.heap[I]? = some (.cells #[.int .i64 form, .int .i64 lim, .bool pl, s, v] 86 (0, 0))) : InfoSt W I form lim pl s v xs ys' u3 := by
 have hsz := h.grown.size
 have hI := h.lt
 refine ⟨grown_trans (grown_far (grown_far h.grown (grown_of_below (r := none) h1) (fun g e => by cases e)) g2 (fun g e => (h.out.lt g e).1)) g3, b3, own_kept (own_kept (own_kept h.inn (grown_of_below (r := none) h1) (fun k _ e => by cases e)) g2 (fun k hk e => h.apart k hk e)) g3 (fun k hk e => ?_), own_kept h2 g3 (fun k hk e => ?_), fun k hk hk2 => ?_, hI⟩
 ·injection e with e
  have := (h.inn.lt k hk).1
  omega
 ·injection e with e
  have := (h2.lt k hk).1
  omega
 ·rcases a2 with e | e
  ·exact h.apart k hk (e ▸ hk2)
  ·have h5 := (h.inn.lt k hk).2
   have h6 := h1.size
   rw [e] at hk2
   injection hk2 with hk2
   omega
theorem conv_str {ops : Array Oper} {rest : List Oper} {o : Oper} {a : Act} {w : World} {Q : Exit → Act → World → Prop} (hgd : o.guard = none) (x : Operand) (ho : o.op = .convert 9 65 x) (l : List UInt8) (hx : a.eval x = .string ⟨l.toArray⟩)
  (h : ∀ Y c w', w.heap.size ≤ Y → Below w.heap.size w w' → (∀ j (hj : j < l.length), w'.cell? ⟨Y, j, none⟩ = some (.int .u8 (l[j].toNat : Int))) → Y < w'.heap.size → wpList Tryz.prog ops Q rest (a.put o.dst (.slice (some ⟨Y, 0, none⟩) l.length c)) w') : wpList Tryz.prog ops Q (o :: rest) a w := by
 refine wpList_plain hgd fun K hK => ?_
 have hr := run_bytes_of_string (P := Tryz.prog) w 9 65 5 ⟨l.toArray⟩ (by kernel_rfl) (by kernel_rfl) (by kernel_rfl)
 have hs : (ByteArray.mk l.toArray).size = l.length := rfl
 rw [hs] at hr
 unfold Oper.wp execOp
 simp only [ho, hx, Sem.run_bind, hr, Result.andThen_ok]
 refine hK _ _ (h w.heap.size _ _ (Nat.le_refl _) ((Below.refl _ _).drew.alloc (Nat.le_refl _) _) (fun j hj => ?_) (by show w.heap.size < (w.heap.push _).size; simp))
 have hb : (w.drew.alloc (.cells (bytesRow ⟨l.toArray⟩ (grownCap w l.length 0 5)) 5 ((bytesRow ⟨l.toArray⟩ (grownCap w l.length 0 5)).size, (bytesRow ⟨l.toArray⟩ (grownCap w l.length 0 5)).size + 1))).heap[w.heap.size]? = _ := heap_alloc_new w.drew _
 simp only [World.cell?, hb]
 unfold bytesRow
 rw [Array.getElem?_append_left (by simpa using hj)]
 simp [hj]
theorem ix1 {ops : Array Oper} {rest : List Oper} {o : Oper} {a : Act} {w : World} {Q : Exit → Act → World → Prop} (hgd : o.guard = none) (T : TypeId) (hs : ∀ u, (sizeOf (Tryz.prog.elem T)).run Tryz.prog u = .ok 1 u) (hu : Tryz.prog.underlying T = some (.slice (Tryz.prog.elem T))) (x i : Operand) (ho : o.op = .indexAddr T x i) (b off n c : Nat) (hx : a.eval x = .slice (some ⟨b, off, none⟩) n c) (z : Int) (hi : a.eval i = .int .i64 z) (k : Nat) (hz : z = k) (hk : k < n)
  (h : wpList Tryz.prog ops Q rest (a.put o.dst (.pointer (some ⟨b, off + k, none⟩))) w) : wpList Tryz.prog ops Q (o :: rest) a w := by
 have h2 : (0 ≤ z ∧ z < (n : Int)) := by omega
 refine wpList_plain hgd fun K hK => ?_
 unfold Oper.wp execOp
 simp only [ho, hx, hi, Sem.run_bind, run_indexAt_slice (h := hu)]
 rw [if_pos h2, hs]
 subst hz
 have := hK _ _ h
 simpa [Go.Addr.add_mid, go_sem] using this
theorem ld1 {ops : Array Oper} {rest : List Oper} {o : Oper} {a : Act} {w : World} {Q : Exit → Act → World → Prop} (hgd : o.guard = none) (T : TypeId) (ha : ∀ w, (isAgg T).run Tryz.prog w = .ok false w) (x : Operand) (ho : o.op = .load T x) (ad : Addr) (hx : a.eval x = .pointer (some ad)) (v : Value) (hc : w.cell? ad = some v)
  (h : wpList Tryz.prog ops Q rest (a.put o.dst v) w) : wpList Tryz.prog ops Q (o :: rest) a w := by
 refine wpList_plain hgd fun K hK => ?_
 have ha := ha w
 unfold Oper.wp execOp
 simp only [ho, hx, Instr.loadAt, Instr.sureAddr, Sem.run_bind, Sem.run_pure, Result.andThen_ok]
 simp only [loadVar, Sem.run_bind, ha, Result.andThen_ok]
 simp [hc, go_sem]
 exact hK _ _ h
theorem size_by : ∀ u, (sizeOf (Tryz.prog.elem 65)).run Tryz.prog u = .ok 1 u := fun u => by kernel_rfl
theorem under_by : Tryz.prog.underlying 65 = some (.slice (Tryz.prog.elem 65)) := by kernel_rfl
theorem isAgg_u8 (w : World) : (isAgg 5).run Tryz.prog w = .ok false w := by kernel_rfl
set_option maxRecDepth 100000 in
theorem iunder : ∃ fs, Tryz.prog.underlying 86 = some (.struct fs) := ⟨_, rfl⟩
theorem load_info {ops : Array Oper} {rest : List Oper} {o : Oper} {a : Act} {w : World} {Q : Exit → Act → World → Prop} (hgd : o.guard = none) (x : Operand) (ho : o.op = .load 86 x) (b : Nat) (hx : a.eval x = .pointer (some ⟨b, 0, none⟩)) (c0 c1 c2 c3 c4 : Value)
  (hb : w.heap[b]? = some (.cells #[c0, c1, c2, c3, c4] 86 (0, 0))) (h : wpList Tryz.prog ops Q rest (a.put o.dst (.agg #[c0, c1, c2, c3, c4])) w) : wpList Tryz.prog ops Q (o :: rest) a w := by
 obtain ⟨fs, hf⟩ := iunder
 exact wpList_load_mid hgd 86 x ho b 0 hx [c0, c1, c2, c3, c4] _ (fun j v hj => by simp only [World.cell?, hb, Nat.zero_add]; simpa using hj) hf rfl (infsize c0 c1 c2 c3 c4) h
theorem results_info_tmp {fn : Func} {p q : Tmp} (h : fn.results = #[.cell p 86, .tmp q]) (tmps : Array Value) (w : World) (g : Nat) (c0 c1 c2 c3 c4 : Value) (y : Value)
  (hp : tmps.getD p undef = .pointer (some ⟨g, 0, none⟩)) (hq : tmps.getD q undef = y) (hg : w.heap[g]? = some (.cells #[c0, c1, c2, c3, c4] 86 (0, 0))) :
  (results fn tmps).run Tryz.prog w = .ok (.tuple #[.agg #[c0, c1, c2, c3, c4], y]) w := by
 obtain ⟨fs, hf⟩ := iunder
 have hp' : tmps[p]?.getD undef = .pointer (some ⟨g, 0, none⟩) := by simpa using hp
 have hq' : tmps[q]?.getD undef = y := by simpa using hq
 simp [results, h, hp', hq', asAddr, run_loadVar_row w g 86 86 #[c0, c1, c2, c3, c4] (0, 0) _ hg hf rfl (infsize c0 c1 c2 c3 c4)]
theorem store_info {ops : Array Oper} {rest : List Oper} {o : Oper} {a : Act} {w : World} {Q : Exit → Act → World → Prop} (hgd : o.guard = none) (x y : Operand) (ho : o.op = .store 86 x y) (g : Nat) (c0 c1 c2 c3 c4 d0 d1 d2 d3 d4 : Value) (hx : a.eval x = .pointer (some ⟨g, 0, none⟩)) (hy : a.eval y = .agg #[c0, c1, c2, c3, c4])
  (hg : w.heap[g]? = some (.cells #[d0, d1, d2, d3, d4] 86 (0, 0))) (h1 : #[c0, c1, c2, c3, c4].all (·.oneCell') = true)
  (h : ∀ w', w.grownBy w' (some g) → w'.heap[g]? = some (.cells #[c0, c1, c2, c3, c4] 86 (0, 0)) → wpList Tryz.prog ops Q rest (a.put o.dst undef) w') : wpList Tryz.prog ops Q (o :: rest) a w :=
 wpList_store_row hgd 86 x y ho g #[c0, c1, c2, c3, c4] hx hy 86 _ hg (infsize c0 c1 c2 c3 c4) rfl h1 (h _ ⟨rfl, rfl, rfl, by simp, fun k _ hk => setRow_other w g k _ (fun e => hk (by rw [e]))⟩ (setRow_heap w g _ _ 86 _ hg))
theorem InfoSt.blk2 {W u u1 u2 : World} {I : Nat} {form lim : Int} {pl : Bool} {s t : Value} {xs ys : List Int} (h : InfoSt W I form lim pl s t xs ys u) (h1 : Below u.heap.size u u1) {r : Option Nat} (g2 : u1.grownBy u2 r) (hr : ∀ k, r = some k → W.heap.size ≤ k) :
  u2.heap[I]? = some (.cells #[.int .i64 form, .int .i64 lim, .bool pl, s, t] 86 (0, 0)) := by
 have h5 := h.grown.size
 have h6 := h.lt
 have h7 := h1.size
 rw [g2.block I (by omega) (fun e => by have := hr I e.symm; omega), h1.block I (by omega)]
 exact h.blk
theorem InfoSt.keep {W u : World} {I : Nat} {form lim : Int} {pl : Bool} {s t : Value} {xs ys : List Int} (h : InfoSt W I form lim pl s t xs ys u) {Y : Nat} (hY : Y < W.heap.size) (hne : Y ≠ I) : u.heap[Y]? = W.heap[Y]? := h.grown.block Y hY (fun e => hne (by injection e))
theorem owns_base {u : World} {B B' : Nat} {v : Value} {n : Nat} {xs : List Value} (h : u.ownsRow B 3 1 v n xs) (hB : B' ≤ B) : u.ownsRow B' 3 1 v n xs :=
 ⟨h.1, h.2.imp id (fun ⟨g, cap, cur, e1, e2, e3⟩ => ⟨g, cap, cur, e1, by omega, e3⟩)⟩
theorem owns_one {u : World} {B : Nat} {v : Value} {n : Nat} {xs : List Value} (h : u.ownsRow B 3 1 v n xs) : v.oneCell' = true ∧ v.cells = #[v] := by
 rcases h.2 with ⟨rfl, _⟩ | ⟨g, cap, cur, rfl, _⟩ <;> exact ⟨rfl, rfl⟩
theorem sigStep_col (b : Bool) (xs ys : List Int) : sigStep (b, xs, ys) 58 = (true, xs, ys) := rfl
theorem sigStep_in (xs ys : List Int) (c : UInt8) (h : c ≠ 58) : sigStep (false, xs, ys) c = (false, xs ++ [tyOf c], ys) := by unfold sigStep; rw [if_neg h]; rfl
theorem sigStep_out (xs ys : List Int) (c : UInt8) (h : c ≠ 58) : sigStep (true, xs, ys) c = (true, xs, ys ++ [tyOf c]) := by unfold sigStep; rw [if_neg h]; rfl
theorem sigStep_len (st : Bool × List Int × List Int) (c : UInt8) : (sigStep st c).2.1.length + (sigStep st c).2.2.length ≤ st.2.1.length + st.2.2.length + 1 := by
 unfold sigStep
 split
 ·simp
 ·split <;> simp <;> omega
theorem sigFold_len (l : List UInt8) : ∀ st : Bool × List Int × List Int, (l.foldl sigStep st).2.1.length + (l.foldl sigStep st).2.2.length ≤ st.2.1.length + st.2.2.length + l.length := by
 induction l with
 | nil => intro st; simp
 | cons c l ih =>
  intro st
  rw [List.foldl_cons, List.length_cons]
  have h1 := ih (sigStep st c)
  have h2 := sigStep_len st c
  omega
theorem sigOf_len (l : List UInt8) : (sigOf l).2.1.length + (sigOf l).2.2.length ≤ l.length := by
 have := sigFold_len l (false, [], [])
 simpa [sigOf] using this
end Go.Proofs.YtebpijlmeemfaaaGreatDoor
end
