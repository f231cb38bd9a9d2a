/-
  Laws of the walk for instr.Of, pair.Take: a new variable filled, a field stored, an append onto an own row, a row of a table loaded.
-/
import Derived.Test.YtcpfabkokgiepaaVcT
import Derived.Maps.AppendAt
import Derived.Deep.MidRow
import Derived.OwnWalk
set_option linter.unusedSimpArgs false
set_option linter.unusedVariables false
namespace Go.Proofs.Ytcpfabkokgiepaa
open Go.RowKit Pl

theorem grown_refl (w : World) (r : Option Nat) : w.grownBy w r := ⟨rfl, rfl, rfl, Nat.le_refl _, fun _ _ _ => rfl⟩
theorem grown_trans {a b c : World} {r : Option Nat} (h : a.grownBy b r) (k : b.grownBy c r) : a.grownBy c r :=
  ⟨k.os.trans h.os, k.tape.trans h.tape, k.output.trans h.output, Nat.le_trans h.size k.size, fun i hi hn => (k.block i (Nat.lt_of_lt_of_le hi h.size) hn).trans (h.block i hi hn)⟩
/-- A step that changes only block g, g not of a's blocks. -/
theorem grown_far {a b c : World} {r s : Option Nat} (h : a.grownBy b r) (k : b.grownBy c s) (hs : ∀ g, s = some g → a.heap.size ≤ g) : a.grownBy c r :=
  ⟨k.os.trans h.os, k.tape.trans h.tape, k.output.trans h.output, Nat.le_trans h.size k.size, fun i hi hn => (k.block i (Nat.lt_of_lt_of_le hi h.size) (fun e => by have := hs i e.symm; omega)).trans (h.block i hi hn)⟩
theorem grown_below {a b : World} {r : Option Nat} {B : Nat} (h : a.grownBy b r) (hB : B ≤ a.heap.size) (hr : ∀ g, r = some g → B ≤ g) : Below B a b :=
  ⟨h.os, h.tape, h.output, h.size, fun k hk => h.block k (Nat.lt_of_lt_of_le hk hB) (fun e => by have := hr k e.symm; omega)⟩
theorem grown_of_below {a b : World} {r : Option Nat} (h : Below a.heap.size a b) : a.grownBy b r := ⟨h.os, h.tape, h.output, h.size, fun k hk _ => h.block k hk⟩
theorem setRow_alloc (w : World) (z cells : Array Value) (T : TypeId) : (w.alloc (.cells z T)).setRow w.heap.size cells = w.alloc (.cells cells T) := by
  unfold World.setRow World.alloc
  simp only
  congr 1
  apply Array.ext
  · simp
  · intro i h1 h2
    simp only [Array.getElem_modify, Array.getElem_push]
    by_cases h : i < w.heap.size
    · simp [h, show w.heap.size ≠ i by omega]
    · have : i = w.heap.size := by simp at h2; omega
      subst this
      simp

section
variable {ops : Array Oper} {rest : List Oper} {o : Oper} {a : Act} {w : World} {Q : Exit → Act → World → Prop}
theorem store_new (hgd : o.guard = none) (T : TypeId) (x y : Operand) (ho : o.op = .store T x y) (z cells : Array Value) (hx : a.eval x = .pointer (some ⟨w.heap.size, 0, none⟩)) (hy : a.eval y = .agg cells)
    (hi : (Try.prog.info? T).map (·.size) = some cells.size) (hold : z.size = cells.size) (h1 : cells.all (·.oneCell') = true)
    (h : wpList Try.prog ops Q rest (a.put o.dst undef) (w.alloc (.cells cells T))) : wpList Try.prog ops Q (o :: rest) a (w.alloc (.cells z T)) := by
  refine wpList_store_row hgd T x y ho w.heap.size cells hx hy T z (heap_alloc_new w _) hi hold h1 ?_
  rw [setRow_alloc]
  exact h
theorem store_fld (hgd : o.guard = none) (T : TypeId) (hi : (Try.prog.info? T).map (·.size) = some 1) (x y : Operand) (ho : o.op = .store T x y) (g j : Nat) (hx : a.eval x = .pointer (some ⟨g, j, none⟩))
    (v : Value) (hy : a.eval y = v) (hv : v.cells = #[v]) (h1 : v.oneCell' = true) (cs : Array Value) (T0 : TypeId) (hg : w.heap[g]? = some (.cells cs T0 (0, 0))) (hj : j < cs.size)
    (h : ∀ w', w.grownBy w' (some g) → w'.heap.size = w.heap.size → w'.heap[g]? = some (.cells (cs.setIfInBounds j v) T0 (0, 0)) → wpList Try.prog ops Q rest (a.put o.dst undef) w') : wpList Try.prog ops Q (o :: rest) a w := by
  refine wpList_plain hgd fun K hK => ?_
  have hcell : w.cell? ⟨g, j, none⟩ = some cs[j] := by simp [World.cell?, hg, hj]
  have hfro : w.frozen? ⟨g, j, none⟩ = false := by simp [World.frozen?, hg]
  have hst : (store ⟨g, j, none⟩ v).run Try.prog w = .ok () (w.setRow g (cs.setIfInBounds j v)) := by
    rw [run_store Try.prog w _ v _ h1, hcell]
    simp [hfro, setCell_eq_setRow w g j cs T0 (0, 0) v hg]
  have hadd : (⟨g, j, none⟩ : Addr).add 0 = ⟨g, j, none⟩ := by simp [Addr.add]
  obtain ⟨i, hi1, hi2⟩ : ∃ i, Try.prog.info? T = some i ∧ i.size = 1 := by
    cases hq : Try.prog.info? T with
    | none => simp [hq] at hi
    | some i => exact ⟨i, rfl, by simpa [hq] using hi⟩
  have hrun : (storeVar T ⟨g, j, none⟩ v).run Try.prog w = .ok () (w.setRow g (cs.setIfInBounds j v)) := by
    simp [storeVar, sizeOf, typeInfo, hi1, hv, hi2, storeCells, hadd, hst]
  unfold Oper.wp execOp
  simp only [ho, hx, hy, Instr.storeAt, Instr.sureAddr, Sem.run_bind, Sem.run_pure, Result.andThen_ok, hrun]
  exact hK _ _ (h _ ⟨rfl, rfl, rfl, by simp, fun k _ hk => setRow_other w g k _ (fun e => hk (by rw [e]))⟩ (by simp) (setRow_heap w g cs _ T0 _ hg))
theorem load_fld (hgd : o.guard = none) (T : TypeId) (ha : ∀ w, (isAgg T).run Try.prog w = .ok false w) (x : Operand) (ho : o.op = .load T x) (g j : Nat) (hx : a.eval x = .pointer (some ⟨g, j, none⟩))
    (cs : Array Value) (T0 : TypeId) (hg : w.heap[g]? = some (.cells cs T0 (0, 0))) (v : Value) (hv : cs[j]? = some v)
    (h : wpList Try.prog ops Q rest (a.put o.dst v) w) : wpList Try.prog ops Q (o :: rest) a w := by
  refine wpList_plain hgd fun K hK => ?_
  have ha := ha w
  have hc : w.cell? ⟨g, j, none⟩ = some v := by simp [World.cell?, hg, hv]
  unfold Oper.wp execOp
  simp only [ho, hx, Instr.loadAt, Instr.sureAddr, Sem.run_bind, Sem.run_pure, Result.andThen_ok]
  simp only [loadVar, Sem.run_bind, ha, Result.andThen_ok]
  simp [hc, go_sem]
  exact hK _ _ h
/-- append onto an own row of integers. -/
theorem app_int1 (hgd : o.guard = none) (s x : Operand) (ho : o.op = .call { callee := .builtin .append, args := #[s, x], argTypes := #[23, 23] })
    (i : TypeInfo) (hi : Try.prog.info? 3 = some i) (hz : i.zero = some (.int .i64 0)) (hz1 : i.size = 1) (hz2 : i.bytes = 8)
    (base : Nat) (v : Value) (xs : List Int) (z : Int) (b c : Nat) (hs : a.eval s = v) (hown : w.ownsRow base 3 1 v xs.length (xs.map (Value.int .i64)))
    (hx : a.eval x = .slice (some ⟨b, 0, none⟩) 1 c) (hb : w.heap[b]? = some (.cells #[.int .i64 z] 3 (0, 0)))
    (hsm : xs.length ≤ 1000) (hbase : base ≤ w.heap.size)
    (h : ∀ v' w', w'.ownsRow base 3 1 v' (xs ++ [z]).length ((xs ++ [z]).map (Value.int .i64)) → w.grownBy w' v.ownBlock → (v'.ownBlock = v.ownBlock ∨ v'.ownBlock = some w.heap.size) → v'.cells = #[v'] → v'.oneCell' = true →
      wpList Try.prog ops Q rest (a.put o.dst v') w') : wpList Try.prog ops Q (o :: rest) a w := by
  refine wpList_plain hgd fun K hK => ?_
  obtain ⟨v', w', hr, h2, h3, _, h5⟩ := run_append_own_at (P := Try.prog) w base 23 o.type 3 i (.int .i64 0) 1 8 Try.underlying23 hi hz hz1 hz2 rfl (by decide) v xs.length (xs.map (Value.int .i64)) hown ⟨b, 0, none⟩ 1 c [.int .i64 z] rfl
    (fun j u hj => by
      rw [show (⟨b, 0, none⟩ : Addr).add j = ⟨b, j, none⟩ by first | rfl | (simp [Addr.add]; done) | (simp [Addr.add]; exact fun h => h.symm), cell_of_row w b j _ _ _ hb]
      simpa using hj) (fun u hu => by rw [List.mem_singleton.1 hu]; rfl) (by unfold maxLen; omega) (by omega) hbase
  have hsl : v'.cells = #[v'] ∧ v'.oneCell' = true := by
    rcases h2.2 with ⟨rfl, _⟩ | ⟨g, cap, cur, rfl, _⟩ <;> exact ⟨rfl, rfl⟩
  unfold Oper.wp execOp
  simp only [ho, resolve, invoke, builtin, Sem.run_bind, Sem.run_pure, Result.andThen_ok, List.map_toArray, List.map_cons, List.map_nil, hs, hx, hr]
  exact hK _ _ (h v' w' (by rw [List.map_append, List.length_append]; exact h2) h3 h5 hsl.1 hsl.2)
end
theorem tab_at (l : List Row) (i : Nat) (r : Row) (hr : l[i]? = some r) (j : Nat) (v : Value) (hj : r.cells[j]? = some v) : (tabCells l)[5 * i + j]? = some v := by
  induction l generalizing i with
  | nil => cases hr
  | cons x l ih =>
    unfold tabCells
    rw [List.flatMap_cons]
    have hx : x.cells.length = 5 := rfl
    cases i with
    | zero =>
      injection hr with hr
      subst hr
      rw [List.getElem?_append_left (by rw [hx]; have := (List.getElem?_eq_some_iff.1 hj).1; rw [hx] at this; omega)]
      simpa using hj
    | succ i =>
      rw [List.getElem?_append_right (by rw [hx]; omega), hx, show 5 * (i + 1) + j - 5 = 5 * i + j by omega]
      exact ih i hr
theorem tab_range {w : World} {b : Nat} {l : List Row} {T : TypeId} (h : w.heap[b]? = some (.cells (tabCells l).toArray T (0, 0))) (i : Nat) (r : Row) (hr : l[i]? = some r) : w.rangeAt b (5 * i) r.cells := fun j v hj => by
  simp only [World.cell?, h]
  simpa using tab_at l i r hr j v hj
set_option maxRecDepth 100000 in
theorem runder : ∃ fs, Try.prog.underlying 79 = some (.struct fs) := ⟨_, rfl⟩
theorem rsize (r : Row) : (Try.prog.info? 79).map (·.size) = some r.cells.length := by kernel_rfl
theorem rsize2 (a b c d e : Value) : (Try.prog.info? 79).map (·.size) = some #[a, b, c, d, e].size := by kernel_rfl
theorem infsize (a b c d e : Value) : (Try.prog.info? 40).map (·.size) = some #[a, b, c, d, e].size := by kernel_rfl
theorem size_slint : (Try.prog.info? 23).map (·.size) = some 1 := by kernel_rfl
theorem isAgg_int (w : World) : (isAgg 3).run Try.prog w = .ok false w := by kernel_rfl
theorem isAgg_str (w : World) : (isAgg 9).run Try.prog w = .ok false w := by kernel_rfl
theorem isAgg_slint (w : World) : (isAgg 23).run Try.prog w = .ok false w := by kernel_rfl
/-- A row of a table, loaded. -/
theorem load_row {ops : Array Oper} {rest : List Oper} {o : Oper} {a : Act} {w : World} {Q : Exit → Act → World → Prop} (hgd : o.guard = none) (x : Operand) (ho : o.op = .load 79 x) (b i : Nat) (hx : a.eval x = .pointer (some ⟨b, 5 * i, none⟩)) (l : List Row) {T : TypeId}
    (hb : w.heap[b]? = some (.cells (tabCells l).toArray T (0, 0))) (r : Row) (hr : l[i]? = some r)
    (h : wpList Try.prog ops Q rest (a.put o.dst (.agg #[.int .i64 r.fr, .int .i64 r.to, .int .i64 r.form, .int .i64 r.lim, .string ⟨r.sig.toArray⟩])) w) : wpList Try.prog ops Q (o :: rest) a w := by
  obtain ⟨fs, hf⟩ := runder
  exact wpList_load_mid hgd 79 x ho b (5 * i) hx r.cells _ (tab_range hb i r hr) hf rfl (rsize r) h
/-- The place of a row. -/
theorem ix_row {ops : Array Oper} {rest : List Oper} {o : Oper} {a : Act} {w : World} {Q : Exit → Act → World → Prop} (hgd : o.guard = none) (x i : Operand) (ho : o.op = .indexAddr 76 x i) (b n c : Nat) (hx : a.eval x = .slice (some ⟨b, 0, none⟩) n c) (z : Int) (hi : a.eval i = .int .i64 z) (k : Nat) (hz : z = k) (hk : k < n)
    (h : wpList Try.prog ops Q rest (a.put o.dst (.pointer (some ⟨b, 5 * k, none⟩))) w) : wpList Try.prog ops Q (o :: rest) a w := by
  have hs : ∀ u, (sizeOf (Try.prog.elem 76)).run Try.prog u = .ok 5 u := fun u => by kernel_rfl
  have hu : Try.prog.underlying 76 = some (.slice (Try.prog.elem 76)) := by kernel_rfl
  have h2 : (0 ≤ z ∧ z < (n : Int)) := by omega
  refine wpList_plain hgd fun K hK => ?_
  unfold Oper.wp execOp
  simp only [ho, hx, hi, Sem.run_bind, run_indexAt_slice (h := hu)]
  rw [if_pos h2, hs]
  subst hz
  rw [Nat.mul_comm] at h
  have := hK _ _ h
  simpa [Go.Addr.add_mid, go_sem] using this
end Go.Proofs.Ytcpfabkokgiepaa
