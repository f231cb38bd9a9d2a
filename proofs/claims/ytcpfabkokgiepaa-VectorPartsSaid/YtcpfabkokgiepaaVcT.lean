/-
  The tables of instr, as lists, and what scalars and vectors lay in memory.
-/
import Derived.Great.Walk
import Derived.Test.YtcpfabkokgiepaaPair
set_option linter.unusedSimpArgs false
set_option linter.unusedVariables false
namespace Go.Proofs.Ytcpfabkokgiepaa
open Go.RowKit Pl

/-- A row: from, to, form, limit, the types' letters. -/
structure Row where
  fr : Int
  to : Int
  form : Int
  lim : Int
  sig : List UInt8
def Row.cells (r : Row) : List Value := [.int .i64 r.fr, .int .i64 r.to, .int .i64 r.form, .int .i64 r.lim, .string ⟨r.sig.toArray⟩]
/-- The cells of a table. -/
def tabCells (l : List Row) : List Value := l.flatMap Row.cells
set_option maxRecDepth 100000 in
theorem run_row (a b c d : Int) (s : ByteArray) : Try.prog.built 79 [(0, .int .i64 a), (1, .int .i64 b), (2, .int .i64 c), (3, .int .i64 d), (4, .string s)] = some #[.int .i64 a, .int .i64 b, .int .i64 c, .int .i64 d, .string s] := by kernel_rfl
set_option maxRecDepth 100000 in
theorem wpList_row {ops : Array Oper} {rest : List Oper} {o : Oper} {t : Act} {w : World} {Q : Exit → Act → World → Prop} (hg : o.guard = none) (a b c d : Int) (s : ByteArray)
    (ho : o.op = .build 79 #[(0, .const (.int .i64 a)), (1, .const (.int .i64 b)), (2, .const (.int .i64 c)), (3, .const (.int .i64 d)), (4, .const (.string s))])
    (h : wpList Try.prog ops Q rest (t.put o.dst (.agg #[.int .i64 a, .int .i64 b, .int .i64 c, .int .i64 d, .string s])) w) : wpList Try.prog ops Q (o :: rest) t w := by
  have hm : (#[(0, Operand.const (.int .i64 a)), (1, .const (.int .i64 b)), (2, .const (.int .i64 c)), (3, .const (.int .i64 d)), (4, .const (.string s))].map fun (i, x) => (i, t.eval x)).toList = [(0, Value.int .i64 a), (1, .int .i64 b), (2, .int .i64 c), (3, .int .i64 d), (4, .string s)] := by
    simp only [List.map_toArray, List.map_cons, List.map_nil]
    rfl
  have hr : Try.prog.built 79 (#[(0, Operand.const (.int .i64 a)), (1, .const (.int .i64 b)), (2, .const (.int .i64 c)), (3, .const (.int .i64 d)), (4, .const (.string s))].map fun (i, x) => (i, t.eval x)).toList = some #[.int .i64 a, .int .i64 b, .int .i64 c, .int .i64 d, .string s] := by
    rw [hm]
    exact run_row a b c d s
  refine wpList_plain hg fun K hK => ?_
  unfold Oper.wp execOp
  simp only [ho, Sem.run_bind, run_build w 79 _ _ hr, Result.andThen_ok]
  exact hK _ _ h
def rowsS : List Row := [
  ⟨0, 0, 1, 0, []⟩,
  ⟨1, 1, 1, 0, [58]⟩,
  ⟨2, 4, 2, 0, []⟩,
  ⟨5, 5, 1, 0, []⟩,
  ⟨11, 11, 1, 0, []⟩,
  ⟨12, 13, 3, 0, []⟩,
  ⟨14, 14, 4, 0, []⟩,
  ⟨15, 15, 1, 0, []⟩,
  ⟨16, 16, 5, 0, []⟩,
  ⟨17, 17, 6, 0, []⟩,
  ⟨26, 27, 1, 0, []⟩,
  ⟨32, 36, 5, 0, []⟩,
  ⟨40, 40, 7, 2, [105, 58, 105]⟩,
  ⟨41, 41, 7, 3, [105, 58, 108]⟩,
  ⟨44, 45, 7, 0, [105, 58, 105]⟩,
  ⟨46, 47, 7, 1, [105, 58, 105]⟩,
  ⟨48, 49, 7, 0, [105, 58, 108]⟩,
  ⟨50, 51, 7, 1, [105, 58, 108]⟩,
  ⟨52, 53, 7, 2, [105, 58, 108]⟩,
  ⟨54, 54, 7, 2, [105, 105, 58]⟩,
  ⟨55, 55, 7, 3, [105, 108, 58]⟩,
  ⟨58, 58, 7, 0, [105, 105, 58]⟩,
  ⟨59, 59, 7, 1, [105, 105, 58]⟩,
  ⟨60, 60, 7, 0, [105, 108, 58]⟩,
  ⟨61, 61, 7, 1, [105, 108, 58]⟩,
  ⟨62, 62, 7, 2, [105, 108, 58]⟩,
  ⟨63, 63, 14, 0, [58, 105]⟩,
  ⟨64, 64, 14, 0, [105, 58, 105]⟩,
  ⟨65, 65, 9, 0, [58, 105]⟩,
  ⟨66, 66, 10, 0, [58, 108]⟩,
  ⟨69, 69, 1, 0, [105, 58, 105]⟩,
  ⟨70, 79, 1, 0, [105, 105, 58, 105]⟩,
  ⟨80, 80, 1, 0, [108, 58, 105]⟩,
  ⟨81, 90, 1, 0, [108, 108, 58, 105]⟩,
  ⟨103, 105, 1, 0, [105, 58, 105]⟩,
  ⟨106, 120, 1, 0, [105, 105, 58, 105]⟩,
  ⟨121, 123, 1, 0, [108, 58, 108]⟩,
  ⟨124, 138, 1, 0, [108, 108, 58, 108]⟩,
  ⟨167, 167, 1, 0, [108, 58, 105]⟩,
  ⟨172, 173, 1, 0, [105, 58, 108]⟩,
  ⟨192, 193, 1, 0, [105, 58, 105]⟩,
  ⟨194, 196, 1, 0, [108, 58, 108]⟩]
set_option maxRecDepth 100000 in
set_option maxHeartbeats 4000000 in
theorem scalars_k (w : World) : Calls Try.prog 46 #[] w fun e w' => ∃ b, e = .returned (.slice (some ⟨b, 0, none⟩) 42 42) ∧ w'.heap[b]? = some (.cells (tabCells rowsS).toArray 79 (0, 0)) ∧ w.heap.size ≤ b ∧ Below w.heap.size w w' := by
  go_enter Try.func46, Try.ntmps46
  go_wp2_with (first
    | (with_reducible refine wpList_row rfl _ _ _ _ _ rfl ?_)
    | (refine Great.wpList_buildSliceTo rfl 76 79 42 _ rfl w.heap.size rfl _ rfl (by kernel_rfl) (tabCells rowsS).toArray (by kernel_rfl) ?_))
  go_ret
  exact ⟨_, rfl, heap_alloc_new _ _, Nat.le_refl _, Below.alloc (Below.refl _ _) (Nat.le_refl _) _⟩
def rowsV : List Row := [
  ⟨64768, 64768, 7, 4, [105, 58, 118]⟩,
  ⟨64769, 64774, 7, 3, [105, 58, 118]⟩,
  ⟨64775, 64775, 7, 0, [105, 58, 118]⟩,
  ⟨64776, 64776, 7, 1, [105, 58, 118]⟩,
  ⟨64777, 64777, 7, 2, [105, 58, 118]⟩,
  ⟨64778, 64778, 7, 3, [105, 58, 118]⟩,
  ⟨64779, 64779, 7, 4, [105, 118, 58]⟩,
  ⟨64780, 64780, 11, 0, [58, 118]⟩,
  ⟨64781, 64781, 12, 0, [118, 118, 58, 118]⟩,
  ⟨64782, 64782, 1, 0, [118, 118, 58, 118]⟩,
  ⟨64783, 64785, 1, 0, [105, 58, 118]⟩,
  ⟨64786, 64786, 1, 0, [108, 58, 118]⟩,
  ⟨64789, 64790, 13, 16, [118, 58, 105]⟩,
  ⟨64791, 64791, 13, 16, [118, 105, 58, 118]⟩,
  ⟨64792, 64793, 13, 8, [118, 58, 105]⟩,
  ⟨64794, 64794, 13, 8, [118, 105, 58, 118]⟩,
  ⟨64795, 64795, 13, 4, [118, 58, 105]⟩,
  ⟨64796, 64796, 13, 4, [118, 105, 58, 118]⟩,
  ⟨64797, 64797, 13, 2, [118, 58, 108]⟩,
  ⟨64798, 64798, 13, 2, [118, 108, 58, 118]⟩,
  ⟨64803, 64832, 1, 0, [118, 118, 58, 118]⟩,
  ⟨64845, 64845, 1, 0, [118, 58, 118]⟩,
  ⟨64846, 64849, 1, 0, [118, 118, 58, 118]⟩,
  ⟨64850, 64850, 1, 0, [118, 118, 118, 58, 118]⟩,
  ⟨64851, 64851, 1, 0, [118, 58, 105]⟩,
  ⟨64852, 64852, 8, 0, [105, 118, 58, 118]⟩,
  ⟨64853, 64853, 8, 1, [105, 118, 58, 118]⟩,
  ⟨64854, 64854, 8, 2, [105, 118, 58, 118]⟩,
  ⟨64855, 64855, 8, 3, [105, 118, 58, 118]⟩,
  ⟨64856, 64856, 8, 0, [105, 118, 58]⟩,
  ⟨64857, 64857, 8, 1, [105, 118, 58]⟩,
  ⟨64858, 64858, 8, 2, [105, 118, 58]⟩,
  ⟨64859, 64859, 8, 3, [105, 118, 58]⟩,
  ⟨64860, 64860, 7, 2, [105, 58, 118]⟩,
  ⟨64861, 64861, 7, 3, [105, 58, 118]⟩,
  ⟨64864, 64866, 1, 0, [118, 58, 118]⟩,
  ⟨64867, 64868, 1, 0, [118, 58, 105]⟩,
  ⟨64869, 64870, 1, 0, [118, 118, 58, 118]⟩,
  ⟨64875, 64877, 1, 0, [118, 105, 58, 118]⟩,
  ⟨64878, 64883, 1, 0, [118, 118, 58, 118]⟩,
  ⟨64886, 64889, 1, 0, [118, 118, 58, 118]⟩,
  ⟨64891, 64891, 1, 0, [118, 118, 58, 118]⟩,
  ⟨64892, 64897, 1, 0, [118, 58, 118]⟩,
  ⟨64898, 64898, 1, 0, [118, 118, 58, 118]⟩,
  ⟨64899, 64900, 1, 0, [118, 58, 105]⟩,
  ⟨64901, 64902, 1, 0, [118, 118, 58, 118]⟩,
  ⟨64903, 64906, 1, 0, [118, 58, 118]⟩,
  ⟨64907, 64909, 1, 0, [118, 105, 58, 118]⟩,
  ⟨64910, 64915, 1, 0, [118, 118, 58, 118]⟩,
  ⟨64917, 64921, 1, 0, [118, 118, 58, 118]⟩,
  ⟨64923, 64927, 1, 0, [118, 118, 58, 118]⟩,
  ⟨64928, 64929, 1, 0, [118, 58, 118]⟩,
  ⟨64931, 64932, 1, 0, [118, 58, 105]⟩,
  ⟨64935, 64938, 1, 0, [118, 58, 118]⟩,
  ⟨64939, 64941, 1, 0, [118, 105, 58, 118]⟩,
  ⟨64942, 64942, 1, 0, [118, 118, 58, 118]⟩,
  ⟨64945, 64945, 1, 0, [118, 118, 58, 118]⟩,
  ⟨64949, 64954, 1, 0, [118, 118, 58, 118]⟩,
  ⟨64956, 64959, 1, 0, [118, 118, 58, 118]⟩,
  ⟨64960, 64961, 1, 0, [118, 58, 118]⟩,
  ⟨64963, 64964, 1, 0, [118, 58, 105]⟩,
  ⟨64967, 64970, 1, 0, [118, 58, 118]⟩,
  ⟨64971, 64973, 1, 0, [118, 105, 58, 118]⟩,
  ⟨64974, 64974, 1, 0, [118, 118, 58, 118]⟩,
  ⟨64977, 64977, 1, 0, [118, 118, 58, 118]⟩,
  ⟨64981, 64991, 1, 0, [118, 118, 58, 118]⟩]
set_option maxRecDepth 100000 in
set_option maxHeartbeats 4000000 in
theorem vectors_k (w : World) : Calls Try.prog 47 #[] w fun e w' => ∃ b, e = .returned (.slice (some ⟨b, 0, none⟩) 66 66) ∧ w'.heap[b]? = some (.cells (tabCells rowsV).toArray 79 (0, 0)) ∧ w.heap.size ≤ b ∧ Below w.heap.size w w' := by
  go_enter Try.func47, Try.ntmps47
  go_wp2_with (first
    | (with_reducible refine wpList_row rfl _ _ _ _ _ rfl ?_)
    | (refine Great.wpList_buildSliceTo rfl 76 79 66 _ rfl w.heap.size rfl _ rfl (by kernel_rfl) (tabCells rowsV).toArray (by kernel_rfl) ?_))
  go_ret
  exact ⟨_, rfl, heap_alloc_new _ _, Nat.le_refl _, Below.alloc (Below.refl _ _) (Nat.le_refl _) _⟩
end Go.Proofs.Ytcpfabkokgiepaa
