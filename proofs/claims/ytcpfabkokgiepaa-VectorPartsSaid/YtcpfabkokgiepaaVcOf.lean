/-
  The walk of instr.Of: the first row that holds the opcode, and its types.
-/
import Derived.Laws.IdiomStrings
import Derived.Test.YtcpfabkokgiepaaVcL
set_option linter.unusedSimpArgs false
set_option linter.unusedVariables false
namespace Go.Proofs.Ytcpfabkokgiepaa
open Go.RowKit Pl

end Go.Proofs.Ytcpfabkokgiepaa
namespace Pl
def tyOf (c : UInt8) : Int := if c = 108 then 126 else if c = 118 then 123 else 127
/-- What the letters read so far give. -/
def sigStep (st : Bool × List Int × List Int) (c : UInt8) : Bool × List Int × List Int :=
  if c = 58 then (true, st.2.1, st.2.2) else if st.1 then (true, st.2.1, st.2.2 ++ [tyOf c]) else (false, st.2.1 ++ [tyOf c], st.2.2)
def sigOf (l : List UInt8) : Bool × List Int × List Int := l.foldl sigStep (false, [], [])
theorem sigOf_take (l : List UInt8) (j : Nat) (h : j < l.length) : sigOf (l.take (j + 1)) = sigStep (sigOf (l.take j)) l[j] := by
  unfold sigOf
  rw [List.take_succ_eq_append_getElem h, List.foldl_append]
  rfl
end Pl
namespace Go.Proofs.Ytcpfabkokgiepaa
open Go.RowKit Pl
/-- The inner loop's worlds: the info in block I, its types in own rows behind W. -/
structure InfoSt (W : World) (I : Nat) (form lim : Int) (pl : Bool) (s t : Value) (xs ys : List Int) (u : World) : Prop where
  grown : W.grownBy u (some I)
  blk : u.heap[I]? = some (.cells #[.int .i64 form, .int .i64 lim, .bool pl, s, t] 40 (0, 0))
  inn : u.ownsRow W.heap.size 3 1 s xs.length (xs.map (Value.int .i64))
  out : u.ownsRow W.heap.size 3 1 t ys.length (ys.map (Value.int .i64))
  apart : ∀ k, s.ownBlock = some k → t.ownBlock ≠ some k
  lt : I < W.heap.size
theorem InfoSt.start {W : World} {I : Nat} {form lim : Int} {pl : Bool} (h : W.heap[I]? = some (.cells #[.int .i64 form, .int .i64 lim, .bool pl, .slice none 0 0, .slice none 0 0] 40 (0, 0))) :
    InfoSt W I form lim pl (.slice none 0 0) (.slice none 0 0) [] [] W :=
  ⟨grown_refl _ _, h, World.ownsRow_nil _ _ _ _, World.ownsRow_nil _ _ _ _, fun k hk => by simp [Value.ownBlock] at hk, block_lt h⟩
theorem own_kept {u u1 : World} {B : Nat} {v : Value} {n : Nat} {xs : List Value} (h : u.ownsRow B 3 1 v n xs) {r : Option Nat} (hg : u.grownBy u1 r) (hne : ∀ k, v.ownBlock = some k → r ≠ some k) : u1.ownsRow B 3 1 v n xs :=
  h.kept hg (by
    cases hv : v.ownBlock with
    | none => exact .inl rfl
    | some k => exact .inr (fun e => hne k hv (by rw [← e])))
/-- The types of the operands grow. -/
theorem InfoSt.into {W u u1 u2 u3 : World} {I : Nat} {form lim : Int} {pl : Bool} {s t v : Value} {xs ys xs' : List Int} (h : InfoSt W I form lim pl s t xs ys u)
    (h1 : Below u.heap.size u u1) (h2 : u2.ownsRow W.heap.size 3 1 v xs'.length (xs'.map (Value.int .i64))) (g2 : u1.grownBy u2 s.ownBlock) (a2 : v.ownBlock = s.ownBlock ∨ v.ownBlock = some u1.heap.size)
    (g3 : u2.grownBy u3 (some I)) (b3 : u3.heap[I]? = some (.cells #[.int .i64 form, .int .i64 lim, .bool pl, v, t] 40 (0, 0))) : InfoSt W I form lim pl v t xs' ys u3 := by
  have hsz := h.grown.size
  have hI := h.lt
  refine ⟨grown_trans (grown_far (grown_far h.grown (grown_of_below (r := none) h1) (fun g e => by cases e)) g2 (fun g e => (h.inn.lt g e).1)) g3, b3, own_kept h2 g3 (fun k hk e => ?_), own_kept (own_kept (own_kept h.out (grown_of_below (r := none) h1) (fun k _ e => by cases e)) g2 (fun k hk e => h.apart k e hk)) g3 (fun k hk e => ?_), fun k hk hk2 => ?_, hI⟩
  · injection e with e
    have := (h2.lt k hk).1
    omega
  · injection e with e
    have := (h.out.lt k hk).1
    omega
  · rcases a2 with e | e
    · exact h.apart k (e ▸ hk) hk2
    · have h5 := (h.out.lt k hk2).2
      have h6 := h1.size
      rw [e] at hk
      injection hk with hk
      omega
/-- The types of the results grow. -/
theorem InfoSt.onto {W u u1 u2 u3 : World} {I : Nat} {form lim : Int} {pl : Bool} {s t v : Value} {xs ys ys' : List Int} (h : InfoSt W I form lim pl s t xs ys u)
    (h1 : Below u.heap.size u u1) (h2 : u2.ownsRow W.heap.size 3 1 v ys'.length (ys'.map (Value.int .i64))) (g2 : u1.grownBy u2 t.ownBlock) (a2 : v.ownBlock = t.ownBlock ∨ v.ownBlock = some u1.heap.size)
    (g3 : u2.grownBy u3 (some I)) (b3 : u3.heap[I]? = some (.cells #[.int .i64 form, .int .i64 lim, .bool pl, s, v] 40 (0, 0))) : InfoSt W I form lim pl s v xs ys' u3 := by
  have hsz := h.grown.size
  have hI := h.lt
  refine ⟨grown_trans (grown_far (grown_far h.grown (grown_of_below (r := none) h1) (fun g e => by cases e)) g2 (fun g e => (h.out.lt g e).1)) g3, b3, own_kept (own_kept (own_kept h.inn (grown_of_below (r := none) h1) (fun k _ e => by cases e)) g2 (fun k hk e => h.apart k hk e)) g3 (fun k hk e => ?_), own_kept h2 g3 (fun k hk e => ?_), fun k hk hk2 => ?_, hI⟩
  · injection e with e
    have := (h.inn.lt k hk).1
    omega
  · injection e with e
    have := (h2.lt k hk).1
    omega
  · rcases a2 with e | e
    · exact h.apart k hk (e ▸ hk2)
    · have h5 := (h.inn.lt k hk).2
      have h6 := h1.size
      rw [e] at hk2
      injection hk2 with hk2
      omega
theorem conv_str {ops : Array Oper} {rest : List Oper} {o : Oper} {a : Act} {w : World} {Q : Exit → Act → World → Prop} (hgd : o.guard = none) (x : Operand) (ho : o.op = .convert 9 80 x) (l : List UInt8) (hx : a.eval x = .string ⟨l.toArray⟩)
    (h : ∀ Y c w', w.heap.size ≤ Y → Below w.heap.size w w' → (∀ j (hj : j < l.length), w'.cell? ⟨Y, j, none⟩ = some (.int .u8 (l[j].toNat : Int))) → Y < w'.heap.size → wpList Try.prog ops Q rest (a.put o.dst (.slice (some ⟨Y, 0, none⟩) l.length c)) w') : wpList Try.prog ops Q (o :: rest) a w := by
  refine wpList_plain hgd fun K hK => ?_
  have hr := run_bytes_of_string (P := Try.prog) w 9 80 5 ⟨l.toArray⟩ (by kernel_rfl) (by kernel_rfl) (by kernel_rfl)
  have hs : (ByteArray.mk l.toArray).size = l.length := rfl
  rw [hs] at hr
  unfold Oper.wp execOp
  simp only [ho, hx, Sem.run_bind, hr, Result.andThen_ok]
  refine hK _ _ (h w.heap.size _ _ (Nat.le_refl _) ((Below.refl _ _).drew.alloc (Nat.le_refl _) _) (fun j hj => ?_) (by show w.heap.size < (w.heap.push _).size; simp))
  have hb : (w.drew.alloc (.cells (bytesRow ⟨l.toArray⟩ (grownCap w l.length 0 5)) 5 ((bytesRow ⟨l.toArray⟩ (grownCap w l.length 0 5)).size, (bytesRow ⟨l.toArray⟩ (grownCap w l.length 0 5)).size + 1))).heap[w.heap.size]? = _ := heap_alloc_new w.drew _
  simp only [World.cell?, hb]
  unfold bytesRow
  rw [Array.getElem?_append_left (by simpa using hj)]
  simp [hj]
theorem ix1 {ops : Array Oper} {rest : List Oper} {o : Oper} {a : Act} {w : World} {Q : Exit → Act → World → Prop} (hgd : o.guard = none) (T : TypeId) (hs : ∀ u, (sizeOf (Try.prog.elem T)).run Try.prog u = .ok 1 u) (hu : Try.prog.underlying T = some (.slice (Try.prog.elem T))) (x i : Operand) (ho : o.op = .indexAddr T x i) (b off n c : Nat) (hx : a.eval x = .slice (some ⟨b, off, none⟩) n c) (z : Int) (hi : a.eval i = .int .i64 z) (k : Nat) (hz : z = k) (hk : k < n)
    (h : wpList Try.prog ops Q rest (a.put o.dst (.pointer (some ⟨b, off + k, none⟩))) w) : wpList Try.prog ops Q (o :: rest) a w := by
  have h2 : (0 ≤ z ∧ z < (n : Int)) := by omega
  refine wpList_plain hgd fun K hK => ?_
  unfold Oper.wp execOp
  simp only [ho, hx, hi, Sem.run_bind, run_indexAt_slice (h := hu)]
  rw [if_pos h2, hs]
  subst hz
  have := hK _ _ h
  simpa [Go.Addr.add_mid, go_sem] using this
theorem ld1 {ops : Array Oper} {rest : List Oper} {o : Oper} {a : Act} {w : World} {Q : Exit → Act → World → Prop} (hgd : o.guard = none) (T : TypeId) (ha : ∀ w, (isAgg T).run Try.prog w = .ok false w) (x : Operand) (ho : o.op = .load T x) (ad : Addr) (hx : a.eval x = .pointer (some ad)) (v : Value) (hc : w.cell? ad = some v)
    (h : wpList Try.prog ops Q rest (a.put o.dst v) w) : wpList Try.prog ops Q (o :: rest) a w := by
  refine wpList_plain hgd fun K hK => ?_
  have ha := ha w
  unfold Oper.wp execOp
  simp only [ho, hx, Instr.loadAt, Instr.sureAddr, Sem.run_bind, Sem.run_pure, Result.andThen_ok]
  simp only [loadVar, Sem.run_bind, ha, Result.andThen_ok]
  simp [hc, go_sem]
  exact hK _ _ h
theorem size_by : ∀ u, (sizeOf (Try.prog.elem 80)).run Try.prog u = .ok 1 u := fun u => by kernel_rfl
theorem under_by : Try.prog.underlying 80 = some (.slice (Try.prog.elem 80)) := by kernel_rfl
theorem isAgg_u8 (w : World) : (isAgg 5).run Try.prog w = .ok false w := by kernel_rfl
set_option maxRecDepth 100000 in
theorem iunder : ∃ fs, Try.prog.underlying 40 = some (.struct fs) := ⟨_, rfl⟩
/-- A whole variable of type Info, loaded. -/
theorem load_info {ops : Array Oper} {rest : List Oper} {o : Oper} {a : Act} {w : World} {Q : Exit → Act → World → Prop} (hgd : o.guard = none) (x : Operand) (ho : o.op = .load 40 x) (b : Nat) (hx : a.eval x = .pointer (some ⟨b, 0, none⟩)) (c0 c1 c2 c3 c4 : Value)
    (hb : w.heap[b]? = some (.cells #[c0, c1, c2, c3, c4] 40 (0, 0))) (h : wpList Try.prog ops Q rest (a.put o.dst (.agg #[c0, c1, c2, c3, c4])) w) : wpList Try.prog ops Q (o :: rest) a w := by
  obtain ⟨fs, hf⟩ := iunder
  exact wpList_load_mid hgd 40 x ho b 0 hx [c0, c1, c2, c3, c4] _ (fun j v hj => by simp only [World.cell?, hb, Nat.zero_add]; simpa using hj) hf rfl (infsize c0 c1 c2 c3 c4) h
theorem results_info_tmp {fn : Func} {p q : Tmp} (h : fn.results = #[.cell p 40, .tmp q]) (tmps : Array Value) (w : World) (g : Nat) (c0 c1 c2 c3 c4 : Value) (y : Value)
    (hp : tmps.getD p undef = .pointer (some ⟨g, 0, none⟩)) (hq : tmps.getD q undef = y) (hg : w.heap[g]? = some (.cells #[c0, c1, c2, c3, c4] 40 (0, 0))) :
    (results fn tmps).run Try.prog w = .ok (.tuple #[.agg #[c0, c1, c2, c3, c4], y]) w := by
  obtain ⟨fs, hf⟩ := iunder
  have hp' : tmps[p]?.getD undef = .pointer (some ⟨g, 0, none⟩) := by simpa using hp
  have hq' : tmps[q]?.getD undef = y := by simpa using hq
  simp [results, h, hp', hq', asAddr, run_loadVar_row w g 40 40 #[c0, c1, c2, c3, c4] (0, 0) _ hg hf rfl (infsize c0 c1 c2 c3 c4)]
/-- A row that is overwritten whole. -/
theorem store_info {ops : Array Oper} {rest : List Oper} {o : Oper} {a : Act} {w : World} {Q : Exit → Act → World → Prop} (hgd : o.guard = none) (x y : Operand) (ho : o.op = .store 40 x y) (g : Nat) (c0 c1 c2 c3 c4 d0 d1 d2 d3 d4 : Value) (hx : a.eval x = .pointer (some ⟨g, 0, none⟩)) (hy : a.eval y = .agg #[c0, c1, c2, c3, c4])
    (hg : w.heap[g]? = some (.cells #[d0, d1, d2, d3, d4] 40 (0, 0))) (h1 : #[c0, c1, c2, c3, c4].all (·.oneCell') = true)
    (h : ∀ w', w.grownBy w' (some g) → w'.heap[g]? = some (.cells #[c0, c1, c2, c3, c4] 40 (0, 0)) → wpList Try.prog ops Q rest (a.put o.dst undef) w') : wpList Try.prog ops Q (o :: rest) a w :=
  wpList_store_row hgd 40 x y ho g #[c0, c1, c2, c3, c4] hx hy 40 _ hg (infsize c0 c1 c2 c3 c4) rfl h1 (h _ ⟨rfl, rfl, rfl, by simp, fun k _ hk => setRow_other w g k _ (fun e => hk (by rw [e]))⟩ (setRow_heap w g _ _ 40 _ hg))
theorem InfoSt.blk2 {W u u1 u2 : World} {I : Nat} {form lim : Int} {pl : Bool} {s t : Value} {xs ys : List Int} (h : InfoSt W I form lim pl s t xs ys u) (h1 : Below u.heap.size u u1) {r : Option Nat} (g2 : u1.grownBy u2 r) (hr : ∀ k, r = some k → W.heap.size ≤ k) :
    u2.heap[I]? = some (.cells #[.int .i64 form, .int .i64 lim, .bool pl, s, t] 40 (0, 0)) := by
  have h5 := h.grown.size
  have h6 := h.lt
  have h7 := h1.size
  rw [g2.block I (by omega) (fun e => by have := hr I e.symm; omega), h1.block I (by omega)]
  exact h.blk
theorem InfoSt.keep {W u : World} {I : Nat} {form lim : Int} {pl : Bool} {s t : Value} {xs ys : List Int} (h : InfoSt W I form lim pl s t xs ys u) {Y : Nat} (hY : Y < W.heap.size) (hne : Y ≠ I) : u.heap[Y]? = W.heap[Y]? := h.grown.block Y hY (fun e => hne (by injection e))
theorem owns_base {u : World} {B B' : Nat} {v : Value} {n : Nat} {xs : List Value} (h : u.ownsRow B 3 1 v n xs) (hB : B' ≤ B) : u.ownsRow B' 3 1 v n xs :=
  ⟨h.1, h.2.imp id (fun ⟨g, cap, cur, e1, e2, e3⟩ => ⟨g, cap, cur, e1, by omega, e3⟩)⟩
theorem owns_one {u : World} {B : Nat} {v : Value} {n : Nat} {xs : List Value} (h : u.ownsRow B 3 1 v n xs) : v.oneCell' = true ∧ v.cells = #[v] := by
  rcases h.2 with ⟨rfl, _⟩ | ⟨g, cap, cur, rfl, _⟩ <;> exact ⟨rfl, rfl⟩
theorem sigStep_col (b : Bool) (xs ys : List Int) : sigStep (b, xs, ys) 58 = (true, xs, ys) := rfl
theorem sigStep_in (xs ys : List Int) (c : UInt8) (h : c ≠ 58) : sigStep (false, xs, ys) c = (false, xs ++ [tyOf c], ys) := by unfold sigStep; rw [if_neg h]; rfl
theorem sigStep_out (xs ys : List Int) (c : UInt8) (h : c ≠ 58) : sigStep (true, xs, ys) c = (true, xs, ys ++ [tyOf c]) := by unfold sigStep; rw [if_neg h]; rfl
theorem sigStep_len (st : Bool × List Int × List Int) (c : UInt8) : (sigStep st c).2.1.length + (sigStep st c).2.2.length ≤ st.2.1.length + st.2.2.length + 1 := by
  unfold sigStep
  split
  · simp
  · split <;> simp <;> omega
theorem sigFold_len (l : List UInt8) : ∀ st : Bool × List Int × List Int, (l.foldl sigStep st).2.1.length + (l.foldl sigStep st).2.2.length ≤ st.2.1.length + st.2.2.length + l.length := by
  induction l with
  | nil => intro st; simp
  | cons c l ih =>
    intro st
    rw [List.foldl_cons, List.length_cons]
    have h1 := ih (sigStep st c)
    have h2 := sigStep_len st c
    omega
theorem sigOf_len (l : List UInt8) : (sigOf l).2.1.length + (sigOf l).2.2.length ≤ l.length := by
  have := sigFold_len l (false, [], [])
  simpa [sigOf] using this

end Go.Proofs.Ytcpfabkokgiepaa
