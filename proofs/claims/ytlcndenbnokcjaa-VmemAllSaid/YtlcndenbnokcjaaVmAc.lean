/-
  An Access in a slice; worlds that hold memories and vectors.
-/
import Derived.Deep.MidRow
import Derived.Test.YtlcndenbnokcjaaVmAm
import Derived.Test.YtlcndenbnokcjaaMemRL
import Derived.Test.YtlcndenbnokcjaaNew
set_option linter.unusedSimpArgs false
set_option linter.unusedVariables false
namespace Go.Proofs.Ytlcndenbnokcjaa
open Go.RowKit Pl

/-- An access, as a slice holds it. -/
structure Acc where
  op : Int
  a : Int
  b : Int
  lo : Int
  hi : Int
  L : Value
  ad : Int
  v : Vec
structure Acc.Ok (x : Acc) : Prop where
  op : -9223372036854775808 ≤ x.op ∧ x.op ≤ 9223372036854775807
  b : -9223372036854775808 ≤ x.b ∧ x.b ≤ 9223372036854775807
  lo : 0 ≤ x.lo
  ad : 0 ≤ x.ad ∧ x.ad < 4294967296
def Acc.ins (x : Acc) : Array Value := #[.int .i64 x.op, .int .i64 x.a, .int .i64 x.b, .int .u64 x.lo, .int .u64 x.hi, x.L]
def Acc.row (x : Acc) : List Value := x.ins.toList ++ (Value.int .u32 x.ad :: (cells x.v).toList)
/-- m accesses lie in a block. -/
structure AView (w : World) (b off m : Nat) (f : Nat → Acc) : Prop where
  row : ∀ i, i < m → w.rangeAt b (off + 23 * i) (f i).row
  ok : ∀ i, i < m → (f i).Ok
  lt : b < w.heap.size
theorem AView.below {w w1 : World} {b off m : Nat} {f : Nat → Acc} (h : AView w b off m f) (hb : Below w.heap.size w w1) : AView w1 b off m f :=
  ⟨fun i hi j v hj => by have := h.row i hi j v hj; unfold World.cell? at this ⊢; rw [hb.block b h.lt]; exact this, h.ok, Nat.lt_of_lt_of_le h.lt hb.size⟩
theorem AView.ins {w : World} {b off m : Nat} {f : Nat → Acc} (h : AView w b off m f) {i : Nat} (hi : i < m) : w.rangeAt b (off + 23 * i) (f i).ins.toList := fun j v hj =>
  h.row i hi j v (by unfold Acc.row; rw [List.getElem?_append_left (List.getElem?_eq_some_iff.1 hj).1]; exact hj)
theorem AView.vec {w : World} {b off m : Nat} {f : Nat → Acc} (h : AView w b off m f) {i : Nat} (hi : i < m) : w.rangeAt b (off + 23 * i + 7) (cells (f i).v).toList := fun j v hj => by
  have := h.row i hi (7 + j) v (by
    unfold Acc.row
    rw [List.getElem?_append_right (by simp [Acc.ins]; omega)]
    simp [Acc.ins]
    rw [show 7 + j - 6 = j + 1 by omega, List.getElem?_cons_succ]
    simpa using hj)
  rw [Nat.add_assoc]; exact this
theorem AView.addr {w : World} {b off m : Nat} {f : Nat → Acc} (h : AView w b off m f) {i : Nat} (hi : i < m) : w.cell? ⟨b, off + 23 * i + 6, none⟩ = some (.int .u32 (f i).ad) := h.row i hi 6 _ (by simp [Acc.row, Acc.ins])
theorem AView.op {w : World} {b off m : Nat} {f : Nat → Acc} (h : AView w b off m f) {i : Nat} (hi : i < m) : w.cell? ⟨b, off + 23 * i, none⟩ = some (.int .i64 (f i).op) := h.row i hi 0 _ (by simp [Acc.row, Acc.ins])

theorem iunder2 : ∃ fs, Try.prog.underlying 65 = some (.struct fs) := ⟨_, rfl⟩
theorem isize2 (a b c d e f : Value) : (Try.prog.info? 65).map (·.size) = some ([a, b, c, d, e, f] : List Value).length := by kernel_rfl
theorem run_ixa {o : Oper} {a : Act} {w : World} (x i : Operand) (ho : o.op = .indexAddr 75 x i) (b off n c : Nat) (hx : a.eval x = .slice (some ⟨b, off, none⟩) n c) (z : Int) (hi : a.eval i = .int .i64 z) (k : Nat) (hz : z = k) (hk : k < n) :
    (execOp a.eval o).run Try.prog w = .ok (.value (.pointer (some ⟨b, off + 23 * k, none⟩))) w := by
  have hs : ∀ u, (sizeOf (Try.prog.elem 75)).run Try.prog u = .ok 23 u := fun u => by kernel_rfl
  have hu : Try.prog.underlying 75 = some (.slice (Try.prog.elem 75)) := by kernel_rfl
  have h2 : (0 ≤ z ∧ z < (n : Int)) := by omega
  unfold execOp
  simp only [ho, hx, hi, Sem.run_bind, run_indexAt_slice (h := hu)]
  rw [if_pos h2, hs]
  subst hz
  simp [Go.Addr.add_mid, go_sem, Nat.mul_comm]
theorem run_lin {o : Oper} {a : Act} {w : World} (x : Operand) (ho : o.op = .load 65 x) (b O : Nat) (hx : a.eval x = .pointer (some ⟨b, O, none⟩)) (y : Acc) (h : w.rangeAt b O y.ins.toList) :
    (execOp a.eval o).run Try.prog w = .ok (.value (.agg y.ins)) w := by
  obtain ⟨fs, hf⟩ := iunder2
  unfold execOp
  simp only [ho, hx, Instr.loadAt, Instr.sureAddr, Sem.run_bind, Sem.run_pure, Result.andThen_ok, run_loadVar_mid w b O 65 _ _ h hf rfl (isize2 _ _ _ _ _ _)]
theorem run_lvm {o : Oper} {a : Act} {w : World} (x : Operand) (ho : o.op = .load 61 x) (b O : Nat) (hx : a.eval x = .pointer (some ⟨b, O, none⟩)) (v : Vec) (h : w.rangeAt b O (cells v).toList) :
    (execOp a.eval o).run Try.prog w = .ok (.value (.agg (cells v))) w := by
  unfold execOp
  simp only [ho, hx, Instr.loadAt, Instr.sureAddr, Sem.run_bind, Sem.run_pure, Result.andThen_ok, run_loadVar_mid w b O 61 _ _ h vunder rfl (vsize v)]
theorem run_ldc {o : Oper} {a : Act} {w : World} (T : TypeId) (ha : ∀ w, (isAgg T).run Try.prog w = .ok false w) (x : Operand) (ho : o.op = .load T x) (g j : Nat) (hx : a.eval x = .pointer (some ⟨g, j, none⟩)) (z : Value) (h : w.cell? ⟨g, j, none⟩ = some z) :
    (execOp a.eval o).run Try.prog w = .ok (.value z) w := by
  have ha := ha w
  unfold execOp
  simp only [ho, hx, Instr.loadAt, Instr.sureAddr, Sem.run_bind, Sem.run_pure, Result.andThen_ok]
  simp [loadVar, Sem.run_bind, ha, h, go_sem]
theorem isAgg_u32 (w : World) : (isAgg 32).run Try.prog w = .ok false w := by kernel_rfl
theorem isAgg_int (w : World) : (isAgg 3).run Try.prog w = .ok false w := by kernel_rfl
/-- World u: memories and vectors, all new behind w0. -/
structure MW (w0 : World) (M : List MObj) (l : List (Nat × Vec)) (u : World) : Prop where
  ms : MS w0 M u
  hold : ∀ q ∈ l, u.heap[q.1]? = some (.cells (cells q.2) 61 (0, 0))
  off : ∀ q ∈ l, ∀ o ∈ M, ¬ o.has q.1
theorem MW.start {w0 u : World} {ms : List MObj} (h : MS w0 ms u) : MW w0 ms [] u := ⟨h, fun _ h => (by cases h), fun _ h => (by cases h)⟩
theorem MW.below {w0 u u1 : World} {ms : List MObj} {l : List (Nat × Vec)} (h : MW w0 ms l u) (hb : Below u.heap.size u u1) : MW w0 ms l u1 := ⟨h.ms.below hb, fun q hq => blk_keep (h.hold q hq) hb, h.off⟩
theorem MW.stored {w0 u u1 : World} {ms : List MObj} {l : List (Nat × Vec)} (h : MW w0 ms l u) (i : Nat) {o : MObj} (hi : ms[i]? = some o) {γ : Nat → Nat} (hm : MemAt u1 (withβ o γ)) (hk : Keep (fun k => o.q = some k) u u1) : MW w0 (ms.set i (withβ o γ)) l u1 :=
  ⟨h.ms.stored i hi hk hm, fun q hq => hk.get (h.hold q hq) (fun e => h.off q hq o (List.mem_of_getElem? hi) (.inr e)), fun q hq p hp hh => by
    rcases List.mem_or_eq_of_mem_set hp with h1 | rfl
    · exact h.off q hq p h1 hh
    · exact h.off q hq o (List.mem_of_getElem? hi) hh⟩
theorem MW.after1 {w0 U wx : World} {ms : List MObj} {l : List (Nat × Vec)} {X : Vec} {x : Nat} (h : MW w0 ms l U) (hx : N1 U l X (some (x, true)) wx) : MW w0 ms ((x, X) :: l) wx := by
  obtain ⟨h1, h2, h3⟩ := hx.new x true rfl
  refine ⟨h.ms.below hx.bel, fun q hq => ?_, fun q hq o ho hh => ?_⟩
  · rcases List.mem_cons.1 hq with rfl | hq
    · exact h1
    · exact hx.hold q hq
  · rcases List.mem_cons.1 hq with rfl | hq
    · have := (h.ms.mem o ho).has_lt hh; omega
    · exact h.off q hq o ho hh
theorem MW.clear {w0 u : World} {ms : List MObj} {l : List (Nat × Vec)} (h : MW w0 ms l u) : MW w0 ms [] u := MW.start h.ms
theorem rpoke_k (o : MObj) (w : World) (h : MemAt w o) (at_ m c : Nat) (ad : Option Addr) (ν : Nat → Nat) (hv : BView w (.slice ad m c) m ν) (hmc : m ≤ c) (ha : at_ < 18446744073709551616) (hm : m ≤ 9223372036854775807) (hb0 : 0 < m → ∀ g, ad = some g → ¬ o.has g.block) :
    Calls Try.prog 37 #[.pointer (some ⟨o.p, 0, none⟩), .int .u64 (at_ : Nat), .slice ad m c] w fun e w' => e = .returned (.int .i64 (pokeE o.n at_ m)) ∧ MemAt w' (withβ o (pokeB o at_ m ν)) ∧ Keep (fun k => o.q = some k) w w' := by
  obtain ⟨ad', c', he, hx⟩ := hv.ex
  injection he with e1 e2 e3
  subst e1 e3
  unfold pokeE pokeB
  by_cases hn : at_ + m ≤ o.n
  · rw [if_pos hn, if_pos hn]
    by_cases h0 : m = 0
    · subst h0
      refine (rpoke_none o w h at_ c ad (by omega)).mono ?_
      rintro e u ⟨rfl, rfl⟩
      refine ⟨rfl, ?_, Keep.refl _ _⟩
      have e : putB o.β at_ 0 ν = o.β := by
        funext i
        unfold putB
        rw [if_neg (by omega)]
      rw [e]
      exact h
    · obtain ⟨b, off, rfl, hc⟩ := hx.resolve_left h0
      exact rpoke_some o w h at_ m c b off ν (by omega) hmc hc hv.lt hn (hb0 (by omega) _ rfl)
  · rw [if_neg hn, if_neg hn]
    refine (rpoke_err o w h at_ m c ad ha hm hn).mono ?_
    rintro e u ⟨rfl, rfl⟩
    exact ⟨rfl, h, Keep.refl _ _⟩

end Go.Proofs.Ytlcndenbnokcjaa
