/-
  Texts VcR.
-/
import Derived.Test.YtcpfabkokgiepaaQ07
import Derived.Test.YtcpfabkokgiepaaQ09
import Derived.Test.YtcpfabkokgiepaaQ19
import Derived.Test.YtcpfabkokgiepaaQ23
import Derived.Test.YtcpfabkokgiepaaQ25
set_option linter.unusedSimpArgs false
set_option linter.unusedVariables false
set_option maxHeartbeats 8000000
open Pl
namespace Go.Proofs.Ytcpfabkokgiepaa
open Go.RowKit Pl
def stepS (q : Nat) (i : Nat) (D D' : Bool) : Prop := i = q ∧ D = false ∧ D' = true
def checkS (ops : Array Oper) (n q : Nat) (order : List Nat) : Bool :=
 checkA ops n [q] order && decide (q < n) && (Region.ready .any ops (rX (Array.replicate ops.size false) order) == [q]) &&
 Region.seqB .any ops (ops.size - n) n ((rX (Array.replicate ops.size false) order).setIfInBounds q true)
abbrev S1 (W : World) (O : Nat) (X : Vec) (D : Bool) (u : World) : Prop := St W O (bif D then X else 0) u
theorem sG {id : Nat} {Q : Exit → Act → World → Prop} {a : Act} {w : World} {l : List Oper} (W : World) (O : Nat) (X : Vec) (n q : Nat) (order : List Nat) (hB : checkS l.toArray n q order = true)
 {oq : Oper} (hoq : l[q]? = some oq) (hqn : oq.guard = none) (xo yo : Operand) (hqo : oq.op = .store 45 xo yo) (hS : St W O 0 w.drew)
 (h : vJ Try.prog l.toArray (S1 W O X) (fun a' => a'.eval xo = ptr O ∧ a'.eval yo = .agg (mY X) ∧ ∀ w', St W O X w' → wpList Try.prog l.toArray Q (l.drop n) (a'.put oq.dst undef) w') (vW l order) a) : (Code.region id l.toArray true).wp Try.prog Q a w := by
 simp only [checkS, Bool.and_eq_true, decide_eq_true_eq, beq_iff_eq] at hB
 obtain ⟨⟨⟨hA, hq⟩, hr1⟩, hsq⟩ := hB
 refine eR (S1 W O X) (stepS q) (fun _ _ => undef) false n [q] order (by kernel_rfl) hA hS ?_
 have mono : ∀ (os : List Oper) (a : Act) (K K' : Act → Prop), (∀ a, K a → K' a) → vJ Try.prog l.toArray (S1 W O X) K os a → vJ Try.prog l.toArray (S1 W O X) K' os a := yT
 refine mono _ _ _ _ (fun a' h' => ?_) h
 obtain ⟨hx, hy, hk⟩ := h'
 refine sJ q hr1 hq (by simp) (by simpa using hoq) ⟨by unfold Region.wanted; rw [hqn], fun w hw => ?_⟩ (fun D' hD => ?_)
 ·obtain ⟨w1, h1, h2⟩ := store_run xo yo hqo O X 0 hx hy hw.this
  exact ⟨true, w1, ⟨rfl, rfl, rfl⟩, hw.sets h1, .inr ⟨h2, rfl⟩⟩
 ·obtain ⟨_, _, rfl⟩ := hD
  exact ⟨hsq, hk⟩
theorem pD {o : Oper} {a : Act} {w : World} (T : TypeId) (ha : ∀ w, (isAgg T).run Try.prog w = .ok false w) (x : Operand) (ho : o.op = .load T x) (g j : Nat) (hx : a.eval x = .pointer (some ⟨g, j, none⟩)) (z : Value) (h : w.cell? ⟨g, j, none⟩ = some z) :
 (execOp a.eval o).run Try.prog w = .ok (.value z) w := by
 have ha := ha w
 unfold execOp
 simp only [ho, hx, Instr.loadAt, Instr.sureAddr, Sem.run_bind, Sem.run_pure, Result.andThen_ok]
 simp [loadVar, Sem.run_bind, ha, h, go_sem]
theorem pT {o : Oper} {a : Act} {w : World} (x : Operand) (ho : o.op = .load 45 x) (b O : Nat) (hx : a.eval x = .pointer (some ⟨b, O, none⟩)) (v : Vec) (h : w.rangeAt b O (mY v).toList) :
 (execOp a.eval o).run Try.prog w = .ok (.value (.agg (mY v))) w := by
 unfold execOp
 simp only [ho, hx, Instr.loadAt, Instr.sureAddr, Sem.run_bind, Sem.run_pure, Result.andThen_ok, run_loadVar_mid w b O 45 _ _ h r5 rfl (sY v)]
theorem pS {o : Oper} {a : Act} {w : World} (x i : Operand) (ho : o.op = .indexAddr 66 x i) (b n c : Nat) (hx : a.eval x = .slice (some ⟨b, 0, none⟩) n c) (k : Nat) (hi : a.eval i = .int .i64 (k : Int)) (hk : k < n) :
 (execOp a.eval o).run Try.prog w = .ok (.value (.pointer (some ⟨b, 16 * k, none⟩))) w := by
 have hs : ∀ u, (sizeOf (Try.prog.elem 66)).run Try.prog u = .ok 16 u := fun u => by kernel_rfl
 have hu : Try.prog.underlying 66 = some (.slice (Try.prog.elem 66)) := by kernel_rfl
 have h2 : (0 ≤ (k : Int) ∧ (k : Int) < (n : Int)) := by omega
 unfold execOp
 simp only [ho, hx, hi, Sem.run_bind, run_indexAt_slice (h := hu)]
 rw [if_pos h2, hs]
 simp [Go.Addr.add_mid, go_sem, Nat.mul_comm]
set_option maxRecDepth 100000 in
theorem iunder2 : ∃ fs, Try.prog.underlying 25 = some (.struct fs) := ⟨_, rfl⟩
theorem isize2 (a b c d e f : Value) : (Try.prog.info? 25).map (·.size) = some ([a, b, c, d, e, f] : List Value).length := by kernel_rfl
theorem run_lin {o : Oper} {a : Act} {w : World} (x : Operand) (ho : o.op = .load 25 x) (b : Nat) (hx : a.eval x = .pointer (some ⟨b, 0, none⟩)) (a0 a1 a2 a3 a4 a5 : Value) (h : w.heap[b]? = some (.cells #[a0, a1, a2, a3, a4, a5] 25 (0, 0))) :
 (execOp a.eval o).run Try.prog w = .ok (.value (.agg #[a0, a1, a2, a3, a4, a5])) w := by
 obtain ⟨fs, hf⟩ := iunder2
 have hr : w.rangeAt b 0 [a0, a1, a2, a3, a4, a5] := fun j v hj => by simp only [World.cell?, h, Nat.zero_add]; simpa using hj
 unfold execOp
 simp only [ho, hx, Instr.loadAt, Instr.sureAddr, Sem.run_bind, Sem.run_pure, Result.andThen_ok, run_loadVar_mid w b 0 25 _ _ hr hf rfl (isize2 _ _ _ _ _ _)]
structure VSl (w : World) (v : Value) (l : List Vec) : Prop where
 ex : ∃ g c, v = .slice (some ⟨g, 0, none⟩) l.length c ∧ g < w.heap.size ∧ ∀ i x, l[i]? = some x → w.rangeAt g (16 * i) (mY x).toList
theorem vcells_at (l : List Vec) (i : Nat) (x : Vec) (hx : l[i]? = some x) (j : Nat) (y : Value) (hy : (mY x).toList[j]? = some y) : (sM l)[16 * i + j]? = some y := by
 induction l generalizing i with
 | nil => cases hx
 | cons z l ih =>
   unfold sM
   rw [List.flatMap_cons]
   have hz : (mY z).toList.length = 16 := by simp
   cases i with
   | zero =>
     injection hx with hx
     subst hx
     rw [List.getElem?_append_left (by have := (List.getElem?_eq_some_iff.1 hy).1; omega)]
     simpa using hy
   | succ i =>
     rw [List.getElem?_append_right (by omega), hz, show 16 * (i + 1) + j - 16 = 16 * i + j by omega]
     exact ih i hx
theorem VSl.of_own {w : World} {B : Nat} {v : Value} {l : List Vec} (h : w.ownsRow B 45 16 v l.length (sM l)) (h0 : 0 < l.length) : VSl w v l := by
 rcases h.2 with ⟨_, h1⟩ | ⟨g, cap, cur, rfl, _, hg, hn, _, hs, ht⟩
 ·omega
 ·refine ⟨g, cap, rfl, mF hg, fun i x hx j y hy => ?_⟩
  have h3 := vcells_at l i x hx j y hy
  have hlt := (List.getElem?_eq_some_iff.1 h3).1
  rw [length_vcells] at hlt
  rw [← ht, List.getElem?_take, if_pos hlt] at h3
  rw [cell_of_row w g _ _ _ _ hg]
  simpa using h3
theorem VSl.below {w w1 : World} {v : Value} {l : List Vec} (h : VSl w v l) (hb : Below w.heap.size w w1) : VSl w1 v l := by
 obtain ⟨g, c, e, hlt, hx⟩ := h.ex
 exact ⟨g, c, e, Nat.lt_of_lt_of_le hlt hb.size, fun i x hi j y hy => by
  have := hx i x hi j y hy
  unfold World.cell? at this ⊢
  rw [hb.block g hlt]
  exact this⟩
end Go.Proofs.Ytcpfabkokgiepaa
namespace Pl
open Go
def rT (op : Int) (l : List Vec) : Vec × Int :=
 match l with
 | [a] => if op = 64845 then (uP 77 a a a, 0) else (0, 1)
 | [a, b] => if op = 64846 then (uP 78 a b b, 0) else if op = 64847 then (uP 79 a b b, 0) else if op = 64848 then (uP 80 a b b, 0) else if op = 64849 then (uP 81 a b b, 0) else (0, 1)
 | [a, b, c] => if op = 64850 then (uP 82 a b c, 0) else (0, 1)
 | _ => (0, 1)
end Pl
namespace Go.Proofs.Ytcpfabkokgiepaa
open Go.RowKit Pl
theorem bits_p (op : Int) (v : Value) (l : List Vec) (w : World) (ho : -9223372036854775808 ≤ op ∧ op ≤ 9223372036854775807) (hv : VSl w v l) (hl : l.length ≤ 9223372036854775807) :
 Calls Try.prog 19 #[.int .i64 op, v] w fun e w' => e = .returned (.tuple #[.agg (mY (rT op l).1), .int .i64 (rT op l).2]) ∧ Below w.heap.size w w' := by
 obtain ⟨g, c, rfl, hlt, hx⟩ := hv.ex
 match l, hx with
 | [], hx => exact bits_no op _ _ _ w ho hl (by simp)
 | [a], hx =>
   have h0 := hx 0 a rfl
   unfold rT
   by_cases h : op = 64845
   ·subst h; exact bits_77o a a a w g c 0 hlt h0 h0 h0
   ·simp only [h, if_false]
    exact w9
 | [a, b], hx =>
   have h0 := hx 0 a rfl
   have h1 := hx 1 b rfl
   unfold rT
   by_cases h : op = 64846
   ·subst h; exact bits_78o a b b w g c 0 hlt h0 h1 h1
   ·by_cases h2 : op = 64847
    ·subst h2; exact bits_79o a b b w g c 0 hlt h0 h1 h1
    ·by_cases h3 : op = 64848
     ·subst h3; exact bits_80o a b b w g c 0 hlt h0 h1 h1
     ·by_cases h4 : op = 64849
      ·subst h4; exact bits_81o a b b w g c 0 hlt h0 h1 h1
      ·simp only [h, h2, h3, h4, if_false]
       exact w9
 | [a, b, d], hx =>
   have h0 := hx 0 a rfl
   have h1 := hx 1 b rfl
   have h2 := hx 2 d rfl
   unfold rT
   by_cases h : op = 64850
   ·subst h; exact bits_82o a b d w g c 0 hlt h0 h1 h2
   ·simp only [h, if_false]
    exact w9
 | _ :: _ :: _ :: _ :: r, hx => exact bits_no op _ _ _ w ho hl (by simp)
end Go.Proofs.Ytcpfabkokgiepaa
