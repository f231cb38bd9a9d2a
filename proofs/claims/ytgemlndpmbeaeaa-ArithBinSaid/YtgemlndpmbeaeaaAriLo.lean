/-
  ArithLocal: what its walks share.
-/
import Derived.Test.YtgemlndpmbeaeaaAriH
set_option linter.unusedSimpArgs false
set_option linter.unusedVariables false
namespace Go.Proofs.Ytgemlndpmbeaeaa
open Go.RowKit Pl

theorem HL.low {w0 u : World} {l : List (Nat × Vec)} (h : HL w0 l u) : ∀ q ∈ l, q.1 < u.heap.size := fun q hq => block_lt (h.hold q hq)
theorem HL.set {w0 u u1 : World} {l : List (Nat × Vec)} {K : Nat} {v v2 : Vec} (h : HL w0 ((K, v) :: l) u) (hs : Sets u K v2 u1) (hl : ∀ q ∈ l, q.1 < K) (hk : w0.heap.size ≤ K) : HL w0 ((K, v2) :: l) u1 :=
  N1.start 0 (h.bel.trans (hs.below.mono hk)) (fun q hq => by
    rcases List.mem_cons.1 hq with rfl | hq
    · exact hs.this
    · exact blk_sets (h.hold q (List.mem_cons_of_mem _ hq)) hs (Nat.ne_of_lt (hl q hq)))
theorem load_b {ops : Array Oper} {rest : List Oper} {o : Oper} {a : Act} {w : World} {Q : Exit → Act → World → Prop} (hgd : o.guard = none) (x : Operand) (ho : o.op = .load 5 x)
    (g j : Nat) (hx : a.eval x = .pointer (some ⟨g, j, none⟩)) (v : Vec) (hg : w.heap[g]? = some (.cells (cells v) 23 (0, 0))) (hj : j < 16)
    (h : wpList Try.prog ops Q rest (a.put o.dst (.int .u8 ((getN v 8 j : Nat) : Int))) w) : wpList Try.prog ops Q (o :: rest) a w := by
  refine wpList_plain hgd fun _ hK => ?_
  have ha : (isAgg 5).run Try.prog w = .ok false w := by kernel_rfl
  have hc : w.cell? ⟨g, j, none⟩ = some (.int .u8 ((getN v 8 j : Nat) : Int)) := by
    rw [cell_of_row w g j _ _ _ hg, getElem?_cells _ _ hj]; rfl
  unfold Oper.wp execOp
  simp only [ho, hx, Instr.loadAt, Instr.sureAddr, Sem.run_bind, Sem.run_pure, Result.andThen_ok]
  simp [loadVar, Sem.run_bind, ha, hc, go_sem]
  exact hK _ _ h

end Go.Proofs.Ytgemlndpmbeaeaa
