/-
  Guarded loads and calls; worlds that hold vectors.
-/
import Derived.Test.YtlcndenbnokcjaaPair
import Derived.Test.YtlcndenbnokcjaaDoG
set_option linter.unusedSimpArgs false
set_option linter.unusedVariables false
namespace Go.Proofs.Ytlcndenbnokcjaa
open Go.RowKit Pl
set_option linter.unusedVariables false

theorem load_vec_g {ops : Array Oper} {rest : List Oper} {o : Oper} {a : Act} {w : World} {Q : Exit → Act → World → Prop} (hw : Region.wanted o (yielded ops a.tmps) = true) (x : Operand) (ho : o.op = .load 61 x)
    (g : Nat) (hx : a.eval x = .pointer (some ⟨g, 0, none⟩)) (v : Vec) (hg : w.heap[g]? = some (.cells (cells v) 61 (0, 0)))
    (h : wpList Try.prog ops Q rest (a.put o.dst (.agg (cells v))) w) : wpList Try.prog ops Q (o :: rest) a w :=
  wpList_step fun K hK => by
    rw [if_pos hw]
    exact wp_load_row _ x ho g hx _ _ _ _ hg vunder rfl (vsize v) (hK _ _ h)
/-- World u is w0 but for new blocks; the first two that came hold a and b. -/
structure H2 (w0 : World) (a b : Vec) (u : World) : Prop where
  bel : Below w0.heap.size w0 u
  fst : u.heap[w0.heap.size]? = some (.cells (cells a) 61 (0, 0))
  snd : u.heap[w0.heap.size + 1]? = some (.cells (cells b) 61 (0, 0))
theorem H2.below {w0 u u1 : World} {a b : Vec} (h : H2 w0 a b u) (hb : Below u.heap.size u u1) : H2 w0 a b u1 :=
  ⟨h.bel.trans (hb.mono (by have := block_lt h.snd; omega)), blk_keep h.fst hb, blk_keep h.snd hb⟩
theorem H2.store {w0 u u1 : World} {a b v : Vec} {x : Obj} (h : H2 w0 a b u) (hs : Sets (u.alloc x) u.heap.size v u1) : H2 w0 a b u1 :=
  ⟨below_store h.bel (Nat.le_refl _) hs, blk_sets (blk_alloc h.fst x) hs (Nat.ne_of_lt (block_lt h.fst)), blk_sets (blk_alloc h.snd x) hs (Nat.ne_of_lt (block_lt h.snd))⟩
theorem H2.drew {w0 u : World} {a b : Vec} (h : H2 w0 a b u) : H2 w0 a b u.drew := ⟨h.bel.drew, h.fst, h.snd⟩
theorem H2.start {w w1 : World} (a b : Vec) (hb1 : Below ((w.alloc (.cells (cells a) 61)).alloc (.cells (cells b) 61)).heap.size ((w.alloc (.cells (cells a) 61)).alloc (.cells (cells b) 61)) w1) : H2 w a b w1 :=
  ⟨(((Below.refl _ _).alloc (Nat.le_refl _) _).alloc (by simp) _).trans (hb1.mono (by simp; omega)), blk_keep (heap_alloc2_old _ _ _) hb1, blk_keep (heap_alloc2_new _ _ _) hb1⟩
structure H3 (w0 : World) (a b d : Vec) (D : Nat) (u : World) : Prop where
  h2 : H2 w0 a b u
  dd : u.heap[D]? = some (.cells (cells d) 61 (0, 0))
theorem H3.below {w0 u u1 : World} {a b d : Vec} {D : Nat} (h : H3 w0 a b d D u) (hb : Below u.heap.size u u1) : H3 w0 a b d D u1 := ⟨h.h2.below hb, blk_keep h.dd hb⟩
theorem H3.drew {w0 u : World} {a b d : Vec} {D : Nat} (h : H3 w0 a b d D u) : H3 w0 a b d D u.drew := ⟨h.h2.drew, h.dd⟩
theorem eq_testI {a b : Int} (h : a = b) : (a != b) = false := by subst h; exact bne_self_eq_false _
section
variable {P : Program} {ops : Array Oper} {S : World → Prop}
theorem wpD_callg {L : Act → Prop} {o : Oper} {rest : List Oper} {v : Value} {a : Act} (hg : Region.wanted o (yielded ops a.tmps) = true) (f : FuncId) (args : Array Value)
    (h : ∀ w, (execOp a.eval o).run P w = .ok (.enter f args) w) (hc : ∀ w, S w → Calls P f args w (fun e w2 => e = .returned v ∧ S w2))
    (hr : wpD P ops S L rest (a.put o.dst v)) : wpD P ops S L (o :: rest) a :=
  ⟨v, .inl ⟨hg, fun w hS => ⟨w, .inr (.inr ⟨f, args, h w, hc w hS⟩)⟩⟩, hr⟩
theorem wpD_hereg {L : Act → Prop} {o : Oper} {rest : List Oper} {v : Value} {a : Act} (hg : Region.wanted o (yielded ops a.tmps) = true) (h : ∀ w, S w → (execOp a.eval o).run P w = .ok (.value v) w)
    (hr : wpD P ops S L rest (a.put o.dst v)) : wpD P ops S L (o :: rest) a :=
  ⟨v, .inl ⟨hg, fun w hS => ⟨w, .inl ⟨h w hS, hS⟩⟩⟩, hr⟩
end
theorem do_loadg {ops : Array Oper} {S : World → Prop} {L : Act → Prop} {o : Oper} {rest : List Oper} {a : Act} (hg : Region.wanted o (yielded ops a.tmps) = true) (x : Operand) (ho : o.op = .load 61 x) (g : Nat)
    (hx : a.eval x = .pointer (some ⟨g, 0, none⟩)) (v : Vec) (h : ∀ w, S w → w.heap[g]? = some (.cells (cells v) 61 (0, 0)))
    (hr : wpD Try.prog ops S L rest (a.put o.dst (.agg (cells v)))) : wpD Try.prog ops S L (o :: rest) a :=
  wpD_hereg hg (fun w hS => by
    unfold execOp
    simp only [ho, hx, Instr.loadAt, Instr.sureAddr, Sem.run_bind, Sem.run_pure, Result.andThen_ok, run_loadVar_row w g 61 61 (cells v) (0, 0) _ (h w hS) vunder rfl (vsize v)]) hr

end Go.Proofs.Ytlcndenbnokcjaa
