/-
  Texts VcRw, VcRx, VcDm.
-/
import Derived.Test.YtmfmokblmipagaaGreatR35
import Derived.Test.YtmfmokblmipagaaGreatR36
import Derived.Test.YtmfmokblmipagaaGreatR37
set_option linter.unusedSimpArgs false
set_option linter.unusedVariables false
set_option maxHeartbeats 8000000
open Pl
section
namespace Go.Proofs.YtmfmokblmipagaaGreat
open Go.RowKit Pl
end Go.Proofs.YtmfmokblmipagaaGreat
namespace Pl
open Go
end Pl
namespace Go.Proofs.YtmfmokblmipagaaGreat
open Go.RowKit Pl
end Go.Proofs.YtmfmokblmipagaaGreat
end
section
namespace Go.Proofs.YtmfmokblmipagaaGreat
open Go.RowKit Pl
theorem run_lvec {o : Oper} {a : Act} {w : World} (x : Operand) (ho : o.op = .load 28 x) (g : Nat) (hx : a.eval x = .pointer (some ⟨g, 0, none⟩)) (v : Vec) (h : w.heap[g]? = some (.cells (cells v) 28 (0, 0))) :
 (execOp a.eval o).run Tryz.prog w = .ok (.value (.agg (cells v))) w := by
 unfold execOp
 simp only [ho, hx, Instr.loadAt, Instr.sureAddr, Sem.run_bind, Sem.run_pure, Result.andThen_ok, run_loadVar_row w g 28 28 (cells v) (0, 0) _ h vunder rfl (vsize v)]
theorem hsize (a b : Value) : (Tryz.prog.info? 54).map (·.size) = some #[a, b].size := by kernel_rfl
theorem hall (a b : Int) : (#[.int .u64 a, .int .u64 b] : Array Value).all (·.oneCell') = true := by rw [← Array.all_toList]; rfl
set_option maxRecDepth 100000 in
theorem hunder : ∃ fs, Tryz.prog.underlying 54 = some (.struct fs) := ⟨_, rfl⟩
theorem store_hal {ops : Array Oper} {rest : List Oper} {o : Oper} {a : Act} {w : World} {Q : Exit → Act → World → Prop} (hgd : o.guard = none) (x y : Operand) (ho : o.op = .store 54 x y) (g : Nat) (c0 c1 : Int) (d0 d1 : Value) (hx : a.eval x = .pointer (some ⟨g, 0, none⟩)) (hy : a.eval y = .agg #[.int .u64 c0, .int .u64 c1])
 (hg : w.heap[g]? = some (.cells #[d0, d1] 54 (0, 0))) (h : ∀ w', w.grownBy w' (some g) → w'.heap[g]? = some (.cells #[.int .u64 c0, .int .u64 c1] 54 (0, 0)) → wpList Tryz.prog ops Q rest (a.put o.dst undef) w') : wpList Tryz.prog ops Q (o :: rest) a w :=
 wpList_store_row hgd 54 x y ho g #[.int .u64 c0, .int .u64 c1] hx hy 54 _ hg (hsize _ _) rfl (hall _ _) (h _ ⟨rfl, rfl, rfl, by simp, fun k _ hk => setRow_other w g k _ (fun e => hk (by rw [e]))⟩ (setRow_heap w g _ _ 54 _ hg))
theorem rget_0 (v : Vec) (w : World) : Calls Tryz.prog 49 #[.agg (cells v), .int .i64 64, .int .i64 0] w fun e w' => e = .returned (.int .u64 (getN v 64 0 : Nat)) ∧ Below w.heap.size w w' := rget64z v 0 0 w rfl (by decide)
theorem rget_1 (v : Vec) (w : World) : Calls Tryz.prog 49 #[.agg (cells v), .int .i64 64, .int .i64 1] w fun e w' => e = .returned (.int .u64 (getN v 64 1 : Nat)) ∧ Below w.heap.size w w' := rget64z v 1 1 w rfl (by decide)
set_option maxRecDepth 100000 in
theorem rsplit_s (v : Vec) (w : World) : Calls Tryz.prog 16 #[.agg (cells v)] w fun e w' => e = .returned (.agg #[.int .u64 (getN v 64 0 : Nat), .int .u64 (getN v 64 1 : Nat)]) ∧ Below w.heap.size w w' := by
 go_enter Tryz.func16, Tryz.ntmps16
 go_upto_region 1 with fail
 obtain ⟨W, hW, hH, hO, hZ⟩ := xQ w v
 rw [← hW]
 clear hW
 refine region_do (fun u => Below W.heap.size W u) 5 (by kernel_rfl) (by kernel_rfl) (Below.refl _ _).drew ?_
 simp only [zF, zE, zD, zC]
 repeat (first | (refine wpD_here rfl (fun u hS => run_lvec _ rfl _ rfl _ (blk_keep hH hS)) ?_; simp only [Act.put, z5, z6, z7]) | (refine wpD_call (v := .int .u64 (getN v 64 0 : Nat)) rfl 49 ?_ (fun u => ?_) (fun u hS => ?_) ?_; rotate_left 1; (focus (go_simp; (try with_reducible rfl); done)); (focus ((with_reducible refine (rget_0 v _).mono ?_); rintro e u2 ⟨rfl, hb⟩; exact ⟨rfl, hS.trans (hb.mono hS.size)⟩)); simp only [Act.put, z5, z6, z7]) | (refine wpD_call (v := .int .u64 (getN v 64 1 : Nat)) rfl 49 ?_ (fun u => ?_) (fun u hS => ?_) ?_; rotate_left 1; (focus (go_simp; (try with_reducible rfl); done)); (focus ((with_reducible refine (rget_1 v _).mono ?_); rintro e u2 ⟨rfl, hb⟩; exact ⟨rfl, hS.trans (hb.mono hS.size)⟩)); simp only [Act.put, z5, z6, z7]) | (refine wpD_pure (v := ?_) rfl (fun u => ?_) ?_; rotate_left; (focus (go_simp; (try with_reducible rfl); done)); simp only [Act.put, z5, z6, z7]))
 refine wpD_nil (fun u hS => ?_)
 have hO' := blk_keep hO hS
 skip
 obtain ⟨fs, hfs⟩ := hunder
 go_wp2_with (first | (refine store_hal rfl _ _ rfl (w.heap.size + 1) _ _ _ _ rfl rfl hO' ?_; intro wq gq bq))
 exact bodyPost_ret (results_cell_row rfl _ _ (w.heap.size + 1) _ _ _ _ rfl bq hfs rfl (hsize _ _)) rfl ⟨rfl, (hZ.trans (hS.mono hZ.size)).trans (grown_below gq (hZ.trans (hS.mono hZ.size)).size (fun g e => by injection e with e; omega))⟩
theorem rof_row (op : Int) (r : Row) (w : World) (h : vrowAt op = some r) : Calls Tryz.prog 15 #[.int .i64 op] w fun e w' => ∃ (s t : Value) (pl : Bool), e = .returned (.tuple #[.agg #[.int .i64 r.form, .int .i64 r.lim, .bool pl, s, t], .bool true]) ∧ w'.ownsRow w.heap.size 3 1 s (tyIn r).length ((tyIn r).map (Value.int .i64)) ∧ w'.ownsRow w.heap.size 3 1 t (tyOut r).length ((tyOut r).map (Value.int .i64)) ∧ Below w.heap.size w w' :=
 (rof_any op w).mono fun e w' ⟨h1, hb⟩ => by
  rcases h1 with ⟨h2, _⟩ | ⟨r', s, t, pl, hr, he, o1, o2⟩
  ·rw [h] at h2; cases h2
  ·rw [h] at hr
   injection hr with hr
   subst hr
   exact ⟨s, t, pl, he, o1, o2, hb⟩
end Go.Proofs.YtmfmokblmipagaaGreat
end
section
namespace Go.Proofs.YtmfmokblmipagaaGreat
open Go.RowKit Pl
theorem ofis_row {B : Nat} {op : Int} {e : Ending} {w' : World} (h : OfIs B (rowsOf op) op e w') :
 (vrowAt op = none ∧ e = .returned (.tuple #[.agg #[.int .i64 0, .int .i64 0, .bool false, .slice none 0 0, .slice none 0 0], .bool false])) ∨
 ∃ (r : Row) (pl : Bool) (s t : Value), vrowAt op = some r ∧ e = .returned (.tuple #[.agg #[.int .i64 r.form, .int .i64 r.lim, .bool pl, s, t], .bool true]) ∧
  w'.ownsRow B 3 1 s (tyIn r).length ((tyIn r).map (Value.int .i64)) ∧ w'.ownsRow B 3 1 t (tyOut r).length ((tyOut r).map (Value.int .i64)) := by
 obtain ⟨v, k, rfl, hf, ht⟩ := h.ret
 rcases k with _ | _
 ·obtain ⟨rfl, hn⟩ := hf rfl
  left
  refine ⟨?_, rfl⟩
  unfold vrowAt
  rw [List.find?_eq_none]
  intro r hr
  rw [inRow_t]
  exact hn r hr
 ·obtain ⟨i, r, pl, s, t, hi, h1, h2, hno, rfl, hs, ho⟩ := ht rfl
  right
  exact ⟨r, pl, s, t, find_first _ _ i r hi (inRow_t.2 ⟨h1, h2⟩) (fun j hj q hq => inRow_f.2 (hno j hj q hq)), rfl, hs, ho⟩
theorem of_row (op : Int) (r : Row) (w : World) (ho : -9223372036854775808 ≤ op ∧ op ≤ 9223372036854775807) (h : vrowAt op = some r) :
 Calls Tryz.prog 34 #[.int .i64 op] w fun e w' => ∃ (s t : Value) (pl : Bool), e = .returned (.tuple #[.agg #[.int .i64 r.form, .int .i64 r.lim, .bool pl, s, t], .bool true]) ∧ w'.ownsRow w.heap.size 3 1 s (tyIn r).length ((tyIn r).map (Value.int .i64)) ∧ w'.ownsRow w.heap.size 3 1 t (tyOut r).length ((tyOut r).map (Value.int .i64)) ∧ Below w.heap.size w w' := by
 refine (of_any op w ho).mono fun e w' hh => ?_
 obtain ⟨h1, h2⟩ := hh
 rcases ofis_row h1 with ⟨hn, _⟩ | ⟨q, pl, s, t, hq, rfl, hs, ht⟩
 ·rw [hn] at h; cases h
 ·rw [h] at hq; injection hq with hq; subst hq
  exact ⟨s, t, pl, rfl, hs, ht, h2⟩
end Go.Proofs.YtmfmokblmipagaaGreat
end
