/-
  Two vectors held against one another.
-/
import Derived.Test.YtcpfabkokgiepaaPair
import Derived.ChangeKeysEq
set_option linter.unusedSimpArgs false
set_option linter.unusedVariables false
namespace Go.Proofs.Ytcpfabkokgiepaa
open Go.RowKit Pl

theorem part_byte (v : Vec) (i : Nat) (h : i < 16) (w : World) : (part 5 (cells v) (i * Try.prog.cellsOf 5)).run Try.prog w = .ok (byteV v i) w := by
  have h1 : Try.prog.cellsOf 5 = 1 := by kernel_rfl
  have h2 : (isAgg 5).run Try.prog w = .ok false w := by kernel_rfl
  rw [h1, Nat.mul_one]
  simp [part, h2, getElem?_cells v i h]

theorem items_vec (d : Nat) (u v : Vec) : ∀ (is : List Nat) (w : World), (∀ i ∈ is, i < 16) →
    (Op.eqItems (d + 1) 5 (Try.prog.cellsOf 5) (cells u) (cells v) is).run Try.prog w = .ok (is.all fun i => decide (getN u 8 i = getN v 8 i)) w
  | [], w, _ => by simp [Op.eqItems]
  | i :: is, w, h => by
    have hu : Try.prog.underlying 5 = some (.int .u8) := by kernel_rfl
    have hi := h i (by simp)
    simp only [Op.eqItems, Sem.run_bind, part_byte _ i hi, Result.andThen_ok, byteV, run_equalIn_int w d 5 .u8 .u8 _ _ hu]
    have e : ((bitsAt u (8 * i) 8 : Int) == (bitsAt v (8 * i) 8 : Int)) = decide (getN u 8 i = getN v 8 i) := by
      rw [Bool.eq_iff_iff, beq_iff_eq, decide_eq_true_iff]
      exact Int.natCast_inj
    rw [e]
    cases hd : decide (getN u 8 i = getN v 8 i)
    · simp [hd]
    · simp only [Bool.not_true, Bool.false_eq_true, if_false, List.all_cons, hd, Bool.true_and]
      exact items_vec d u v is w (fun j hj => h j (by simp [hj]))

set_option maxRecDepth 100000 in
theorem equal_vec (u v : Vec) (w : World) : (Op.equalIn 10000 45 (.agg (cells u)) (.agg (cells v))).run Try.prog w = .ok (decide (u = v)) w := by
  obtain ⟨i, hi⟩ : ∃ i, Try.prog.info? 5 = some i := Option.isSome_iff_exists.1 (by kernel_rfl)
  rw [run_equalIn_array (P := Try.prog) w 9999 (cells u) (cells v) vunder hi, items_vec 9998 u v _ w (by simp)]
  congr 1
  rw [Bool.eq_iff_iff]
  simp only [List.all_eq_true, List.mem_range, decide_eq_true_eq]
  exact ⟨fun h => lanes_ext 8 16 (by decide) (by decide) h, fun h i _ => by rw [h]⟩

theorem guard_vec (op : BinOp) (x y : Operand) (u v : Vec) (w : World) : (eqGuard op 45 x y (.agg (cells u)) (.agg (cells v))).run Try.prog w = .ok () w :=
  run_eqGuard_agg w op _ x y _ _ (by kernel_rfl)
end Go.Proofs.Ytcpfabkokgiepaa
