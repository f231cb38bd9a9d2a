/-
  plaitref06.Bits: its contract.
-/
import Derived.Test.YtifafdfjmhadaaaCmpB
set_option linter.unusedSimpArgs false
set_option linter.unusedVariables false
namespace Pl
theorem bit_test (v : Vec) (i : Nat) : ((((getN v 8 (i / 8) : Nat) : Int) / 2 ^ (i % 8)).tmod 2 == 1) = v.toNat.testBit i := by
  have h : v.toNat.testBit i = (getN v 8 (i / 8)).testBit (i % 8) := by
    unfold getN
    rw [testBit_bitsAt, decide_eq_true (Nat.mod_lt _ (by decide)), Bool.true_and, Nat.div_add_mod]
  rw [h, Nat.testBit_eq_decide_div_mod_eq]
  generalize getN v 8 (i / 8) = x
  rw [show (2 : Int) ^ (i % 8) = ((2 ^ (i % 8) : Nat) : Int) by simp, ← Int.natCast_ediv]
  generalize x / 2 ^ (i % 8) = y
  rw [Int.tmod_eq_emod_of_nonneg (Int.natCast_nonneg _)]
  rw [Bool.eq_iff_iff]
  simp
  omega
/-- The lowest i bits of R. -/
def lowB (R : Vec) (i : Nat) : Vec := buildOn 0 1 (fun j => getN R 1 j) i
theorem get_one (v : Vec) (j : Nat) : getN v 1 j = if v.toNat.testBit j = true then 1 else 0 := by
  have h : (getN v 1 j).testBit 0 = v.toNat.testBit j := by
    unfold getN
    rw [testBit_bitsAt]; simp
  have hl := getN_lt v 1 j
  rw [← h, Nat.testBit_eq_decide_div_mod_eq]
  generalize getN v 1 j = x at *
  simp at hl ⊢
  split <;> omega
theorem lowB_get (R : Vec) (i j : Nat) (hi : i ≤ 128) : getN (lowB R i) 1 j = if j < i then getN R 1 j else 0 := by
  unfold lowB
  rw [getN_buildOn _ _ _ _ _ hi]
  have := getN_lt R 1 j
  split
  · exact Nat.mod_eq_of_lt this
  · simp [getN, bitsAt]
theorem lowB_all (R : Vec) : lowB R 128 = R := lanes_ext 1 128 (by decide) (by decide) fun j hj => by
  rw [lowB_get _ _ _ (by decide), if_pos hj]
theorem lowB_bit (R : Vec) (i j : Nat) (hi : i ≤ 128) : (lowB R i).toNat.testBit j = (decide (j < i) && R.toNat.testBit j) := by
  have h := lowB_get R i j hi
  rw [get_one, get_one] at h
  by_cases hj : j < i
  · simp only [hj, if_true] at h
    rw [decide_eq_true hj, Bool.true_and]
    cases h1 : (lowB R i).toNat.testBit j <;> cases h2 : R.toNat.testBit j <;> simp [h1, h2] at h ⊢
  · simp only [hj, if_false] at h
    rw [decide_eq_false hj, Bool.false_and]
    cases h1 : (lowB R i).toNat.testBit j <;> simp [h1] at h ⊢
theorem lowB_skip (R : Vec) (i : Nat) (hi : i < 128) (h : R.toNat.testBit i = false) : lowB R (i + 1) = lowB R i := by
  apply vec_ext
  intro j _
  rw [lowB_bit _ _ _ (by omega), lowB_bit _ _ _ (by omega)]
  by_cases e : j = i
  · rw [e, h]; simp
  · have : decide (j < i + 1) = decide (j < i) := by
      by_cases e2 : j < i
      · rw [decide_eq_true e2, decide_eq_true (by omega)]
      · rw [decide_eq_false e2, decide_eq_false (by omega)]
    rw [this]
theorem lowB_set (R : Vec) (i : Nat) (hi : i < 128) (h : R.toNat.testBit i = true) : setN (lowB R i) 8 (i / 8) (getN (lowB R i) 8 (i / 8) ||| 2 ^ (i % 8)) = lowB R (i + 1) := by
  have hm := Nat.div_add_mod i 8
  have hr : i % 8 < 8 := Nat.mod_lt _ (by decide)
  apply vec_ext
  intro j hj
  unfold setN
  rw [testBit_putAt _ _ _ _ _ (by omega), lowB_bit R (i + 1) j (by omega), lowB_bit R i j (by omega)]
  split
  · rename_i h2
    rw [Nat.testBit_or, Nat.testBit_two_pow]
    unfold getN
    rw [testBit_bitsAt, show 8 * (i / 8) + (j - 8 * (i / 8)) = j by omega, lowB_bit R i j (by omega), decide_eq_true (show j - 8 * (i / 8) < 8 by omega), Bool.true_and]
    by_cases e : j = i
    · subst e
      rw [h, decide_eq_true (show j % 8 = j - 8 * (j / 8) by omega)]; simp
    · rw [decide_eq_false (show ¬ (i % 8 = j - 8 * (i / 8)) by omega), Bool.or_false]
      have : decide (j < i + 1) = decide (j < i) := by
        by_cases e2 : j < i
        · rw [decide_eq_true e2, decide_eq_true (by omega)]
        · rw [decide_eq_false e2, decide_eq_false (by omega)]
      rw [this]
  · rename_i h2
    have : decide (j < i + 1) = decide (j < i) := by
      by_cases e2 : j < i
      · rw [decide_eq_true e2, decide_eq_true (by omega)]
      · rw [decide_eq_false e2, decide_eq_false (by omega)]
    rw [this]
theorem bitV_bit (k : Nat) (a b c : Vec) (i : Nat) (hi : i < 128) (A B C : Bool) (ha : a.toNat.testBit i = A) (hb : b.toNat.testBit i = B) (hc : c.toNat.testBit i = C) :
    (bitV k a b c).toNat.testBit i = if k = 77 then !A else if k = 78 then A && B else if k = 79 then A && !B else if k = 80 then A || B else if k = 81 then A != B else (A && C) || (B && !C) := by
  have hn : ∀ v : Vec, (~~~v).toNat.testBit i = !(v.toNat.testBit i) := fun v => by
    have := BitVec.getLsbD_not (x := v) (i := i)
    rw [show decide (i < 128) = true from decide_eq_true hi] at this
    simpa [BitVec.getLsbD] using this
  subst ha hb hc
  unfold bitV
  split
  · exact hn _
  split
  · rw [BitVec.toNat_and, Nat.testBit_and]
  split
  · rw [BitVec.toNat_and, Nat.testBit_and, hn]
  split
  · rw [BitVec.toNat_or, Nat.testBit_or]
  split
  · rw [BitVec.toNat_xor, Nat.testBit_xor]
  · rw [BitVec.toNat_or, Nat.testBit_or, BitVec.toNat_and, Nat.testBit_and, BitVec.toNat_and, Nat.testBit_and, hn]
end Pl
namespace Go.Proofs.Ytifafdfjmhadaaa
open Go.RowKit Pl

set_option maxRecDepth 100000 in
set_option maxHeartbeats 1000000 in
theorem rbit_any (v : Vec) (i : Nat) (w : World) (hi : i < 128) :
    Calls Try.prog 31 #[.agg (cells v), .int .i64 (i : Int)] w fun e w' => e = .returned (.bool (v.toNat.testBit i)) ∧ Below w.heap.size w w' := by
  have e1 : (i : Int).tdiv 8 = ((i / 8 : Nat) : Int) := by rw [Int.tdiv_eq_ediv_of_nonneg (by omega)]; omega
  have e2 : (i : Int).tmod 8 = ((i % 8 : Nat) : Int) := by rw [Int.tmod_eq_emod_of_nonneg (by omega)]; omega
  have hc : (w.alloc (.cells (cells v) 23)).cell? ⟨w.heap.size, i / 8, none⟩ = some (.int .u8 ((getN v 8 (i / 8) : Nat) : Int)) := by
    rw [cell_of_row _ w.heap.size (i / 8) _ _ _ (heap_alloc_new _ _), getElem?_cells _ _ (by omega)]; rfl
  go_enter Try.func31, Try.ntmps31
  go_wp2_with fail
  go_ret
  exact ⟨congrArg (fun z => Ending.returned (.bool z)) (bit_test v i), (Below.refl _ _).alloc (Nat.le_refl _) _⟩
theorem or_byte (x r : Nat) (hx : x < 256) (hr : r < 8) : bits .or .u8 (x : Int) (IntKind.u8.wrap (1 * 2 ^ r)) = ((x ||| 2 ^ r : Nat) : Int) := by
  have hp : 2 ^ r < 256 := Nat.pow_lt_pow_right (by decide) hr
  have e : IntKind.u8.wrap (1 * 2 ^ r) = ((2 ^ r : Nat) : Int) := by
    rw [Int.one_mul, show (2 : Int) ^ r = ((2 ^ r : Nat) : Int) by simp]
    exact IntWalk.u8_in _ ⟨Int.natCast_nonneg _, by omega⟩
  rw [e]
  exact u8_or_nat _ _ hx hp
theorem or_byte2 (x r : Nat) (hx : x < 256) (hr : r < 8) : bits .or .u8 (x : Int) (2 ^ r % 256) = (((x ||| 2 ^ r) % 256 : Nat) : Int) := by
  have hp : 2 ^ r < 256 := Nat.pow_lt_pow_right (by decide) hr
  have h := or_byte x r hx hr
  rw [Int.one_mul] at h
  have e : IntKind.u8.wrap (2 ^ r) = (2 : Int) ^ r % 256 := by
    rw [show (2 : Int) ^ r = ((2 ^ r : Nat) : Int) by simp, IntWalk.u8_in _ ⟨Int.natCast_nonneg _, by omega⟩]
    exact (Int.emod_eq_of_lt (Int.natCast_nonneg _) (Int.ofNat_lt.2 hp)).symm
  rw [e] at h
  rw [h, Nat.mod_eq_of_lt (Nat.or_lt_two_pow (n := 8) hx hp)]
theorem St.eqX {W wr : World} {O : Nat} {X Y : Vec} (hs : St W O X wr) (h : Y = X) : St W O Y wr := by subst h; exact hs

theorem rangeAt_kb {W u : World} {B O o : Nat} {cs : List Value} (h : W.rangeAt B o cs) (hB : B < W.heap.size) (hne : B ≠ O) (hk : Kb W O u) : u.rangeAt B o cs := fun j v hv => by
  have := h j v hv
  unfold World.cell? at *
  rw [show u.heap[(⟨B, o + j, none⟩ : Addr).block]? = W.heap[(⟨B, o + j, none⟩ : Addr).block]? from hk.other B hB hne]
  exact this
theorem load_at_g {ops : Array Oper} {rest : List Oper} {o : Oper} {a : Act} {w : World} {Q : Exit → Act → World → Prop} (hw : Region.wanted o (yielded ops a.tmps) = true) (x : Operand) (ho : o.op = .load 23 x)
    (b off : Nat) (hx : a.eval x = .pointer (some ⟨b, off, none⟩)) (v : Vec) (hc : w.rangeAt b off (cells v).toList)
    (h : wpList Try.prog ops Q rest (a.put o.dst (.agg (cells v))) w) : wpList Try.prog ops Q (o :: rest) a w :=
  wpList_step fun K hK => by
    rw [if_pos hw]
    exact wp_load_mid _ x ho b off hx (cells v).toList _ hc vunder rfl (vsize v) (hK _ _ (by simpa using h))
theorem cell_of_st {W u : World} {O : Nat} {X : Vec} (h : St W O X u) (i : Nat) (hi : i < 128) : u.cell? ⟨O, i / 8, none⟩ = some (.int .u8 ((getN X 8 (i / 8) : Nat) : Int)) := by
  rw [cell_of_row u O (i / 8) _ _ _ h.this, getElem?_cells _ _ (by omega)]; rfl

end Go.Proofs.Ytifafdfjmhadaaa
