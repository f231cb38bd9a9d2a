/-
  Texts CmpB, WidBA, CmpRBi, CmpM, WidRA, WidRBR0.
-/
import Derived.Test.YtcpfabkokgiepaaQ02
import Derived.Test.YtcpfabkokgiepaaQ07
import Derived.Test.YtcpfabkokgiepaaQ17
import Derived.Test.YtcpfabkokgiepaaQ20
import Derived.Test.YtcpfabkokgiepaaQ21
set_option linter.unusedSimpArgs false
set_option linter.unusedVariables false
set_option maxHeartbeats 8000000
open Pl
section
namespace Go.Proofs.Ytcpfabkokgiepaa
open Go.RowKit Pl
theorem vZ {ops : Array Oper} {rest : List Oper} {o : Oper} {a : Act} {w : World} {Q : Exit → Act → World → Prop} (hgd : o.guard = none) (x : Operand) (ho : o.op = .load 45 x)
 (b off : Nat) (hx : a.eval x = .pointer (some ⟨b, off, none⟩)) (v : Vec) (hc : w.rangeAt b off (mY v).toList)
 (h : wpList Try.prog ops Q rest (a.put o.dst (.agg (mY v))) w) : wpList Try.prog ops Q (o :: rest) a w :=
 wpList_load_mid hgd _ x ho b off hx (mY v).toList _ hc r5 rfl (sY v) (by simpa using h)
theorem do_loadM {σ : Type} {ops : Array Oper} {S : σ → World → Prop} {L : Act → Prop} {o : Oper} {rest : List Oper} {a : Act} (hg : o.guard = none) (x : Operand) (ho : o.op = .load 45 x) (b off : Nat)
 (hx : a.eval x = .pointer (some ⟨b, off, none⟩)) (v : Vec) (h : ∀ D w, S D w → w.rangeAt b off (mY v).toList)
 (hr : vJ Try.prog ops S L rest (a.put o.dst (.agg (mY v)))) : vJ Try.prog ops S L (o :: rest) a :=
 wpDA_here hg (fun D w hS => by
  unfold execOp
  simp only [ho, hx, Instr.loadAt, Instr.sureAddr, Sem.run_bind, Sem.run_pure, Result.andThen_ok, run_loadVar_mid w b off 45 (mY v).toList _ (h D w hS) r5 rfl (sY v), Array.toArray_toList]) hr
theorem mD {w u : World} {B o : Nat} {cs : List Value} (h : w.rangeAt B o cs) (hB : B < w.heap.size) (hz : Below w.heap.size w u) : u.rangeAt B o cs := fun j v hv => by
 rw [hz.cell (p := ⟨B, o + j, none⟩) hB]; exact h j v hv
end Go.Proofs.Ytcpfabkokgiepaa
namespace Pl
theorem bitsAt_and (u v : Vec) (s l : Nat) : tW (u &&& v) s l = tW u s l &&& tW v s l := by
 apply Nat.eq_of_testBit_eq; intro j
 rw [Nat.testBit_and, mA, mA, mA, BitVec.toNat_and, Nat.testBit_and]
 cases decide (j < l) <;> simp
theorem bitsAt_or (u v : Vec) (s l : Nat) : tW (u ||| v) s l = tW u s l ||| tW v s l := by
 apply Nat.eq_of_testBit_eq; intro j
 rw [Nat.testBit_or, mA, mA, mA, BitVec.toNat_or, Nat.testBit_or]
 cases decide (j < l) <;> simp
theorem bitsAt_xor (u v : Vec) (s l : Nat) : tW (u ^^^ v) s l = tW u s l ^^^ tW v s l := by
 apply Nat.eq_of_testBit_eq; intro j
 rw [Nat.testBit_xor, mA, mA, mA, BitVec.toNat_xor, Nat.testBit_xor]
 cases decide (j < l) <;> simp
theorem not8 (n : Nat) (h : n < 256) : 255 - n = 255 ^^^ n := by
 have : ∀ n : Fin 256, 255 - n.val = 255 ^^^ n.val := by decide +kernel
 exact this ⟨n, h⟩
theorem getN_not (v : Vec) (i : Nat) (h : i < 16) : mT (~~~v) 8 i = 255 - mT v 8 i := by
 rw [not8 _ (mL v 8 i)]
 unfold mT
 apply Nat.eq_of_testBit_eq; intro j
 rw [Nat.testBit_xor, mA, mA, show (255 : Nat) = 2 ^ 8 - 1 from rfl, Nat.testBit_two_pow_sub_one]
 by_cases hj : j < 8
 ·have : (~~~v).toNat.testBit (8 * i + j) = !(v.toNat.testBit (8 * i + j)) := by
   have := BitVec.getLsbD_not (x := v) (i := 8 * i + j)
   rw [show decide (8 * i + j < 128) = true from decide_eq_true (by omega)] at this
   simpa [BitVec.getLsbD] using this
  rw [this]; simp [hj]
 ·simp [hj]
def eW (k : Nat) (a b c : Vec) (i : Nat) : Nat :=
 if k = 77 then 255 - mT a 8 i else if k = 78 then mT a 8 i &&& mT b 8 i else if k = 79 then mT a 8 i &&& (255 - mT b 8 i) else if k = 80 then mT a 8 i ||| mT b 8 i else if k = 81 then mT a 8 i ^^^ mT b 8 i
 else (mT a 8 i &&& mT c 8 i) ||| (mT b 8 i &&& (255 - mT c 8 i))
def uP (k : Nat) (a b c : Vec) : Vec :=
 if k = 77 then ~~~a else if k = 78 then a &&& b else if k = 79 then a &&& ~~~b else if k = 80 then a ||| b else if k = 81 then a ^^^ b else (a &&& c) ||| (b &&& ~~~c)
theorem bitF_get (k : Nat) (a b c : Vec) (i : Nat) (h : i < 16) : eW k a b c i = mT (uP k a b c) 8 i := by
 have ga : ∀ u v : Vec, mT (u &&& v) 8 i = mT u 8 i &&& mT v 8 i := fun u v => bitsAt_and u v _ _
 have go : ∀ u v : Vec, mT (u ||| v) 8 i = mT u 8 i ||| mT v 8 i := fun u v => bitsAt_or u v _ _
 have gx : ∀ u v : Vec, mT (u ^^^ v) 8 i = mT u 8 i ^^^ mT v 8 i := fun u v => bitsAt_xor u v _ _
 unfold eW uP
 split
 ·rw [getN_not _ _ h]
 split
 ·rw [ga]
 split
 ·rw [ga, getN_not _ _ h]
 split
 ·rw [go]
 split
 ·rw [gx]
 ·rw [go, ga, ga, getN_not _ _ h]
theorem bitF_lt (k : Nat) (a b c : Vec) (i : Nat) (h : i < 16) : eW k a b c i < 256 := by
 rw [bitF_get k a b c i h]; exact mL _ 8 i
theorem bit_all (k : Nat) (a b c : Vec) : mJ a 8 (eW k a b c) 16 = uP k a b c :=
 rL 8 16 (by decide) (by decide) fun i h => by
  rw [pX _ _ _ _ _ (by decide), if_pos h, bitF_get k a b c i h]
  exact Nat.mod_eq_of_lt (mL _ 8 i)
end Pl
namespace Go.Proofs.Ytcpfabkokgiepaa
open Go.RowKit Pl
theorem hG (v : Vec) (i : Nat) (hi : i < 16) (u : World) : (Instr.index 45 (.agg (mY v)) (.int .i64 (i : Int))).run Try.prog u = .ok (.int .u8 ((mT v 8 i : Nat) : Int)) u := by
 have hu : (underlying 45).run Try.prog u = .ok (.array 16 5) u := by kernel_rfl
 have hz : (Go.sizeOf 5).run Try.prog u = .ok 1 u := by kernel_rfl
 have hi2 : (i : Int) < 16 := by omega
 have ha : (isAgg 5).run Try.prog u = .ok false u := by kernel_rfl
 unfold Instr.index
 simp [asIntOf, Sem.run_bind, hu, hz, ha, part, getElem?_cells v i hi, sP, mT]
 exact fun h => absurd h (by omega)
theorem zb_78 (a b c : Vec) (i : Nat) (hi : i < 16) : bits .and .u8 ((mT a 8 i : Nat) : Int) ((mT b 8 i : Nat) : Int) = ((eW 78 a b c i % 256 : Nat) : Int) := by
 rw [u8_and_nat _ _ (mL a 8 i) (mL b 8 i), Nat.mod_eq_of_lt (bitF_lt _ _ _ _ _ hi)]; rfl
theorem zb_77 (a b c : Vec) (i : Nat) (hi : i < 16) : bits .xor .u8 (if IntKind.u8.signed = true then -1 else IntKind.u8.max) ((mT a 8 i : Nat) : Int) = ((eW 77 a b c i % 256 : Nat) : Int) := by
 rw [show (if IntKind.u8.signed = true then (-1 : Int) else IntKind.u8.max) = ((255 : Nat) : Int) from rfl, u8_xor_nat _ _ (by decide) (mL a 8 i), Nat.mod_eq_of_lt (bitF_lt _ _ _ _ _ hi), ← not8 _ (mL a 8 i)]; rfl
theorem zb_79 (a b c : Vec) (i : Nat) (hi : i < 16) : bits .andNot .u8 ((mT a 8 i : Nat) : Int) ((mT b 8 i : Nat) : Int) = ((eW 79 a b c i % 256 : Nat) : Int) := by
 rw [u8_andNot_nat _ _ (mL a 8 i) (mL b 8 i), Nat.mod_eq_of_lt (bitF_lt _ _ _ _ _ hi)]; rfl
theorem zb_80 (a b c : Vec) (i : Nat) (hi : i < 16) : bits .or .u8 ((mT a 8 i : Nat) : Int) ((mT b 8 i : Nat) : Int) = ((eW 80 a b c i % 256 : Nat) : Int) := by
 rw [u8_or_nat _ _ (mL a 8 i) (mL b 8 i), Nat.mod_eq_of_lt (bitF_lt _ _ _ _ _ hi)]; rfl
theorem zb_81 (a b c : Vec) (i : Nat) (hi : i < 16) : bits .xor .u8 ((mT a 8 i : Nat) : Int) ((mT b 8 i : Nat) : Int) = ((eW 81 a b c i % 256 : Nat) : Int) := by
 rw [u8_xor_nat _ _ (mL a 8 i) (mL b 8 i), Nat.mod_eq_of_lt (bitF_lt _ _ _ _ _ hi)]; rfl
theorem zb_82 (a b c : Vec) (i : Nat) (hi : i < 16) : bits .or .u8 (bits .and .u8 ((mT a 8 i : Nat) : Int) ((mT c 8 i : Nat) : Int)) (bits .andNot .u8 ((mT b 8 i : Nat) : Int) ((mT c 8 i : Nat) : Int)) = ((eW 82 a b c i % 256 : Nat) : Int) := by
 have h1 : mT a 8 i < 256 := mL a 8 i
 have h2 : mT b 8 i < 256 := mL b 8 i
 have h3 : mT c 8 i < 256 := mL c 8 i
 rw [u8_and_nat _ _ h1 h3, u8_andNot_nat _ _ h2 h3, u8_or_nat _ _ (Nat.and_lt_two_pow _ (n := 8) h3) (Nat.and_lt_two_pow _ (n := 8) (show 255 - mT c 8 i < 2 ^ 8 by omega)), Nat.mod_eq_of_lt (bitF_lt _ _ _ _ _ hi)]; rfl
theorem sD (w : World) (t : TypeId) (A : Obj) : ((w.alloc A).alloc (.cells #[.int .u8 0, .int .u8 0, .int .u8 0, .int .u8 0, .int .u8 0, .int .u8 0, .int .u8 0, .int .u8 0, .int .u8 0, .int .u8 0, .int .u8 0, .int .u8 0, .int .u8 0, .int .u8 0, .int .u8 0, .int .u8 0] t)).heap[w.heap.size + 1]? = some (.cells (mY 0) t (0, 0)) := by
 rw [mU]; exact heap_alloc2_new _ _ _
end Go.Proofs.Ytcpfabkokgiepaa
namespace Go.Proofs.Ytcpfabkokgiepaa
open Go Go.RowKit Pl
theorem zG {σ : Type} {ops : Array Oper} {S : σ → World → Prop} {L : Act → Prop} {o : Oper} {rest : List Oper} {a a1 : Act} (hg : o.guard = none) (x : Operand) (ho : o.op = .load 45 x) (b off : Nat) (hx : a.eval x = .pointer (some ⟨b, off, none⟩)) (v : Vec) (h : ∀ D w, S D w → w.rangeAt b off (mY v).toList) (hr : vJ Try.prog ops S L rest a1) (ha : a.put o.dst (.agg (mY v)) = a1 := by simp only [Act.put, z5, z6, z7]; rfl) : vJ Try.prog ops S L (o :: rest) a := by
 subst ha
 exact do_loadM hg x ho b off hx v h hr
end Go.Proofs.Ytcpfabkokgiepaa
end
section
namespace Go.Proofs.Ytcpfabkokgiepaa
open Go.RowKit Pl
theorem bin_none (op : Int) (a b : Vec) (w : World) (h0 : wrap64 (wrap64 (wrap64 (op - 64768) - 156)) < 0 ∨ 4 ≤ wrap64 (wrap64 (wrap64 (op - 64768) - 156)))
 (h1 : wrap64 (wrap64 (wrap64 (op - 64768) - 156) - 32) < 0 ∨ 4 ≤ wrap64 (wrap64 (wrap64 (op - 64768) - 156) - 32)) (h2 : wrap64 (wrap64 (wrap64 (op - 64768) - 156) - 64) < 0 ∨ 4 ≤ wrap64 (wrap64 (wrap64 (op - 64768) - 156) - 64))
 (h3 : wrap64 (op - 64768) ≠ 101) (h4 : wrap64 (op - 64768) ≠ 102) (h5 : wrap64 (op - 64768) ≠ 133) (h6 : wrap64 (op - 64768) ≠ 134) (h7 : wrap64 (op - 64768) ≠ 130) (h8 : wrap64 (op - 64768) ≠ 186) :
 Calls Try.prog 22 #[.int .i64 op, .agg (mY a), .agg (mY b)] w fun e w' => e = .returned (.tuple #[.agg (mY 0), .int .i64 1]) ∧ Below w.heap.size w w' := by
 have H0 := Lib.hid h0
 have H1 := Lib.hid h1
 have H2 := Lib.hid h2
 clear h0 h1 h2
 go_enter Try.func22, Try.ntmps22
 go_wp2_with fail
 rw [← mU]
 obtain ⟨W, hW, hA, hB, hR, hO, hZ⟩ := zD w a b
 rw [← hW]
 clear hW
 refine (s5 _ _ _ H0.out H1.out H2.out).mono ?_
 rintro e w' ⟨rfl, rfl⟩
 go_wp2_with (first | (with_reducible refine mG rfl _ rfl _ rfl _ hO ?_) | (with_reducible refine mK rfl _ _ rfl (w.heap.size + 2) _ rfl rfl _ hR ?_; intro wq hq))
 exact bodyPost_ret (mS rfl _ _ (w.heap.size + 2) _ _ rfl rfl hq.this) rfl ⟨rfl, hZ.trans (hq.below.mono (by omega))⟩
theorem bin_any (op : Int) (a b : Vec) (w : World) (ho : -9223372036854775808 ≤ op ∧ op ≤ 9223372036854775807) :
 Calls Try.prog 22 #[.int .i64 op, .agg (mY a), .agg (mY b)] w fun e w' => e = .returned (.tuple #[.agg (mY (binW op a b).1), .int .i64 (binW op a b).2]) ∧ Below w.heap.size w w' := by
 unfold binW
 split
 ·exact bin_row8 op (op - 64924).toNat a b w (by omega) (by omega)
 split
 ·exact bin_row16 op (op - 64956).toNat a b w (by omega) (by omega)
 split
 ·exact bin_row32 op (op - 64988).toNat a b w (by omega) (by omega)
 split
 ·rename_i h; subst h; exact bin_narrow101 a b w
 split
 ·rename_i h; subst h; exact bin_narrow102 a b w
 split
 ·rename_i h; subst h; exact bin_narrow133 a b w
 split
 ·rename_i h; subst h; exact bin_narrow134 a b w
 split
 ·rename_i h; subst h; exact bin_q15 a b w
 split
 ·rename_i h; subst h; exact bin_dot a b w
 ·exact bin_none op a b w (by unfold wrap64; omega) (by unfold wrap64; omega) (by unfold wrap64; omega) (by unfold wrap64; omega) (by unfold wrap64; omega) (by unfold wrap64; omega) (by unfold wrap64; omega) (by unfold wrap64; omega) (by unfold wrap64; omega)
end Go.Proofs.Ytcpfabkokgiepaa
end
section
namespace Pl
theorem bit_test (v : Vec) (i : Nat) : ((((mT v 8 (i / 8) : Nat) : Int) / 2 ^ (i % 8)).tmod 2 == 1) = v.toNat.testBit i := by
 have h : v.toNat.testBit i = (mT v 8 (i / 8)).testBit (i % 8) := by
  unfold mT
  rw [mA, decide_eq_true (Nat.mod_lt _ (by decide)), Bool.true_and, Nat.div_add_mod]
 rw [h, Nat.testBit_eq_decide_div_mod_eq]
 generalize mT v 8 (i / 8) = x
 rw [show (2 : Int) ^ (i % 8) = ((2 ^ (i % 8) : Nat) : Int) by simp, ← Int.natCast_ediv]
 generalize x / 2 ^ (i % 8) = y
 rw [Int.tmod_eq_emod_of_nonneg (Int.natCast_nonneg _)]
 rw [Bool.eq_iff_iff]
 simp
 omega
def vP (R : Vec) (i : Nat) : Vec := mJ 0 1 (fun j => mT R 1 j) i
theorem get_one (v : Vec) (j : Nat) : mT v 1 j = if v.toNat.testBit j = true then 1 else 0 := by
 have h : (mT v 1 j).testBit 0 = v.toNat.testBit j := by
  unfold mT
  rw [mA]; simp
 have hl := mL v 1 j
 rw [← h, Nat.testBit_eq_decide_div_mod_eq]
 generalize mT v 1 j = x at *
 simp at hl ⊢
 split <;> omega
theorem lowB_get (R : Vec) (i j : Nat) (hi : i ≤ 128) : mT (vP R i) 1 j = if j < i then mT R 1 j else 0 := by
 unfold vP
 rw [pX _ _ _ _ _ hi]
 have := mL R 1 j
 split
 ·exact Nat.mod_eq_of_lt this
 ·simp [mT, tW]
theorem lowB_all (R : Vec) : vP R 128 = R := rL 1 128 (by decide) (by decide) fun j hj => by
 rw [lowB_get _ _ _ (by decide), if_pos hj]
theorem lowB_bit (R : Vec) (i j : Nat) (hi : i ≤ 128) : (vP R i).toNat.testBit j = (decide (j < i) && R.toNat.testBit j) := by
 have h := lowB_get R i j hi
 rw [get_one, get_one] at h
 by_cases hj : j < i
 ·simp only [hj, if_true] at h
  rw [decide_eq_true hj, Bool.true_and]
  cases h1 : (vP R i).toNat.testBit j <;> cases h2 : R.toNat.testBit j <;> simp [h1, h2] at h ⊢
 ·simp only [hj, if_false] at h
  rw [decide_eq_false hj, Bool.false_and]
  cases h1 : (vP R i).toNat.testBit j <;> simp [h1] at h ⊢
theorem fL (R : Vec) (i : Nat) (hi : i < 128) (h : R.toNat.testBit i = false) : vP R (i + 1) = vP R i := by
 apply fS
 intro j _
 rw [lowB_bit _ _ _ (by omega), lowB_bit _ _ _ (by omega)]
 by_cases e : j = i
 ·rw [e, h]; simp
 ·exact nB
theorem eD (R : Vec) (i : Nat) (hi : i < 128) (h : R.toNat.testBit i = true) : t7 (vP R i) 8 (i / 8) (mT (vP R i) 8 (i / 8) ||| 2 ^ (i % 8)) = vP R (i + 1) := by
 have hm := Nat.div_add_mod i 8
 have hr : i % 8 < 8 := Nat.mod_lt _ (by decide)
 apply fS
 intro j hj
 unfold t7
 rw [pQ _ _ _ _ _ (by omega), lowB_bit R (i + 1) j (by omega), lowB_bit R i j (by omega)]
 split
 ·rename_i h2
  rw [Nat.testBit_or, Nat.testBit_two_pow]
  unfold mT
  rw [mA, show 8 * (i / 8) + (j - 8 * (i / 8)) = j by omega, lowB_bit R i j (by omega), decide_eq_true (show j - 8 * (i / 8) < 8 by omega), Bool.true_and]
  by_cases e : j = i
  ·subst e
   rw [h, decide_eq_true (show j % 8 = j - 8 * (j / 8) by omega)]; simp
  ·rw [decide_eq_false (show ¬ (i % 8 = j - 8 * (i / 8)) by omega), Bool.or_false]
   exact nB
 ·rename_i h2
  exact nB
theorem dX (k : Nat) (a b c : Vec) (i : Nat) (hi : i < 128) (A B C : Bool) (ha : a.toNat.testBit i = A) (hb : b.toNat.testBit i = B) (hc : c.toNat.testBit i = C) :
 (uP k a b c).toNat.testBit i = if k = 77 then !A else if k = 78 then A && B else if k = 79 then A && !B else if k = 80 then A || B else if k = 81 then A != B else (A && C) || (B && !C) := by
 have hn : ∀ v : Vec, (~~~v).toNat.testBit i = !(v.toNat.testBit i) := fun v => by
  have := BitVec.getLsbD_not (x := v) (i := i)
  rw [show decide (i < 128) = true from decide_eq_true hi] at this
  simpa [BitVec.getLsbD] using this
 subst ha hb hc
 unfold uP
 split
 ·exact hn _
 split
 ·rw [BitVec.toNat_and, Nat.testBit_and]
 split
 ·rw [BitVec.toNat_and, Nat.testBit_and, hn]
 split
 ·rw [BitVec.toNat_or, Nat.testBit_or]
 split
 ·rw [BitVec.toNat_xor, Nat.testBit_xor]
 ·rw [BitVec.toNat_or, Nat.testBit_or, BitVec.toNat_and, Nat.testBit_and, BitVec.toNat_and, Nat.testBit_and, hn]
end Pl
namespace Go.Proofs.Ytcpfabkokgiepaa
open Go.RowKit Pl
set_option maxRecDepth 100000 in
theorem s0 (v : Vec) (i : Nat) (w : World) (hi : i < 128) :
 Calls Try.prog 84 #[.agg (mY v), .int .i64 (i : Int)] w fun e w' => e = .returned (.bool (v.toNat.testBit i)) ∧ Below w.heap.size w w' := by
 have e1 : (i : Int).tdiv 8 = ((i / 8 : Nat) : Int) := by rw [Int.tdiv_eq_ediv_of_nonneg (by omega)]; omega
 have e2 : (i : Int).tmod 8 = ((i % 8 : Nat) : Int) := by rw [Int.tmod_eq_emod_of_nonneg (by omega)]; omega
 have hc : (w.alloc (.cells (mY v) 45)).cell? ⟨w.heap.size, i / 8, none⟩ = some (.int .u8 ((mT v 8 (i / 8) : Nat) : Int)) := by
  rw [cell_of_row _ w.heap.size (i / 8) _ _ _ (heap_alloc_new _ _), getElem?_cells _ _ (by omega)]; rfl
 go_enter Try.func84, Try.ntmps84
 go_wp2_with fail
 go_ret
 exact ⟨congrArg (fun z => Ending.returned (.bool z)) (bit_test v i), (Below.refl _ _).alloc (Nat.le_refl _) _⟩
theorem or_byte (x r : Nat) (hx : x < 256) (hr : r < 8) : bits .or .u8 (x : Int) (IntKind.u8.wrap (1 * 2 ^ r)) = ((x ||| 2 ^ r : Nat) : Int) := by
 have hp : 2 ^ r < 256 := Nat.pow_lt_pow_right (by decide) hr
 have e : IntKind.u8.wrap (1 * 2 ^ r) = ((2 ^ r : Nat) : Int) := by
  rw [Int.one_mul, show (2 : Int) ^ r = ((2 ^ r : Nat) : Int) by simp]
  exact IntWalk.u8_in _ ⟨Int.natCast_nonneg _, by omega⟩
 rw [e]
 exact u8_or_nat _ _ hx hp
theorem or_byte2 (x r : Nat) (hx : x < 256) (hr : r < 8) : bits .or .u8 (x : Int) (2 ^ r % 256) = (((x ||| 2 ^ r) % 256 : Nat) : Int) := by
 have hp : 2 ^ r < 256 := Nat.pow_lt_pow_right (by decide) hr
 have h := or_byte x r hx hr
 rw [Int.one_mul] at h
 have e : IntKind.u8.wrap (2 ^ r) = (2 : Int) ^ r % 256 := by
  rw [show (2 : Int) ^ r = ((2 ^ r : Nat) : Int) by simp, IntWalk.u8_in _ ⟨Int.natCast_nonneg _, by omega⟩]
  exact (Int.emod_eq_of_lt (Int.natCast_nonneg _) (Int.ofNat_lt.2 hp)).symm
 rw [e] at h
 rw [h, Nat.mod_eq_of_lt (Nat.or_lt_two_pow (n := 8) hx hp)]
theorem St.eqX {W wr : World} {O : Nat} {X Y : Vec} (hs : St W O X wr) (h : Y = X) : St W O Y wr := by subst h; exact hs
theorem tM {W u : World} {B O o : Nat} {cs : List Value} (h : W.rangeAt B o cs) (hB : B < W.heap.size) (hne : B ≠ O) (hk : Kb W O u) : u.rangeAt B o cs := fun j v hv => by
 have := h j v hv
 unfold World.cell? at *
 rw [show u.heap[(⟨B, o + j, none⟩ : Addr).block]? = W.heap[(⟨B, o + j, none⟩ : Addr).block]? from hk.other B hB hne]
 exact this
theorem r7 {ops : Array Oper} {rest : List Oper} {o : Oper} {a : Act} {w : World} {Q : Exit → Act → World → Prop} (hw : Region.wanted o (yielded ops a.tmps) = true) (x : Operand) (ho : o.op = .load 45 x)
 (b off : Nat) (hx : a.eval x = .pointer (some ⟨b, off, none⟩)) (v : Vec) (hc : w.rangeAt b off (mY v).toList)
 (h : wpList Try.prog ops Q rest (a.put o.dst (.agg (mY v))) w) : wpList Try.prog ops Q (o :: rest) a w :=
 wpList_step fun K hK => by
  rw [if_pos hw]
  exact wp_load_mid _ x ho b off hx (mY v).toList _ hc r5 rfl (sY v) (hK _ _ (by simpa using h))
theorem pY {W u : World} {O : Nat} {X : Vec} (h : St W O X u) (i : Nat) (hi : i < 128) : u.cell? ⟨O, i / 8, none⟩ = some (.int .u8 ((mT X 8 (i / 8) : Nat) : Int)) := by
 rw [cell_of_row u O (i / 8) _ _ _ h.this, getElem?_cells _ _ (by omega)]; rfl
end Go.Proofs.Ytcpfabkokgiepaa
end
section
namespace Pl
theorem mskR_bit (w : Nat) (v : Vec) : ∀ n i, i < n → ((pV w v n).testBit i = decide (sgn w (mT v w i) < 0))
 | 0, i, h => by omega
 | n + 1, i, h => by
   unfold pV
   by_cases e : i = n
   ·subst e
    have hlt := rE w v i
    split
    ·rename_i hs
     rw [Nat.testBit_or, Nat.testBit_two_pow_self, Bool.or_true, decide_eq_true hs]
    ·rename_i hs
     rw [Nat.testBit_lt_two_pow hlt, decide_eq_false hs]
   ·have ih := mskR_bit w v n i (by omega)
    split
    ·rw [Nat.testBit_or, Nat.testBit_two_pow_of_ne (Ne.symm e), Bool.or_false, ih]
    ·exact ih
theorem fF (w : Nat) (v : Vec) : ∀ n, r6 w v n = if ∀ i, i < n → mT v w i ≠ 0 then 1 else 0
 | 0 => by rw [if_pos (fun i h => by omega)]; rfl
 | n + 1 => by
   unfold r6
   rw [fF w v n]
   by_cases h : mT v w n = 0
   ·rw [if_pos h, if_neg (fun hh => hh n (by omega) h)]
   ·rw [if_neg h]
    by_cases hh : ∀ i, i < n → mT v w i ≠ 0
    ·rw [if_pos hh, if_pos (fun i hi => by
      by_cases e : i = n
      ·subst e; exact h
      ·exact hh i (by omega))]
    ·rw [if_neg hh, if_neg (fun h2 => hh (fun i hi => h2 i (by omega)))]
end Pl
end
section
namespace Go.Proofs.Ytcpfabkokgiepaa
open Go.RowKit Pl
theorem pM (op : Int) (v : Vec) (w : World) :
 Calls Try.prog 77 #[.int .i64 op, .agg (mY v)] w fun e w' => e = .returned (.tuple #[.agg (mY (unW op v).1), .int .i64 (unW op v).2]) ∧ Below w.heap.size w w' := by
 unfold unW
 split
 ·have : op = 64903 ∨ op = 64904 ∨ op = 64905 ∨ op = 64906 := by omega
  rcases this with rfl | rfl | rfl | rfl
  ·exact run_row8_0 v w
  ·exact run_row8_1 v w
  ·exact run_row8_2 v w
  ·exact run_row8_3 v w
 split
 ·have : op = 64935 ∨ op = 64936 ∨ op = 64937 ∨ op = 64938 := by omega
  rcases this with rfl | rfl | rfl | rfl
  ·exact run_row16_0 v w
  ·exact run_row16_1 v w
  ·exact run_row16_2 v w
  ·exact run_row16_3 v w
 split
 ·have : op = 64967 ∨ op = 64968 ∨ op = 64969 ∨ op = 64970 := by omega
  rcases this with rfl | rfl | rfl | rfl
  ·exact run_row32_0 v w
  ·exact run_row32_1 v w
  ·exact run_row32_2 v w
  ·exact run_row32_3 v w
 split
 ·rename_i h; subst h; exact run_pair0 v w
 split
 ·rename_i h; subst h; exact run_pair1 v w
 split
 ·rename_i h; subst h; exact run_pair2 v w
 split
 ·rename_i h; subst h; exact run_pair3 v w
 ·exact run_none op v w (by omega)
end Go.Proofs.Ytcpfabkokgiepaa
end
section
namespace Go.Proofs.Ytcpfabkokgiepaa
open Go.RowKit Pl
set_option maxRecDepth 100000 in
theorem rbin_row8_0 (a b : Vec) (w : World) :
 Calls Try.prog 81 #[.int .i64 64924, .agg (mY a), .agg (mY b)] w fun e w' => e = .returned (.tuple #[.agg (mY (mJ 0 16 (tK 16 ((unW 64903 a).1) ((unW 64903 b).1)) 8)), .int .i64 0]) ∧ Below w.heap.size w w' := by
 go_enter Try.func81, Try.ntmps81
 go_wp2_with fail
 rw [← mU]
 obtain ⟨W, hW, hA, hB, hR, hO, hX, hY, hZ⟩ := pF w (.cells (mY a) 45) (.cells (mY b) 45) (.cells (mY 0) 45) (.cells (mY 0) 45) (.cells (mY 0) 45) (.cells (mY 0) 45)
 rw [← hW]
 clear hW
 refine wp_loop_rounds 1 ?_
 iterate 0 (rw [rounds_succ]; go_wp2_with fail)
 rw [rounds_succ]
 go_wp2_with (first | (with_reducible refine mG rfl _ rfl _ rfl _ hA ?_) | (go_at_call 77; (with_reducible refine (pM 64903 a _).mono ?_); rintro e u2 ⟨rfl, hb⟩; have z1 := hZ.trans (hb.mono (by have := mF hY; omega)); have kB1 := mV hB hb; have kR1 := mV hR hb; have kO1 := mV hO hb; have kX1 := mV hX hb; have kY1 := mV hY hb; clear hb) | (with_reducible refine mK rfl _ _ rfl (w.heap.size + 4) _ rfl rfl _ kX1 ?_; intro w3 h3; have z2 := z1.trans (h3.below.mono (by omega)); have kB2 := mR kB1 h3 (by omega); have kR2 := mR kR1 h3 (by omega); have kO2 := mR kO1 h3 (by omega); have kY2 := mR kY1 h3 (by omega); have kX2 := h3.this; clear h3 kB1 kR1 kO1 kX1 kY1 z1) | (with_reducible refine mG rfl _ rfl _ rfl _ kB2 ?_) | (go_at_call 77; (with_reducible refine (pM 64903 b _).mono ?_); rintro e u4 ⟨rfl, hb⟩; have z3 := z2.trans (hb.mono (by have := mF kY2; omega)); have kB3 := mV kB2 hb; have kR3 := mV kR2 hb; have kO3 := mV kO2 hb; have kX3 := mV kX2 hb; have kY3 := mV kY2 hb; clear hb kB2 kR2 kO2 kX2 kY2 z2) | (with_reducible refine mK rfl _ _ rfl (w.heap.size + 5) _ rfl rfl _ kY3 ?_; intro w5 h5; have z4 := z3.trans (h5.below.mono (by omega)); have kB4 := mR kB3 h5 (by omega); have kR4 := mR kR3 h5 (by omega); have kO4 := mR kO3 h5 (by omega); have kX4 := mR kX3 h5 (by omega); have kY4 := h5.this; clear h5 kB3 kR3 kO3 kX3 kY3 z3))
 refine wp_loop_rounds 1 ?_
 iterate 0 (rw [rounds_succ]; go_wp2_with fail)
 rw [rounds_succ]
 go_wp2_with fail
 clear kB4 hA hB hR hO hX hY hZ
 go_loopw [25] (fun jv wr => ∃ k : Nat, k ≤ 8 ∧ jv = .int .i64 k ∧ St w5 (w.heap.size + 3) (mJ 0 16 (tK 16 ((unW 64903 a).1) ((unW 64903 b).1)) k) wr) (fun jv _ => 8 - (intOf jv).toNat)
 case atStart => exact qR
 case round =>
  obtain ⟨k, hk, rfl, hs⟩ := hrel
  by_cases hlt : k < 8
  ·go_wp2_with fail
   refine mN (St w5 (w.heap.size + 3) (mJ 0 16 (tK 16 ((unW 64903 a).1) ((unW 64903 b).1)) k)) 13 (by kernel_rfl) (by kernel_rfl) hs.drew ?_
   simp only [zP, zN, zM, zL]
   (refine zK rfl _ rfl _ rfl _ (fun u hS => hS.this) ?_)
   repeat (refine z8 ?_)
   (refine zK rfl _ rfl _ rfl _ (fun u hS => hS.kb.get kX4 (by omega)) ?_)
   repeat (refine z8 ?_)
   (refine zZ (.int .u64 (mT ((unW 64903 a).1) 16 k : Nat)) 74 (c := fun u hS => by exact vA _ _ k _ rfl (by omega)) (r := ?_))
   (refine zK rfl _ rfl _ rfl _ (fun u hS => hS.kb.get kY4 (by omega)) ?_)
   repeat (refine z8 ?_)
   (refine zZ (.int .u64 (mT ((unW 64903 b).1) 16 k : Nat)) 74 (c := fun u hS => by exact vA _ _ k _ rfl (by omega)) (r := ?_))
   repeat (refine z8 ?_)
   (refine zZ (.agg (mY (t7 (mJ 0 16 (tK 16 ((unW 64903 a).1) ((unW 64903 b).1)) k) 16 k (tK 16 ((unW 64903 a).1) ((unW 64903 b).1) k)))) 68 (c := fun u hS => by exact v4 _ _ _ k (tK 16 ((unW 64903 a).1) ((unW 64903 b).1) k) _ rfl (vD _ _) (by omega) (Nat.mod_lt _ (by decide))) (r := ?_))
   refine mH (fun wr2 hr => ?_)
   go_wp2_with ((with_reducible refine mK rfl _ _ rfl (w.heap.size + 3) _ rfl rfl _ hr.this ?_; intro wy hy))
   go_roundw
   case rel => exact xD
   case measure => exact xL
  ·exact m0
set_option maxRecDepth 100000 in
theorem rbin_row16_0 (a b : Vec) (w : World) :
 Calls Try.prog 81 #[.int .i64 64956, .agg (mY a), .agg (mY b)] w fun e w' => e = .returned (.tuple #[.agg (mY (mJ 0 32 (tK 32 ((unW 64935 a).1) ((unW 64935 b).1)) 4)), .int .i64 0]) ∧ Below w.heap.size w w' := by
 go_enter Try.func81, Try.ntmps81
 go_wp2_with fail
 rw [← mU]
 obtain ⟨W, hW, hA, hB, hR, hO, hX, hY, hZ⟩ := pF w (.cells (mY a) 45) (.cells (mY b) 45) (.cells (mY 0) 45) (.cells (mY 0) 45) (.cells (mY 0) 45) (.cells (mY 0) 45)
 rw [← hW]
 clear hW
 refine wp_loop_rounds 2 ?_
 iterate 1 (rw [rounds_succ]; go_wp2_with fail)
 rw [rounds_succ]
 go_wp2_with (first | (with_reducible refine mG rfl _ rfl _ rfl _ hA ?_) | (go_at_call 77; (with_reducible refine (pM 64935 a _).mono ?_); rintro e u2 ⟨rfl, hb⟩; have z1 := hZ.trans (hb.mono (by have := mF hY; omega)); have kB1 := mV hB hb; have kR1 := mV hR hb; have kO1 := mV hO hb; have kX1 := mV hX hb; have kY1 := mV hY hb; clear hb) | (with_reducible refine mK rfl _ _ rfl (w.heap.size + 4) _ rfl rfl _ kX1 ?_; intro w3 h3; have z2 := z1.trans (h3.below.mono (by omega)); have kB2 := mR kB1 h3 (by omega); have kR2 := mR kR1 h3 (by omega); have kO2 := mR kO1 h3 (by omega); have kY2 := mR kY1 h3 (by omega); have kX2 := h3.this; clear h3 kB1 kR1 kO1 kX1 kY1 z1) | (with_reducible refine mG rfl _ rfl _ rfl _ kB2 ?_) | (go_at_call 77; (with_reducible refine (pM 64935 b _).mono ?_); rintro e u4 ⟨rfl, hb⟩; have z3 := z2.trans (hb.mono (by have := mF kY2; omega)); have kB3 := mV kB2 hb; have kR3 := mV kR2 hb; have kO3 := mV kO2 hb; have kX3 := mV kX2 hb; have kY3 := mV kY2 hb; clear hb kB2 kR2 kO2 kX2 kY2 z2) | (with_reducible refine mK rfl _ _ rfl (w.heap.size + 5) _ rfl rfl _ kY3 ?_; intro w5 h5; have z4 := z3.trans (h5.below.mono (by omega)); have kB4 := mR kB3 h5 (by omega); have kR4 := mR kR3 h5 (by omega); have kO4 := mR kO3 h5 (by omega); have kX4 := mR kX3 h5 (by omega); have kY4 := h5.this; clear h5 kB3 kR3 kO3 kX3 kY3 z3))
 refine wp_loop_rounds 2 ?_
 iterate 1 (rw [rounds_succ]; go_wp2_with fail)
 rw [rounds_succ]
 go_wp2_with fail
 clear kB4 hA hB hR hO hX hY hZ
 go_loopw [25] (fun jv wr => ∃ k : Nat, k ≤ 4 ∧ jv = .int .i64 k ∧ St w5 (w.heap.size + 3) (mJ 0 32 (tK 32 ((unW 64935 a).1) ((unW 64935 b).1)) k) wr) (fun jv _ => 4 - (intOf jv).toNat)
 case atStart => exact qR
 case round =>
  obtain ⟨k, hk, rfl, hs⟩ := hrel
  by_cases hlt : k < 4
  ·go_wp2_with fail
   refine mN (St w5 (w.heap.size + 3) (mJ 0 32 (tK 32 ((unW 64935 a).1) ((unW 64935 b).1)) k)) 13 (by kernel_rfl) (by kernel_rfl) hs.drew ?_
   simp only [zP, zN, zM, zL]
   (refine zK rfl _ rfl _ rfl _ (fun u hS => hS.this) ?_)
   repeat (refine z8 ?_)
   (refine zK rfl _ rfl _ rfl _ (fun u hS => hS.kb.get kX4 (by omega)) ?_)
   repeat (refine z8 ?_)
   (refine zZ (.int .u64 (mT ((unW 64935 a).1) 32 k : Nat)) 74 (c := fun u hS => by exact vL _ _ k _ rfl (by omega)) (r := ?_))
   (refine zK rfl _ rfl _ rfl _ (fun u hS => hS.kb.get kY4 (by omega)) ?_)
   repeat (refine z8 ?_)
   (refine zZ (.int .u64 (mT ((unW 64935 b).1) 32 k : Nat)) 74 (c := fun u hS => by exact vL _ _ k _ rfl (by omega)) (r := ?_))
   repeat (refine z8 ?_)
   (refine zZ (.agg (mY (t7 (mJ 0 32 (tK 32 ((unW 64935 a).1) ((unW 64935 b).1)) k) 32 k (tK 32 ((unW 64935 a).1) ((unW 64935 b).1) k)))) 68 (c := fun u hS => by exact vM _ _ _ k (tK 32 ((unW 64935 a).1) ((unW 64935 b).1) k) _ rfl (vD _ _) (by omega) (Nat.mod_lt _ (by decide))) (r := ?_))
   refine mH (fun wr2 hr => ?_)
   go_wp2_with ((with_reducible refine mK rfl _ _ rfl (w.heap.size + 3) _ rfl rfl _ hr.this ?_; intro wy hy))
   go_roundw
   case rel => exact xD
   case measure => exact xL
  ·exact m1
set_option maxRecDepth 100000 in
theorem rbin_row32_0 (a b : Vec) (w : World) :
 Calls Try.prog 81 #[.int .i64 64988, .agg (mY a), .agg (mY b)] w fun e w' => e = .returned (.tuple #[.agg (mY (mJ 0 64 (tK 64 ((unW 64967 a).1) ((unW 64967 b).1)) 2)), .int .i64 0]) ∧ Below w.heap.size w w' := by
 go_enter Try.func81, Try.ntmps81
 go_wp2_with fail
 rw [← mU]
 obtain ⟨W, hW, hA, hB, hR, hO, hX, hY, hZ⟩ := pF w (.cells (mY a) 45) (.cells (mY b) 45) (.cells (mY 0) 45) (.cells (mY 0) 45) (.cells (mY 0) 45) (.cells (mY 0) 45)
 rw [← hW]
 clear hW
 refine wp_loop_rounds 3 ?_
 iterate 2 (rw [rounds_succ]; go_wp2_with fail)
 rw [rounds_succ]
 go_wp2_with (first | (with_reducible refine mG rfl _ rfl _ rfl _ hA ?_) | (go_at_call 77; (with_reducible refine (pM 64967 a _).mono ?_); rintro e u2 ⟨rfl, hb⟩; have z1 := hZ.trans (hb.mono (by have := mF hY; omega)); have kB1 := mV hB hb; have kR1 := mV hR hb; have kO1 := mV hO hb; have kX1 := mV hX hb; have kY1 := mV hY hb; clear hb) | (with_reducible refine mK rfl _ _ rfl (w.heap.size + 4) _ rfl rfl _ kX1 ?_; intro w3 h3; have z2 := z1.trans (h3.below.mono (by omega)); have kB2 := mR kB1 h3 (by omega); have kR2 := mR kR1 h3 (by omega); have kO2 := mR kO1 h3 (by omega); have kY2 := mR kY1 h3 (by omega); have kX2 := h3.this; clear h3 kB1 kR1 kO1 kX1 kY1 z1) | (with_reducible refine mG rfl _ rfl _ rfl _ kB2 ?_) | (go_at_call 77; (with_reducible refine (pM 64967 b _).mono ?_); rintro e u4 ⟨rfl, hb⟩; have z3 := z2.trans (hb.mono (by have := mF kY2; omega)); have kB3 := mV kB2 hb; have kR3 := mV kR2 hb; have kO3 := mV kO2 hb; have kX3 := mV kX2 hb; have kY3 := mV kY2 hb; clear hb kB2 kR2 kO2 kX2 kY2 z2) | (with_reducible refine mK rfl _ _ rfl (w.heap.size + 5) _ rfl rfl _ kY3 ?_; intro w5 h5; have z4 := z3.trans (h5.below.mono (by omega)); have kB4 := mR kB3 h5 (by omega); have kR4 := mR kR3 h5 (by omega); have kO4 := mR kO3 h5 (by omega); have kX4 := mR kX3 h5 (by omega); have kY4 := h5.this; clear h5 kB3 kR3 kO3 kX3 kY3 z3))
 refine wp_loop_rounds 3 ?_
 iterate 2 (rw [rounds_succ]; go_wp2_with fail)
 rw [rounds_succ]
 go_wp2_with fail
 clear kB4 hA hB hR hO hX hY hZ
 go_loopw [25] (fun jv wr => ∃ k : Nat, k ≤ 2 ∧ jv = .int .i64 k ∧ St w5 (w.heap.size + 3) (mJ 0 64 (tK 64 ((unW 64967 a).1) ((unW 64967 b).1)) k) wr) (fun jv _ => 2 - (intOf jv).toNat)
 case atStart => exact qR
 case round =>
  obtain ⟨k, hk, rfl, hs⟩ := hrel
  by_cases hlt : k < 2
  ·go_wp2_with fail
   refine mN (St w5 (w.heap.size + 3) (mJ 0 64 (tK 64 ((unW 64967 a).1) ((unW 64967 b).1)) k)) 13 (by kernel_rfl) (by kernel_rfl) hs.drew ?_
   simp only [zP, zN, zM, zL]
   (refine zK rfl _ rfl _ rfl _ (fun u hS => hS.this) ?_)
   repeat (refine z8 ?_)
   (refine zK rfl _ rfl _ rfl _ (fun u hS => hS.kb.get kX4 (by omega)) ?_)
   repeat (refine z8 ?_)
   (refine zZ (.int .u64 (mT ((unW 64967 a).1) 64 k : Nat)) 74 (c := fun u hS => by exact vU _ _ k _ rfl (by omega)) (r := ?_))
   (refine zK rfl _ rfl _ rfl _ (fun u hS => hS.kb.get kY4 (by omega)) ?_)
   repeat (refine z8 ?_)
   (refine zZ (.int .u64 (mT ((unW 64967 b).1) 64 k : Nat)) 74 (c := fun u hS => by exact vU _ _ k _ rfl (by omega)) (r := ?_))
   repeat (refine z8 ?_)
   (refine zZ (.agg (mY (t7 (mJ 0 64 (tK 64 ((unW 64967 a).1) ((unW 64967 b).1)) k) 64 k (tK 64 ((unW 64967 a).1) ((unW 64967 b).1) k)))) 68 (c := fun u hS => by exact vN _ _ _ k (tK 64 ((unW 64967 a).1) ((unW 64967 b).1) k) _ rfl (vD _ _) (by omega) (Nat.mod_lt _ (by decide))) (r := ?_))
   refine mH (fun wr2 hr => ?_)
   go_wp2_with ((with_reducible refine mK rfl _ _ rfl (w.heap.size + 3) _ rfl rfl _ hr.this ?_; intro wy hy))
   go_roundw
   case rel => exact xD
   case measure => exact xL
  ·exact m3
end Go.Proofs.Ytcpfabkokgiepaa
end
