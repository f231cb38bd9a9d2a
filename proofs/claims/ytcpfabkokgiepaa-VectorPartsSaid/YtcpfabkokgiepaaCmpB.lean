/-
  compare.Bits.
-/
import Derived.Test.YtcpfabkokgiepaaCmpT
import Derived.Test.YtcpfabkokgiepaaNewTwo
set_option linter.unusedSimpArgs false
set_option linter.unusedVariables false
namespace Go.Proofs.Ytcpfabkokgiepaa
open Go.RowKit Pl
set_option linter.unusedVariables false
set_option linter.unusedSimpArgs false

theorem load_at {ops : Array Oper} {rest : List Oper} {o : Oper} {a : Act} {w : World} {Q : Exit → Act → World → Prop} (hgd : o.guard = none) (x : Operand) (ho : o.op = .load 45 x)
    (b off : Nat) (hx : a.eval x = .pointer (some ⟨b, off, none⟩)) (v : Vec) (hc : w.rangeAt b off (cells v).toList)
    (h : wpList Try.prog ops Q rest (a.put o.dst (.agg (cells v))) w) : wpList Try.prog ops Q (o :: rest) a w :=
  wpList_load_mid hgd _ x ho b off hx (cells v).toList _ hc vunder rfl (vsize v) (by simpa using h)
theorem do_loadM {σ : Type} {ops : Array Oper} {S : σ → World → Prop} {L : Act → Prop} {o : Oper} {rest : List Oper} {a : Act} (hg : o.guard = none) (x : Operand) (ho : o.op = .load 45 x) (b off : Nat)
    (hx : a.eval x = .pointer (some ⟨b, off, none⟩)) (v : Vec) (h : ∀ D w, S D w → w.rangeAt b off (cells v).toList)
    (hr : wpDA Try.prog ops S L rest (a.put o.dst (.agg (cells v)))) : wpDA Try.prog ops S L (o :: rest) a :=
  wpDA_here hg (fun D w hS => by
    unfold execOp
    simp only [ho, hx, Instr.loadAt, Instr.sureAddr, Sem.run_bind, Sem.run_pure, Result.andThen_ok, run_loadVar_mid w b off 45 (cells v).toList _ (h D w hS) vunder rfl (vsize v), Array.toArray_toList]) hr
theorem rangeAt_below {w u : World} {B o : Nat} {cs : List Value} (h : w.rangeAt B o cs) (hB : B < w.heap.size) (hz : Below w.heap.size w u) : u.rangeAt B o cs := fun j v hv => by
  rw [hz.cell (p := ⟨B, o + j, none⟩) hB]; exact h j v hv
end Go.Proofs.Ytcpfabkokgiepaa
namespace Pl
theorem bitsAt_and (u v : Vec) (s l : Nat) : bitsAt (u &&& v) s l = bitsAt u s l &&& bitsAt v s l := by
  apply Nat.eq_of_testBit_eq; intro j
  rw [Nat.testBit_and, testBit_bitsAt, testBit_bitsAt, testBit_bitsAt, BitVec.toNat_and, Nat.testBit_and]
  cases decide (j < l) <;> simp
theorem bitsAt_or (u v : Vec) (s l : Nat) : bitsAt (u ||| v) s l = bitsAt u s l ||| bitsAt v s l := by
  apply Nat.eq_of_testBit_eq; intro j
  rw [Nat.testBit_or, testBit_bitsAt, testBit_bitsAt, testBit_bitsAt, BitVec.toNat_or, Nat.testBit_or]
  cases decide (j < l) <;> simp
theorem bitsAt_xor (u v : Vec) (s l : Nat) : bitsAt (u ^^^ v) s l = bitsAt u s l ^^^ bitsAt v s l := by
  apply Nat.eq_of_testBit_eq; intro j
  rw [Nat.testBit_xor, testBit_bitsAt, testBit_bitsAt, testBit_bitsAt, BitVec.toNat_xor, Nat.testBit_xor]
  cases decide (j < l) <;> simp
theorem not8 (n : Nat) (h : n < 256) : 255 - n = 255 ^^^ n := by
  have : ∀ n : Fin 256, 255 - n.val = 255 ^^^ n.val := by decide +kernel
  exact this ⟨n, h⟩
theorem getN_not (v : Vec) (i : Nat) (h : i < 16) : getN (~~~v) 8 i = 255 - getN v 8 i := by
  rw [not8 _ (getN_lt v 8 i)]
  unfold getN
  apply Nat.eq_of_testBit_eq; intro j
  rw [Nat.testBit_xor, testBit_bitsAt, testBit_bitsAt, show (255 : Nat) = 2 ^ 8 - 1 from rfl, Nat.testBit_two_pow_sub_one]
  by_cases hj : j < 8
  · have : (~~~v).toNat.testBit (8 * i + j) = !(v.toNat.testBit (8 * i + j)) := by
      have := BitVec.getLsbD_not (x := v) (i := 8 * i + j)
      rw [show decide (8 * i + j < 128) = true from decide_eq_true (by omega)] at this
      simpa [BitVec.getLsbD] using this
    rw [this]; simp [hj]
  · simp [hj]
def bitF (k : Nat) (a b c : Vec) (i : Nat) : Nat :=
  if k = 77 then 255 - getN a 8 i else if k = 78 then getN a 8 i &&& getN b 8 i else if k = 79 then getN a 8 i &&& (255 - getN b 8 i) else if k = 80 then getN a 8 i ||| getN b 8 i else if k = 81 then getN a 8 i ^^^ getN b 8 i
  else (getN a 8 i &&& getN c 8 i) ||| (getN b 8 i &&& (255 - getN c 8 i))
def bitV (k : Nat) (a b c : Vec) : Vec :=
  if k = 77 then ~~~a else if k = 78 then a &&& b else if k = 79 then a &&& ~~~b else if k = 80 then a ||| b else if k = 81 then a ^^^ b else (a &&& c) ||| (b &&& ~~~c)
theorem bitF_get (k : Nat) (a b c : Vec) (i : Nat) (h : i < 16) : bitF k a b c i = getN (bitV k a b c) 8 i := by
  have ga : ∀ u v : Vec, getN (u &&& v) 8 i = getN u 8 i &&& getN v 8 i := fun u v => bitsAt_and u v _ _
  have go : ∀ u v : Vec, getN (u ||| v) 8 i = getN u 8 i ||| getN v 8 i := fun u v => bitsAt_or u v _ _
  have gx : ∀ u v : Vec, getN (u ^^^ v) 8 i = getN u 8 i ^^^ getN v 8 i := fun u v => bitsAt_xor u v _ _
  unfold bitF bitV
  split
  · rw [getN_not _ _ h]
  split
  · rw [ga]
  split
  · rw [ga, getN_not _ _ h]
  split
  · rw [go]
  split
  · rw [gx]
  · rw [go, ga, ga, getN_not _ _ h]
theorem bitF_lt (k : Nat) (a b c : Vec) (i : Nat) (h : i < 16) : bitF k a b c i < 256 := by
  rw [bitF_get k a b c i h]; exact getN_lt _ 8 i
theorem bit_all (k : Nat) (a b c : Vec) : buildOn a 8 (bitF k a b c) 16 = bitV k a b c :=
  lanes_ext 8 16 (by decide) (by decide) fun i h => by
    rw [getN_buildOn _ _ _ _ _ (by decide), if_pos h, bitF_get k a b c i h]
    exact Nat.mod_eq_of_lt (getN_lt _ 8 i)
end Pl
namespace Go.Proofs.Ytcpfabkokgiepaa
open Go.RowKit Pl
theorem index_vec (v : Vec) (i : Nat) (hi : i < 16) (u : World) : (Instr.index 45 (.agg (cells v)) (.int .i64 (i : Int))).run Try.prog u = .ok (.int .u8 ((getN v 8 i : Nat) : Int)) u := by
  have hu : (underlying 45).run Try.prog u = .ok (.array 16 5) u := by kernel_rfl
  have hz : (Go.sizeOf 5).run Try.prog u = .ok 1 u := by kernel_rfl
  have hi2 : (i : Int) < 16 := by omega
  have ha : (isAgg 5).run Try.prog u = .ok false u := by kernel_rfl
  unfold Instr.index
  simp [asIntOf, Sem.run_bind, hu, hz, ha, part, getElem?_cells v i hi, byteV, getN]
  exact fun h => absurd h (by omega)
theorem zb_78 (a b c : Vec) (i : Nat) (hi : i < 16) : bits .and .u8 ((getN a 8 i : Nat) : Int) ((getN b 8 i : Nat) : Int) = ((bitF 78 a b c i % 256 : Nat) : Int) := by
  rw [u8_and_nat _ _ (getN_lt a 8 i) (getN_lt b 8 i), Nat.mod_eq_of_lt (bitF_lt _ _ _ _ _ hi)]; rfl
theorem zb_77 (a b c : Vec) (i : Nat) (hi : i < 16) : bits .xor .u8 (if IntKind.u8.signed = true then -1 else IntKind.u8.max) ((getN a 8 i : Nat) : Int) = ((bitF 77 a b c i % 256 : Nat) : Int) := by
  rw [show (if IntKind.u8.signed = true then (-1 : Int) else IntKind.u8.max) = ((255 : Nat) : Int) from rfl, u8_xor_nat _ _ (by decide) (getN_lt a 8 i), Nat.mod_eq_of_lt (bitF_lt _ _ _ _ _ hi), ← not8 _ (getN_lt a 8 i)]; rfl
theorem zb_79 (a b c : Vec) (i : Nat) (hi : i < 16) : bits .andNot .u8 ((getN a 8 i : Nat) : Int) ((getN b 8 i : Nat) : Int) = ((bitF 79 a b c i % 256 : Nat) : Int) := by
  rw [u8_andNot_nat _ _ (getN_lt a 8 i) (getN_lt b 8 i), Nat.mod_eq_of_lt (bitF_lt _ _ _ _ _ hi)]; rfl
theorem zb_80 (a b c : Vec) (i : Nat) (hi : i < 16) : bits .or .u8 ((getN a 8 i : Nat) : Int) ((getN b 8 i : Nat) : Int) = ((bitF 80 a b c i % 256 : Nat) : Int) := by
  rw [u8_or_nat _ _ (getN_lt a 8 i) (getN_lt b 8 i), Nat.mod_eq_of_lt (bitF_lt _ _ _ _ _ hi)]; rfl
theorem zb_81 (a b c : Vec) (i : Nat) (hi : i < 16) : bits .xor .u8 ((getN a 8 i : Nat) : Int) ((getN b 8 i : Nat) : Int) = ((bitF 81 a b c i % 256 : Nat) : Int) := by
  rw [u8_xor_nat _ _ (getN_lt a 8 i) (getN_lt b 8 i), Nat.mod_eq_of_lt (bitF_lt _ _ _ _ _ hi)]; rfl
theorem zb_82 (a b c : Vec) (i : Nat) (hi : i < 16) : bits .or .u8 (bits .and .u8 ((getN a 8 i : Nat) : Int) ((getN c 8 i : Nat) : Int)) (bits .andNot .u8 ((getN b 8 i : Nat) : Int) ((getN c 8 i : Nat) : Int)) = ((bitF 82 a b c i % 256 : Nat) : Int) := by
  have h1 : getN a 8 i < 256 := getN_lt a 8 i
  have h2 : getN b 8 i < 256 := getN_lt b 8 i
  have h3 : getN c 8 i < 256 := getN_lt c 8 i
  rw [u8_and_nat _ _ h1 h3, u8_andNot_nat _ _ h2 h3, u8_or_nat _ _ (Nat.and_lt_two_pow _ (n := 8) h3) (Nat.and_lt_two_pow _ (n := 8) (show 255 - getN c 8 i < 2 ^ 8 by omega)), Nat.mod_eq_of_lt (bitF_lt _ _ _ _ _ hi)]; rfl
theorem heap_z1 (w : World) (t : TypeId) : (w.alloc (.cells #[.int .u8 0, .int .u8 0, .int .u8 0, .int .u8 0, .int .u8 0, .int .u8 0, .int .u8 0, .int .u8 0, .int .u8 0, .int .u8 0, .int .u8 0, .int .u8 0, .int .u8 0, .int .u8 0, .int .u8 0, .int .u8 0] t)).heap[w.heap.size]? = some (.cells (cells 0) t (0, 0)) := by
  rw [cells_zero]; exact heap_alloc_new _ _
theorem heap_zz (w : World) (t : TypeId) (A : Obj) : ((w.alloc A).alloc (.cells #[.int .u8 0, .int .u8 0, .int .u8 0, .int .u8 0, .int .u8 0, .int .u8 0, .int .u8 0, .int .u8 0, .int .u8 0, .int .u8 0, .int .u8 0, .int .u8 0, .int .u8 0, .int .u8 0, .int .u8 0, .int .u8 0] t)).heap[w.heap.size + 1]? = some (.cells (cells 0) t (0, 0)) := by
  rw [cells_zero]; exact heap_alloc2_new _ _ _

set_option maxRecDepth 100000 in
set_option maxHeartbeats 2000000 in
theorem bits_77 (a b c : Vec) (w : World) (B cap : Nat) (hlt : B < w.heap.size) (hA : w.rangeAt B 0 (cells a).toList) (hB : w.rangeAt B 0 (cells b).toList) (hC : w.rangeAt B 0 (cells c).toList) :
    Calls Try.prog 19 #[.int .i64 64845, .slice (some ⟨B, 0, none⟩) 1 cap] w fun e w' => e = .returned (.tuple #[.agg (cells (bitV 77 a b c)), .int .i64 0]) ∧ Below w.heap.size w w' := by
  have HA := Lib.hid hA
  have HB := Lib.hid hB
  have HC := Lib.hid hC
  clear hA hB hC
  have e0 : IntKind.i64.wrap 0 = 0 := IntWalk.i64_in _ (by decide)
  have e1 : IntKind.i64.wrap 1 = 1 := IntWalk.i64_in _ (by decide)
  have e2 : IntKind.i64.wrap 2 = 2 := IntWalk.i64_in _ (by decide)
  have hz : ∀ x, Below w.heap.size w (w.alloc x) := fun x => (Below.refl _ _).alloc (Nat.le_refl _) x
  go_enter Try.func19, Try.ntmps19
  go_wp2_with (first | (with_reducible refine load_at rfl _ rfl _ _ rfl _ (rangeAt_below HA.out hlt (hz _)) ?_) | (with_reducible refine store_vec rfl _ _ rfl (w.heap.size + 1) _ rfl rfl 0 (heap_zz w _ _) ?_; intro w1 g1))
  have z1 : Below w.heap.size w w1 := (((Below.refl w.heap.size w).alloc (Nat.le_refl _) _).alloc (by simp) _).trans (g1.below.mono (by omega))
  have hN : N2 w [(w.heap.size + 1, a), (w.heap.size, 0)] b (none, none, false) w1 := N2.start b z1 (by
    simp only [List.mem_cons, List.not_mem_nil, or_false, forall_eq_or_imp, forall_eq]
    exact ⟨g1.this, blk_sets (by rw [heap_alloc2_old, ← cells_zero]) g1 (by omega)⟩)
  clear g1 z1
  refine region_new2 w [(w.heap.size + 1, a), (w.heap.size, 0)] b 13 10 11 12 [0, 1, 2, 3, 4, 5, 6, 7, 8, 9] (by kernel_rfl) rfl rfl rfl rfl rfl rfl rfl rfl _ _ rfl (by decide) hN.drew ?_
  simp only [opsAt, List.getElem?_cons_zero, List.getElem?_cons_succ, List.drop_succ_cons, List.drop_zero]
  repeat (refine wpDA_pure (v := ?_) rfl (fun u => ?_) ?_; rotate_left; (focus (go_simp; (try with_reducible rfl); done)); simp only [Act.put, List.setIfInBounds_toArray, List.set_cons_zero, List.set_cons_succ])
  (refine do_loadM rfl _ rfl _ _ rfl _ (fun D u hS => rangeAt_below HB.out hlt hS.bel) ?_; simp only [Act.put, List.setIfInBounds_toArray, List.set_cons_zero, List.set_cons_succ])
  repeat (refine wpDA_pure (v := ?_) rfl (fun u => ?_) ?_; rotate_left; (focus (go_simp; (try with_reducible rfl); done)); simp only [Act.put, List.setIfInBounds_toArray, List.set_cons_zero, List.set_cons_succ])
  (refine do_loadM rfl _ rfl _ _ rfl _ (fun D u hS => rangeAt_below HC.out hlt hS.bel) ?_; simp only [Act.put, List.setIfInBounds_toArray, List.set_cons_zero, List.set_cons_succ])
  repeat (refine wpDA_pure (v := ?_) rfl (fun u => ?_) ?_; rotate_left; (focus (go_simp; (try with_reducible rfl); done)); simp only [Act.put, List.setIfInBounds_toArray, List.set_cons_zero, List.set_cons_succ])
  refine wpDA_nil (fun x y => ⟨rfl, rfl, fun wx hx => ?_⟩)
  clear hN
  obtain ⟨hb1, hb2, hb3⟩ := hx.nb x rfl
  obtain ⟨hc1, hc2, hc3⟩ := hx.nc y rfl
  have hbc := hx.ne x y rfl rfl
  have hA1 := hx.hold (w.heap.size + 1, a) (by simp)
  have hR1 := hx.hold (w.heap.size, 0) (by simp)
  have hZ := hx.bel
  have na := hb3 (w.heap.size + 1, a) (by simp)
  have ma := hc3 (w.heap.size + 1, a) (by simp)
  have nr := hb3 (w.heap.size, 0) (by simp)
  have mr := hc3 (w.heap.size, 0) (by simp)
  clear hx hb3 hc3
  unfold ptr
  simp only [Act.put, List.setIfInBounds_toArray, List.set_cons_zero, List.set_cons_succ]
  go_wp2_with (first | (with_reducible refine store_vec rfl _ _ rfl y _ rfl rfl 0 hc1 ?_; intro w2 g2) | (with_reducible refine load_vec rfl _ rfl _ rfl _ (blk_sets hA1 g2 ma) ?_))
  have kA := blk_sets hA1 g2 ma
  have kR := blk_sets hR1 g2 mr
  have kB := blk_sets hb1 g2 hbc
  have kC := g2.this
  have kZ := hZ.trans (g2.below.mono hc2)
  clear g2 hc1 hb1 hA1 hR1 hZ mr hbc hc2 hb2 hz
  obtain ⟨W, hW⟩ : ∃ W, W = w2 := ⟨_, rfl⟩
  rw [← hW] at kA kR kB kC kZ ⊢
  clear hW w2
  simp only [cond_true] at kB
  go_loopw [48] (fun j wr => ∃ i : Nat, i ≤ 16 ∧ j = .int .i64 i ∧ St W (w.heap.size + 1) (buildOn a 8 (bitF 77 a b c) i) wr) (fun j _ => 16 - (intOf j).toNat)
  case atStart => exact ⟨0, Nat.zero_le _, rfl, St.start kA⟩
  case round =>
    obtain ⟨i, hi, rfl, hs⟩ := hrel
    by_cases hli : i < 16
    · have cB : wr.cell? ⟨x, i, none⟩ = some (.int .u8 ((getN b 8 i : Nat) : Int)) := by
        have := hs.kb.get kB (by omega)
        rw [cell_of_row wr x i _ _ _ this, getElem?_cells _ _ (by omega)]; rfl
      have cC : wr.cell? ⟨y, i, none⟩ = some (.int .u8 ((getN c 8 i : Nat) : Int)) := by
        have := hs.kb.get kC (by omega)
        rw [cell_of_row wr y i _ _ _ this, getElem?_cells _ _ (by omega)]; rfl
      have cI := index_vec a i hli
      go_wp2_with (refine store_byte rfl _ _ rfl (w.heap.size + 1) i _ (bitF 77 a b c i) rfl rfl _ hs.this hli (zb_77 a b c i hli) ?_; intro wy hy)
      go_roundw
      case rel => first | exact ⟨i + 1, by omega, by go_num, hs.sets hy⟩ | ((repeat apply Exists.intro); exact ⟨⟨i + 1, by omega, by go_num, hs.sets hy⟩, rfl⟩)
      case measure => (simp [intOf] <;> omega)
    · obtain rfl : i = 16 := by omega
      have hR' := hs.kb.get kR (by omega)
      go_wp2_with (first | (with_reducible refine load_vec rfl _ rfl _ rfl _ hs.this ?_) | (with_reducible refine store_vec rfl _ _ rfl w.heap.size _ rfl rfl _ hR' ?_; intro wq hq))
      refine bodyPost_ret (results_vec_tmp rfl _ _ w.heap.size _ _ rfl rfl hq.this) rfl ⟨?_, (hs.kb.to_below kZ (by omega)).trans (hq.below.mono (by omega))⟩
      rw [bit_all]; rfl

set_option maxRecDepth 100000 in
set_option maxHeartbeats 2000000 in
theorem bits_78 (a b c : Vec) (w : World) (B cap : Nat) (hlt : B < w.heap.size) (hA : w.rangeAt B 0 (cells a).toList) (hB : w.rangeAt B 16 (cells b).toList) (hC : w.rangeAt B 16 (cells c).toList) :
    Calls Try.prog 19 #[.int .i64 64846, .slice (some ⟨B, 0, none⟩) 2 cap] w fun e w' => e = .returned (.tuple #[.agg (cells (bitV 78 a b c)), .int .i64 0]) ∧ Below w.heap.size w w' := by
  have HA := Lib.hid hA
  have HB := Lib.hid hB
  have HC := Lib.hid hC
  clear hA hB hC
  have e0 : IntKind.i64.wrap 0 = 0 := IntWalk.i64_in _ (by decide)
  have e1 : IntKind.i64.wrap 1 = 1 := IntWalk.i64_in _ (by decide)
  have e2 : IntKind.i64.wrap 2 = 2 := IntWalk.i64_in _ (by decide)
  have hz : ∀ x, Below w.heap.size w (w.alloc x) := fun x => (Below.refl _ _).alloc (Nat.le_refl _) x
  go_enter Try.func19, Try.ntmps19
  go_wp2_with (first | (with_reducible refine load_at rfl _ rfl _ _ rfl _ (rangeAt_below HA.out hlt (hz _)) ?_) | (with_reducible refine store_vec rfl _ _ rfl (w.heap.size + 1) _ rfl rfl 0 (heap_zz w _ _) ?_; intro w1 g1))
  have z1 : Below w.heap.size w w1 := (((Below.refl w.heap.size w).alloc (Nat.le_refl _) _).alloc (by simp) _).trans (g1.below.mono (by omega))
  have hN : N2 w [(w.heap.size + 1, a), (w.heap.size, 0)] b (none, none, false) w1 := N2.start b z1 (by
    simp only [List.mem_cons, List.not_mem_nil, or_false, forall_eq_or_imp, forall_eq]
    exact ⟨g1.this, blk_sets (by rw [heap_alloc2_old, ← cells_zero]) g1 (by omega)⟩)
  clear g1 z1
  refine region_new2 w [(w.heap.size + 1, a), (w.heap.size, 0)] b 13 10 11 12 [0, 1, 2, 3, 4, 5, 6, 7, 8, 9] (by kernel_rfl) rfl rfl rfl rfl rfl rfl rfl rfl _ _ rfl (by decide) hN.drew ?_
  simp only [opsAt, List.getElem?_cons_zero, List.getElem?_cons_succ, List.drop_succ_cons, List.drop_zero]
  repeat (refine wpDA_pure (v := ?_) rfl (fun u => ?_) ?_; rotate_left; (focus (go_simp; (try with_reducible rfl); done)); simp only [Act.put, List.setIfInBounds_toArray, List.set_cons_zero, List.set_cons_succ])
  (refine do_loadM rfl _ rfl _ _ rfl _ (fun D u hS => rangeAt_below HB.out hlt hS.bel) ?_; simp only [Act.put, List.setIfInBounds_toArray, List.set_cons_zero, List.set_cons_succ])
  repeat (refine wpDA_pure (v := ?_) rfl (fun u => ?_) ?_; rotate_left; (focus (go_simp; (try with_reducible rfl); done)); simp only [Act.put, List.setIfInBounds_toArray, List.set_cons_zero, List.set_cons_succ])
  (refine do_loadM rfl _ rfl _ _ rfl _ (fun D u hS => rangeAt_below HC.out hlt hS.bel) ?_; simp only [Act.put, List.setIfInBounds_toArray, List.set_cons_zero, List.set_cons_succ])
  repeat (refine wpDA_pure (v := ?_) rfl (fun u => ?_) ?_; rotate_left; (focus (go_simp; (try with_reducible rfl); done)); simp only [Act.put, List.setIfInBounds_toArray, List.set_cons_zero, List.set_cons_succ])
  refine wpDA_nil (fun x y => ⟨rfl, rfl, fun wx hx => ?_⟩)
  clear hN
  obtain ⟨hb1, hb2, hb3⟩ := hx.nb x rfl
  obtain ⟨hc1, hc2, hc3⟩ := hx.nc y rfl
  have hbc := hx.ne x y rfl rfl
  have hA1 := hx.hold (w.heap.size + 1, a) (by simp)
  have hR1 := hx.hold (w.heap.size, 0) (by simp)
  have hZ := hx.bel
  have na := hb3 (w.heap.size + 1, a) (by simp)
  have ma := hc3 (w.heap.size + 1, a) (by simp)
  have nr := hb3 (w.heap.size, 0) (by simp)
  have mr := hc3 (w.heap.size, 0) (by simp)
  clear hx hb3 hc3
  unfold ptr
  simp only [Act.put, List.setIfInBounds_toArray, List.set_cons_zero, List.set_cons_succ]
  go_wp2_with (first | (with_reducible refine store_vec rfl _ _ rfl y _ rfl rfl 0 hc1 ?_; intro w2 g2) | (with_reducible refine load_vec rfl _ rfl _ rfl _ (blk_sets hA1 g2 ma) ?_))
  have kA := blk_sets hA1 g2 ma
  have kR := blk_sets hR1 g2 mr
  have kB := blk_sets hb1 g2 hbc
  have kC := g2.this
  have kZ := hZ.trans (g2.below.mono hc2)
  clear g2 hc1 hb1 hA1 hR1 hZ mr hbc hc2 hb2 hz
  obtain ⟨W, hW⟩ : ∃ W, W = w2 := ⟨_, rfl⟩
  rw [← hW] at kA kR kB kC kZ ⊢
  clear hW w2
  simp only [cond_true] at kB
  go_loopw [48] (fun j wr => ∃ i : Nat, i ≤ 16 ∧ j = .int .i64 i ∧ St W (w.heap.size + 1) (buildOn a 8 (bitF 78 a b c) i) wr) (fun j _ => 16 - (intOf j).toNat)
  case atStart => exact ⟨0, Nat.zero_le _, rfl, St.start kA⟩
  case round =>
    obtain ⟨i, hi, rfl, hs⟩ := hrel
    by_cases hli : i < 16
    · have cB : wr.cell? ⟨x, i, none⟩ = some (.int .u8 ((getN b 8 i : Nat) : Int)) := by
        have := hs.kb.get kB (by omega)
        rw [cell_of_row wr x i _ _ _ this, getElem?_cells _ _ (by omega)]; rfl
      have cC : wr.cell? ⟨y, i, none⟩ = some (.int .u8 ((getN c 8 i : Nat) : Int)) := by
        have := hs.kb.get kC (by omega)
        rw [cell_of_row wr y i _ _ _ this, getElem?_cells _ _ (by omega)]; rfl
      have cI := index_vec a i hli
      go_wp2_with (refine store_byte rfl _ _ rfl (w.heap.size + 1) i _ (bitF 78 a b c i) rfl rfl _ hs.this hli (zb_78 a b c i hli) ?_; intro wy hy)
      go_roundw
      case rel => first | exact ⟨i + 1, by omega, by go_num, hs.sets hy⟩ | ((repeat apply Exists.intro); exact ⟨⟨i + 1, by omega, by go_num, hs.sets hy⟩, rfl⟩)
      case measure => (simp [intOf] <;> omega)
    · obtain rfl : i = 16 := by omega
      have hR' := hs.kb.get kR (by omega)
      go_wp2_with (first | (with_reducible refine load_vec rfl _ rfl _ rfl _ hs.this ?_) | (with_reducible refine store_vec rfl _ _ rfl w.heap.size _ rfl rfl _ hR' ?_; intro wq hq))
      refine bodyPost_ret (results_vec_tmp rfl _ _ w.heap.size _ _ rfl rfl hq.this) rfl ⟨?_, (hs.kb.to_below kZ (by omega)).trans (hq.below.mono (by omega))⟩
      rw [bit_all]; rfl

set_option maxRecDepth 100000 in
set_option maxHeartbeats 2000000 in
theorem bits_79 (a b c : Vec) (w : World) (B cap : Nat) (hlt : B < w.heap.size) (hA : w.rangeAt B 0 (cells a).toList) (hB : w.rangeAt B 16 (cells b).toList) (hC : w.rangeAt B 16 (cells c).toList) :
    Calls Try.prog 19 #[.int .i64 64847, .slice (some ⟨B, 0, none⟩) 2 cap] w fun e w' => e = .returned (.tuple #[.agg (cells (bitV 79 a b c)), .int .i64 0]) ∧ Below w.heap.size w w' := by
  have HA := Lib.hid hA
  have HB := Lib.hid hB
  have HC := Lib.hid hC
  clear hA hB hC
  have e0 : IntKind.i64.wrap 0 = 0 := IntWalk.i64_in _ (by decide)
  have e1 : IntKind.i64.wrap 1 = 1 := IntWalk.i64_in _ (by decide)
  have e2 : IntKind.i64.wrap 2 = 2 := IntWalk.i64_in _ (by decide)
  have hz : ∀ x, Below w.heap.size w (w.alloc x) := fun x => (Below.refl _ _).alloc (Nat.le_refl _) x
  go_enter Try.func19, Try.ntmps19
  go_wp2_with (first | (with_reducible refine load_at rfl _ rfl _ _ rfl _ (rangeAt_below HA.out hlt (hz _)) ?_) | (with_reducible refine store_vec rfl _ _ rfl (w.heap.size + 1) _ rfl rfl 0 (heap_zz w _ _) ?_; intro w1 g1))
  have z1 : Below w.heap.size w w1 := (((Below.refl w.heap.size w).alloc (Nat.le_refl _) _).alloc (by simp) _).trans (g1.below.mono (by omega))
  have hN : N2 w [(w.heap.size + 1, a), (w.heap.size, 0)] b (none, none, false) w1 := N2.start b z1 (by
    simp only [List.mem_cons, List.not_mem_nil, or_false, forall_eq_or_imp, forall_eq]
    exact ⟨g1.this, blk_sets (by rw [heap_alloc2_old, ← cells_zero]) g1 (by omega)⟩)
  clear g1 z1
  refine region_new2 w [(w.heap.size + 1, a), (w.heap.size, 0)] b 13 10 11 12 [0, 1, 2, 3, 4, 5, 6, 7, 8, 9] (by kernel_rfl) rfl rfl rfl rfl rfl rfl rfl rfl _ _ rfl (by decide) hN.drew ?_
  simp only [opsAt, List.getElem?_cons_zero, List.getElem?_cons_succ, List.drop_succ_cons, List.drop_zero]
  repeat (refine wpDA_pure (v := ?_) rfl (fun u => ?_) ?_; rotate_left; (focus (go_simp; (try with_reducible rfl); done)); simp only [Act.put, List.setIfInBounds_toArray, List.set_cons_zero, List.set_cons_succ])
  (refine do_loadM rfl _ rfl _ _ rfl _ (fun D u hS => rangeAt_below HB.out hlt hS.bel) ?_; simp only [Act.put, List.setIfInBounds_toArray, List.set_cons_zero, List.set_cons_succ])
  repeat (refine wpDA_pure (v := ?_) rfl (fun u => ?_) ?_; rotate_left; (focus (go_simp; (try with_reducible rfl); done)); simp only [Act.put, List.setIfInBounds_toArray, List.set_cons_zero, List.set_cons_succ])
  (refine do_loadM rfl _ rfl _ _ rfl _ (fun D u hS => rangeAt_below HC.out hlt hS.bel) ?_; simp only [Act.put, List.setIfInBounds_toArray, List.set_cons_zero, List.set_cons_succ])
  repeat (refine wpDA_pure (v := ?_) rfl (fun u => ?_) ?_; rotate_left; (focus (go_simp; (try with_reducible rfl); done)); simp only [Act.put, List.setIfInBounds_toArray, List.set_cons_zero, List.set_cons_succ])
  refine wpDA_nil (fun x y => ⟨rfl, rfl, fun wx hx => ?_⟩)
  clear hN
  obtain ⟨hb1, hb2, hb3⟩ := hx.nb x rfl
  obtain ⟨hc1, hc2, hc3⟩ := hx.nc y rfl
  have hbc := hx.ne x y rfl rfl
  have hA1 := hx.hold (w.heap.size + 1, a) (by simp)
  have hR1 := hx.hold (w.heap.size, 0) (by simp)
  have hZ := hx.bel
  have na := hb3 (w.heap.size + 1, a) (by simp)
  have ma := hc3 (w.heap.size + 1, a) (by simp)
  have nr := hb3 (w.heap.size, 0) (by simp)
  have mr := hc3 (w.heap.size, 0) (by simp)
  clear hx hb3 hc3
  unfold ptr
  simp only [Act.put, List.setIfInBounds_toArray, List.set_cons_zero, List.set_cons_succ]
  go_wp2_with (first | (with_reducible refine store_vec rfl _ _ rfl y _ rfl rfl 0 hc1 ?_; intro w2 g2) | (with_reducible refine load_vec rfl _ rfl _ rfl _ (blk_sets hA1 g2 ma) ?_))
  have kA := blk_sets hA1 g2 ma
  have kR := blk_sets hR1 g2 mr
  have kB := blk_sets hb1 g2 hbc
  have kC := g2.this
  have kZ := hZ.trans (g2.below.mono hc2)
  clear g2 hc1 hb1 hA1 hR1 hZ mr hbc hc2 hb2 hz
  obtain ⟨W, hW⟩ : ∃ W, W = w2 := ⟨_, rfl⟩
  rw [← hW] at kA kR kB kC kZ ⊢
  clear hW w2
  simp only [cond_true] at kB
  go_loopw [48] (fun j wr => ∃ i : Nat, i ≤ 16 ∧ j = .int .i64 i ∧ St W (w.heap.size + 1) (buildOn a 8 (bitF 79 a b c) i) wr) (fun j _ => 16 - (intOf j).toNat)
  case atStart => exact ⟨0, Nat.zero_le _, rfl, St.start kA⟩
  case round =>
    obtain ⟨i, hi, rfl, hs⟩ := hrel
    by_cases hli : i < 16
    · have cB : wr.cell? ⟨x, i, none⟩ = some (.int .u8 ((getN b 8 i : Nat) : Int)) := by
        have := hs.kb.get kB (by omega)
        rw [cell_of_row wr x i _ _ _ this, getElem?_cells _ _ (by omega)]; rfl
      have cC : wr.cell? ⟨y, i, none⟩ = some (.int .u8 ((getN c 8 i : Nat) : Int)) := by
        have := hs.kb.get kC (by omega)
        rw [cell_of_row wr y i _ _ _ this, getElem?_cells _ _ (by omega)]; rfl
      have cI := index_vec a i hli
      go_wp2_with (refine store_byte rfl _ _ rfl (w.heap.size + 1) i _ (bitF 79 a b c i) rfl rfl _ hs.this hli (zb_79 a b c i hli) ?_; intro wy hy)
      go_roundw
      case rel => first | exact ⟨i + 1, by omega, by go_num, hs.sets hy⟩ | ((repeat apply Exists.intro); exact ⟨⟨i + 1, by omega, by go_num, hs.sets hy⟩, rfl⟩)
      case measure => (simp [intOf] <;> omega)
    · obtain rfl : i = 16 := by omega
      have hR' := hs.kb.get kR (by omega)
      go_wp2_with (first | (with_reducible refine load_vec rfl _ rfl _ rfl _ hs.this ?_) | (with_reducible refine store_vec rfl _ _ rfl w.heap.size _ rfl rfl _ hR' ?_; intro wq hq))
      refine bodyPost_ret (results_vec_tmp rfl _ _ w.heap.size _ _ rfl rfl hq.this) rfl ⟨?_, (hs.kb.to_below kZ (by omega)).trans (hq.below.mono (by omega))⟩
      rw [bit_all]; rfl

set_option maxRecDepth 100000 in
set_option maxHeartbeats 2000000 in
theorem bits_80 (a b c : Vec) (w : World) (B cap : Nat) (hlt : B < w.heap.size) (hA : w.rangeAt B 0 (cells a).toList) (hB : w.rangeAt B 16 (cells b).toList) (hC : w.rangeAt B 16 (cells c).toList) :
    Calls Try.prog 19 #[.int .i64 64848, .slice (some ⟨B, 0, none⟩) 2 cap] w fun e w' => e = .returned (.tuple #[.agg (cells (bitV 80 a b c)), .int .i64 0]) ∧ Below w.heap.size w w' := by
  have HA := Lib.hid hA
  have HB := Lib.hid hB
  have HC := Lib.hid hC
  clear hA hB hC
  have e0 : IntKind.i64.wrap 0 = 0 := IntWalk.i64_in _ (by decide)
  have e1 : IntKind.i64.wrap 1 = 1 := IntWalk.i64_in _ (by decide)
  have e2 : IntKind.i64.wrap 2 = 2 := IntWalk.i64_in _ (by decide)
  have hz : ∀ x, Below w.heap.size w (w.alloc x) := fun x => (Below.refl _ _).alloc (Nat.le_refl _) x
  go_enter Try.func19, Try.ntmps19
  go_wp2_with (first | (with_reducible refine load_at rfl _ rfl _ _ rfl _ (rangeAt_below HA.out hlt (hz _)) ?_) | (with_reducible refine store_vec rfl _ _ rfl (w.heap.size + 1) _ rfl rfl 0 (heap_zz w _ _) ?_; intro w1 g1))
  have z1 : Below w.heap.size w w1 := (((Below.refl w.heap.size w).alloc (Nat.le_refl _) _).alloc (by simp) _).trans (g1.below.mono (by omega))
  have hN : N2 w [(w.heap.size + 1, a), (w.heap.size, 0)] b (none, none, false) w1 := N2.start b z1 (by
    simp only [List.mem_cons, List.not_mem_nil, or_false, forall_eq_or_imp, forall_eq]
    exact ⟨g1.this, blk_sets (by rw [heap_alloc2_old, ← cells_zero]) g1 (by omega)⟩)
  clear g1 z1
  refine region_new2 w [(w.heap.size + 1, a), (w.heap.size, 0)] b 13 10 11 12 [0, 1, 2, 3, 4, 5, 6, 7, 8, 9] (by kernel_rfl) rfl rfl rfl rfl rfl rfl rfl rfl _ _ rfl (by decide) hN.drew ?_
  simp only [opsAt, List.getElem?_cons_zero, List.getElem?_cons_succ, List.drop_succ_cons, List.drop_zero]
  repeat (refine wpDA_pure (v := ?_) rfl (fun u => ?_) ?_; rotate_left; (focus (go_simp; (try with_reducible rfl); done)); simp only [Act.put, List.setIfInBounds_toArray, List.set_cons_zero, List.set_cons_succ])
  (refine do_loadM rfl _ rfl _ _ rfl _ (fun D u hS => rangeAt_below HB.out hlt hS.bel) ?_; simp only [Act.put, List.setIfInBounds_toArray, List.set_cons_zero, List.set_cons_succ])
  repeat (refine wpDA_pure (v := ?_) rfl (fun u => ?_) ?_; rotate_left; (focus (go_simp; (try with_reducible rfl); done)); simp only [Act.put, List.setIfInBounds_toArray, List.set_cons_zero, List.set_cons_succ])
  (refine do_loadM rfl _ rfl _ _ rfl _ (fun D u hS => rangeAt_below HC.out hlt hS.bel) ?_; simp only [Act.put, List.setIfInBounds_toArray, List.set_cons_zero, List.set_cons_succ])
  repeat (refine wpDA_pure (v := ?_) rfl (fun u => ?_) ?_; rotate_left; (focus (go_simp; (try with_reducible rfl); done)); simp only [Act.put, List.setIfInBounds_toArray, List.set_cons_zero, List.set_cons_succ])
  refine wpDA_nil (fun x y => ⟨rfl, rfl, fun wx hx => ?_⟩)
  clear hN
  obtain ⟨hb1, hb2, hb3⟩ := hx.nb x rfl
  obtain ⟨hc1, hc2, hc3⟩ := hx.nc y rfl
  have hbc := hx.ne x y rfl rfl
  have hA1 := hx.hold (w.heap.size + 1, a) (by simp)
  have hR1 := hx.hold (w.heap.size, 0) (by simp)
  have hZ := hx.bel
  have na := hb3 (w.heap.size + 1, a) (by simp)
  have ma := hc3 (w.heap.size + 1, a) (by simp)
  have nr := hb3 (w.heap.size, 0) (by simp)
  have mr := hc3 (w.heap.size, 0) (by simp)
  clear hx hb3 hc3
  unfold ptr
  simp only [Act.put, List.setIfInBounds_toArray, List.set_cons_zero, List.set_cons_succ]
  go_wp2_with (first | (with_reducible refine store_vec rfl _ _ rfl y _ rfl rfl 0 hc1 ?_; intro w2 g2) | (with_reducible refine load_vec rfl _ rfl _ rfl _ (blk_sets hA1 g2 ma) ?_))
  have kA := blk_sets hA1 g2 ma
  have kR := blk_sets hR1 g2 mr
  have kB := blk_sets hb1 g2 hbc
  have kC := g2.this
  have kZ := hZ.trans (g2.below.mono hc2)
  clear g2 hc1 hb1 hA1 hR1 hZ mr hbc hc2 hb2 hz
  obtain ⟨W, hW⟩ : ∃ W, W = w2 := ⟨_, rfl⟩
  rw [← hW] at kA kR kB kC kZ ⊢
  clear hW w2
  simp only [cond_true] at kB
  go_loopw [48] (fun j wr => ∃ i : Nat, i ≤ 16 ∧ j = .int .i64 i ∧ St W (w.heap.size + 1) (buildOn a 8 (bitF 80 a b c) i) wr) (fun j _ => 16 - (intOf j).toNat)
  case atStart => exact ⟨0, Nat.zero_le _, rfl, St.start kA⟩
  case round =>
    obtain ⟨i, hi, rfl, hs⟩ := hrel
    by_cases hli : i < 16
    · have cB : wr.cell? ⟨x, i, none⟩ = some (.int .u8 ((getN b 8 i : Nat) : Int)) := by
        have := hs.kb.get kB (by omega)
        rw [cell_of_row wr x i _ _ _ this, getElem?_cells _ _ (by omega)]; rfl
      have cC : wr.cell? ⟨y, i, none⟩ = some (.int .u8 ((getN c 8 i : Nat) : Int)) := by
        have := hs.kb.get kC (by omega)
        rw [cell_of_row wr y i _ _ _ this, getElem?_cells _ _ (by omega)]; rfl
      have cI := index_vec a i hli
      go_wp2_with (refine store_byte rfl _ _ rfl (w.heap.size + 1) i _ (bitF 80 a b c i) rfl rfl _ hs.this hli (zb_80 a b c i hli) ?_; intro wy hy)
      go_roundw
      case rel => first | exact ⟨i + 1, by omega, by go_num, hs.sets hy⟩ | ((repeat apply Exists.intro); exact ⟨⟨i + 1, by omega, by go_num, hs.sets hy⟩, rfl⟩)
      case measure => (simp [intOf] <;> omega)
    · obtain rfl : i = 16 := by omega
      have hR' := hs.kb.get kR (by omega)
      go_wp2_with (first | (with_reducible refine load_vec rfl _ rfl _ rfl _ hs.this ?_) | (with_reducible refine store_vec rfl _ _ rfl w.heap.size _ rfl rfl _ hR' ?_; intro wq hq))
      refine bodyPost_ret (results_vec_tmp rfl _ _ w.heap.size _ _ rfl rfl hq.this) rfl ⟨?_, (hs.kb.to_below kZ (by omega)).trans (hq.below.mono (by omega))⟩
      rw [bit_all]; rfl

set_option maxRecDepth 100000 in
set_option maxHeartbeats 2000000 in
theorem bits_81 (a b c : Vec) (w : World) (B cap : Nat) (hlt : B < w.heap.size) (hA : w.rangeAt B 0 (cells a).toList) (hB : w.rangeAt B 16 (cells b).toList) (hC : w.rangeAt B 16 (cells c).toList) :
    Calls Try.prog 19 #[.int .i64 64849, .slice (some ⟨B, 0, none⟩) 2 cap] w fun e w' => e = .returned (.tuple #[.agg (cells (bitV 81 a b c)), .int .i64 0]) ∧ Below w.heap.size w w' := by
  have HA := Lib.hid hA
  have HB := Lib.hid hB
  have HC := Lib.hid hC
  clear hA hB hC
  have e0 : IntKind.i64.wrap 0 = 0 := IntWalk.i64_in _ (by decide)
  have e1 : IntKind.i64.wrap 1 = 1 := IntWalk.i64_in _ (by decide)
  have e2 : IntKind.i64.wrap 2 = 2 := IntWalk.i64_in _ (by decide)
  have hz : ∀ x, Below w.heap.size w (w.alloc x) := fun x => (Below.refl _ _).alloc (Nat.le_refl _) x
  go_enter Try.func19, Try.ntmps19
  go_wp2_with (first | (with_reducible refine load_at rfl _ rfl _ _ rfl _ (rangeAt_below HA.out hlt (hz _)) ?_) | (with_reducible refine store_vec rfl _ _ rfl (w.heap.size + 1) _ rfl rfl 0 (heap_zz w _ _) ?_; intro w1 g1))
  have z1 : Below w.heap.size w w1 := (((Below.refl w.heap.size w).alloc (Nat.le_refl _) _).alloc (by simp) _).trans (g1.below.mono (by omega))
  have hN : N2 w [(w.heap.size + 1, a), (w.heap.size, 0)] b (none, none, false) w1 := N2.start b z1 (by
    simp only [List.mem_cons, List.not_mem_nil, or_false, forall_eq_or_imp, forall_eq]
    exact ⟨g1.this, blk_sets (by rw [heap_alloc2_old, ← cells_zero]) g1 (by omega)⟩)
  clear g1 z1
  refine region_new2 w [(w.heap.size + 1, a), (w.heap.size, 0)] b 13 10 11 12 [0, 1, 2, 3, 4, 5, 6, 7, 8, 9] (by kernel_rfl) rfl rfl rfl rfl rfl rfl rfl rfl _ _ rfl (by decide) hN.drew ?_
  simp only [opsAt, List.getElem?_cons_zero, List.getElem?_cons_succ, List.drop_succ_cons, List.drop_zero]
  repeat (refine wpDA_pure (v := ?_) rfl (fun u => ?_) ?_; rotate_left; (focus (go_simp; (try with_reducible rfl); done)); simp only [Act.put, List.setIfInBounds_toArray, List.set_cons_zero, List.set_cons_succ])
  (refine do_loadM rfl _ rfl _ _ rfl _ (fun D u hS => rangeAt_below HB.out hlt hS.bel) ?_; simp only [Act.put, List.setIfInBounds_toArray, List.set_cons_zero, List.set_cons_succ])
  repeat (refine wpDA_pure (v := ?_) rfl (fun u => ?_) ?_; rotate_left; (focus (go_simp; (try with_reducible rfl); done)); simp only [Act.put, List.setIfInBounds_toArray, List.set_cons_zero, List.set_cons_succ])
  (refine do_loadM rfl _ rfl _ _ rfl _ (fun D u hS => rangeAt_below HC.out hlt hS.bel) ?_; simp only [Act.put, List.setIfInBounds_toArray, List.set_cons_zero, List.set_cons_succ])
  repeat (refine wpDA_pure (v := ?_) rfl (fun u => ?_) ?_; rotate_left; (focus (go_simp; (try with_reducible rfl); done)); simp only [Act.put, List.setIfInBounds_toArray, List.set_cons_zero, List.set_cons_succ])
  refine wpDA_nil (fun x y => ⟨rfl, rfl, fun wx hx => ?_⟩)
  clear hN
  obtain ⟨hb1, hb2, hb3⟩ := hx.nb x rfl
  obtain ⟨hc1, hc2, hc3⟩ := hx.nc y rfl
  have hbc := hx.ne x y rfl rfl
  have hA1 := hx.hold (w.heap.size + 1, a) (by simp)
  have hR1 := hx.hold (w.heap.size, 0) (by simp)
  have hZ := hx.bel
  have na := hb3 (w.heap.size + 1, a) (by simp)
  have ma := hc3 (w.heap.size + 1, a) (by simp)
  have nr := hb3 (w.heap.size, 0) (by simp)
  have mr := hc3 (w.heap.size, 0) (by simp)
  clear hx hb3 hc3
  unfold ptr
  simp only [Act.put, List.setIfInBounds_toArray, List.set_cons_zero, List.set_cons_succ]
  go_wp2_with (first | (with_reducible refine store_vec rfl _ _ rfl y _ rfl rfl 0 hc1 ?_; intro w2 g2) | (with_reducible refine load_vec rfl _ rfl _ rfl _ (blk_sets hA1 g2 ma) ?_))
  have kA := blk_sets hA1 g2 ma
  have kR := blk_sets hR1 g2 mr
  have kB := blk_sets hb1 g2 hbc
  have kC := g2.this
  have kZ := hZ.trans (g2.below.mono hc2)
  clear g2 hc1 hb1 hA1 hR1 hZ mr hbc hc2 hb2 hz
  obtain ⟨W, hW⟩ : ∃ W, W = w2 := ⟨_, rfl⟩
  rw [← hW] at kA kR kB kC kZ ⊢
  clear hW w2
  simp only [cond_true] at kB
  go_loopw [48] (fun j wr => ∃ i : Nat, i ≤ 16 ∧ j = .int .i64 i ∧ St W (w.heap.size + 1) (buildOn a 8 (bitF 81 a b c) i) wr) (fun j _ => 16 - (intOf j).toNat)
  case atStart => exact ⟨0, Nat.zero_le _, rfl, St.start kA⟩
  case round =>
    obtain ⟨i, hi, rfl, hs⟩ := hrel
    by_cases hli : i < 16
    · have cB : wr.cell? ⟨x, i, none⟩ = some (.int .u8 ((getN b 8 i : Nat) : Int)) := by
        have := hs.kb.get kB (by omega)
        rw [cell_of_row wr x i _ _ _ this, getElem?_cells _ _ (by omega)]; rfl
      have cC : wr.cell? ⟨y, i, none⟩ = some (.int .u8 ((getN c 8 i : Nat) : Int)) := by
        have := hs.kb.get kC (by omega)
        rw [cell_of_row wr y i _ _ _ this, getElem?_cells _ _ (by omega)]; rfl
      have cI := index_vec a i hli
      go_wp2_with (refine store_byte rfl _ _ rfl (w.heap.size + 1) i _ (bitF 81 a b c i) rfl rfl _ hs.this hli (zb_81 a b c i hli) ?_; intro wy hy)
      go_roundw
      case rel => first | exact ⟨i + 1, by omega, by go_num, hs.sets hy⟩ | ((repeat apply Exists.intro); exact ⟨⟨i + 1, by omega, by go_num, hs.sets hy⟩, rfl⟩)
      case measure => (simp [intOf] <;> omega)
    · obtain rfl : i = 16 := by omega
      have hR' := hs.kb.get kR (by omega)
      go_wp2_with (first | (with_reducible refine load_vec rfl _ rfl _ rfl _ hs.this ?_) | (with_reducible refine store_vec rfl _ _ rfl w.heap.size _ rfl rfl _ hR' ?_; intro wq hq))
      refine bodyPost_ret (results_vec_tmp rfl _ _ w.heap.size _ _ rfl rfl hq.this) rfl ⟨?_, (hs.kb.to_below kZ (by omega)).trans (hq.below.mono (by omega))⟩
      rw [bit_all]; rfl

set_option maxRecDepth 100000 in
set_option maxHeartbeats 2000000 in
theorem bits_82 (a b c : Vec) (w : World) (B cap : Nat) (hlt : B < w.heap.size) (hA : w.rangeAt B 0 (cells a).toList) (hB : w.rangeAt B 16 (cells b).toList) (hC : w.rangeAt B 32 (cells c).toList) :
    Calls Try.prog 19 #[.int .i64 64850, .slice (some ⟨B, 0, none⟩) 3 cap] w fun e w' => e = .returned (.tuple #[.agg (cells (bitV 82 a b c)), .int .i64 0]) ∧ Below w.heap.size w w' := by
  have HA := Lib.hid hA
  have HB := Lib.hid hB
  have HC := Lib.hid hC
  clear hA hB hC
  have e0 : IntKind.i64.wrap 0 = 0 := IntWalk.i64_in _ (by decide)
  have e1 : IntKind.i64.wrap 1 = 1 := IntWalk.i64_in _ (by decide)
  have e2 : IntKind.i64.wrap 2 = 2 := IntWalk.i64_in _ (by decide)
  have hz : ∀ x, Below w.heap.size w (w.alloc x) := fun x => (Below.refl _ _).alloc (Nat.le_refl _) x
  go_enter Try.func19, Try.ntmps19
  go_wp2_with (first | (with_reducible refine load_at rfl _ rfl _ _ rfl _ (rangeAt_below HA.out hlt (hz _)) ?_) | (with_reducible refine store_vec rfl _ _ rfl (w.heap.size + 1) _ rfl rfl 0 (heap_zz w _ _) ?_; intro w1 g1))
  have z1 : Below w.heap.size w w1 := (((Below.refl w.heap.size w).alloc (Nat.le_refl _) _).alloc (by simp) _).trans (g1.below.mono (by omega))
  have hN : N2 w [(w.heap.size + 1, a), (w.heap.size, 0)] b (none, none, false) w1 := N2.start b z1 (by
    simp only [List.mem_cons, List.not_mem_nil, or_false, forall_eq_or_imp, forall_eq]
    exact ⟨g1.this, blk_sets (by rw [heap_alloc2_old, ← cells_zero]) g1 (by omega)⟩)
  clear g1 z1
  refine region_new2 w [(w.heap.size + 1, a), (w.heap.size, 0)] b 13 10 11 12 [0, 1, 2, 3, 4, 5, 6, 7, 8, 9] (by kernel_rfl) rfl rfl rfl rfl rfl rfl rfl rfl _ _ rfl (by decide) hN.drew ?_
  simp only [opsAt, List.getElem?_cons_zero, List.getElem?_cons_succ, List.drop_succ_cons, List.drop_zero]
  repeat (refine wpDA_pure (v := ?_) rfl (fun u => ?_) ?_; rotate_left; (focus (go_simp; (try with_reducible rfl); done)); simp only [Act.put, List.setIfInBounds_toArray, List.set_cons_zero, List.set_cons_succ])
  (refine do_loadM rfl _ rfl _ _ rfl _ (fun D u hS => rangeAt_below HB.out hlt hS.bel) ?_; simp only [Act.put, List.setIfInBounds_toArray, List.set_cons_zero, List.set_cons_succ])
  repeat (refine wpDA_pure (v := ?_) rfl (fun u => ?_) ?_; rotate_left; (focus (go_simp; (try with_reducible rfl); done)); simp only [Act.put, List.setIfInBounds_toArray, List.set_cons_zero, List.set_cons_succ])
  (refine do_loadM rfl _ rfl _ _ rfl _ (fun D u hS => rangeAt_below HC.out hlt hS.bel) ?_; simp only [Act.put, List.setIfInBounds_toArray, List.set_cons_zero, List.set_cons_succ])
  repeat (refine wpDA_pure (v := ?_) rfl (fun u => ?_) ?_; rotate_left; (focus (go_simp; (try with_reducible rfl); done)); simp only [Act.put, List.setIfInBounds_toArray, List.set_cons_zero, List.set_cons_succ])
  refine wpDA_nil (fun x y => ⟨rfl, rfl, fun wx hx => ?_⟩)
  clear hN
  obtain ⟨hb1, hb2, hb3⟩ := hx.nb x rfl
  obtain ⟨hc1, hc2, hc3⟩ := hx.nc y rfl
  have hbc := hx.ne x y rfl rfl
  have hA1 := hx.hold (w.heap.size + 1, a) (by simp)
  have hR1 := hx.hold (w.heap.size, 0) (by simp)
  have hZ := hx.bel
  have na := hb3 (w.heap.size + 1, a) (by simp)
  have ma := hc3 (w.heap.size + 1, a) (by simp)
  have nr := hb3 (w.heap.size, 0) (by simp)
  have mr := hc3 (w.heap.size, 0) (by simp)
  clear hx hb3 hc3
  unfold ptr
  simp only [Act.put, List.setIfInBounds_toArray, List.set_cons_zero, List.set_cons_succ]
  go_wp2_with (first | (with_reducible refine store_vec rfl _ _ rfl y _ rfl rfl 0 hc1 ?_; intro w2 g2) | (with_reducible refine load_vec rfl _ rfl _ rfl _ (blk_sets hA1 g2 ma) ?_))
  have kA := blk_sets hA1 g2 ma
  have kR := blk_sets hR1 g2 mr
  have kB := blk_sets hb1 g2 hbc
  have kC := g2.this
  have kZ := hZ.trans (g2.below.mono hc2)
  clear g2 hc1 hb1 hA1 hR1 hZ mr hbc hc2 hb2 hz
  obtain ⟨W, hW⟩ : ∃ W, W = w2 := ⟨_, rfl⟩
  rw [← hW] at kA kR kB kC kZ ⊢
  clear hW w2
  simp only [cond_true] at kB
  go_loopw [48] (fun j wr => ∃ i : Nat, i ≤ 16 ∧ j = .int .i64 i ∧ St W (w.heap.size + 1) (buildOn a 8 (bitF 82 a b c) i) wr) (fun j _ => 16 - (intOf j).toNat)
  case atStart => exact ⟨0, Nat.zero_le _, rfl, St.start kA⟩
  case round =>
    obtain ⟨i, hi, rfl, hs⟩ := hrel
    by_cases hli : i < 16
    · have cB : wr.cell? ⟨x, i, none⟩ = some (.int .u8 ((getN b 8 i : Nat) : Int)) := by
        have := hs.kb.get kB (by omega)
        rw [cell_of_row wr x i _ _ _ this, getElem?_cells _ _ (by omega)]; rfl
      have cC : wr.cell? ⟨y, i, none⟩ = some (.int .u8 ((getN c 8 i : Nat) : Int)) := by
        have := hs.kb.get kC (by omega)
        rw [cell_of_row wr y i _ _ _ this, getElem?_cells _ _ (by omega)]; rfl
      have cI := index_vec a i hli
      have zb := zb_82 a b c i hli
      have cO : wr.cell? ⟨w.heap.size + 1, i, none⟩ = some (byteV (buildOn a 8 (bitF 82 a b c) i) i) := by
        rw [cell_of_row wr _ i _ _ _ hs.this, getElem?_cells _ _ hli]
      have fO := frozen_of_row wr (w.heap.size + 1) i _ _ hs.this
      have hn := (hs.sets (sets_setCell i (bitF 82 a b c i) hli hs.this)).drew
      go_wp2_with fail
      go_region
      go_wp2_with fail
      go_roundw
      case rel => first | exact ⟨i + 1, by omega, by go_num, hn⟩ | ((repeat apply Exists.intro); exact ⟨⟨i + 1, by omega, by go_num, hn⟩, rfl⟩)
      case measure => (simp [intOf] <;> omega)
    · obtain rfl : i = 16 := by omega
      have hR' := hs.kb.get kR (by omega)
      go_wp2_with (first | (with_reducible refine load_vec rfl _ rfl _ rfl _ hs.this ?_) | (with_reducible refine store_vec rfl _ _ rfl w.heap.size _ rfl rfl _ hR' ?_; intro wq hq))
      refine bodyPost_ret (results_vec_tmp rfl _ _ w.heap.size _ _ rfl rfl hq.this) rfl ⟨?_, (hs.kb.to_below kZ (by omega)).trans (hq.below.mono (by omega))⟩
      rw [bit_all]; rfl

end Go.Proofs.Ytcpfabkokgiepaa
