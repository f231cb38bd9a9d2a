/- A part of the proof that plaittop.CoreLanes returns true. -/
import Derived.Test.YtebpijlmeemfaaaGreatDoorA01
import Derived.Test.YtebpijlmeemfaaaGreatDoorA15
import Derived.Test.YtebpijlmeemfaaaGreatDoorA16
import Derived.Test.YtebpijlmeemfaaaGreatDoorB09
import Derived.Test.YtebpijlmeemfaaaGreatDoorB24
set_option linter.all false
set_option linter.unusedSectionVars false
set_option linter.unusedSimpArgs false
set_option linter.unusedVariables false
section
set_option maxRecDepth 100000
namespace Go.Proofs.YtebpijlmeemfaaaGreatDoor
open Go.RowKit Pl
theorem mem9 (S m : Nat) (w : World) (h : w.cell? ⟨S, 15, none⟩ = some (.pointer (some ⟨m, 0, none⟩))) : Calls Tryz.prog 9 #[.pointer (some ⟨S, 0, none⟩)] w fun e w' => e = .returned (.pointer (some ⟨m, 0, none⟩)) ∧ Below w.heap.size w w' := by
 go_enter Tryz.func9, Tryz.ntmps9
 go_wp2_with fail
 go_ret
 exact ⟨rfl, Below.refl _ _⟩
theorem isAgg_31 (w : World) : (isAgg 31).run Tryz.prog w = .ok false w := by kernel_rfl
theorem run_ixz {o : Oper} {a : Act} {w : World} (x i : Operand) (ho : o.op = .indexAddr 30 x i) (b off n c : Nat) (hx : a.eval x = .slice (some ⟨b, off, none⟩) n c) (z : Int) (hi : a.eval i = .int .i64 z) (k : Nat) (hz : z = k) (hk : k < n) :
  (execOp a.eval o).run Tryz.prog w = .ok (.value (.pointer (some ⟨b, off + k, none⟩))) w := by
 have h2 : (0 ≤ z ∧ z < (n : Int)) := by omega
 unfold execOp
 simp only [ho, hx, hi, Sem.run_bind, run_indexAt_slice (h := under_su)]
 rw [if_pos h2, size_su]
 subst hz
 simp [Go.Addr.add_mid, go_sem]
theorem cell_k {w u : World} {g o : Nat} {v : Value} (h : w.cell? ⟨g, o, none⟩ = some v) (k : u.heap[g]? = w.heap[g]?) : u.cell? ⟨g, o, none⟩ = some v := by
 simp only [World.cell?, k] at h ⊢
 exact h
theorem f3_tail_x (w0 w : World) (S O b9 : Nat) (o : MObj) (x y : Nat) (hx : loadN o.β 67 8 = x) (hy : loadN o.β (67 + 8) 8 = y) (hn : o.n = 65536) (hx64 : x < 2 ^ 64) (hy64 : y < 2 ^ 64) (hZ : Below w0.heap.size w0 w) (hS : w.cell? ⟨S, 15, none⟩ = some (.pointer (some ⟨o.p, 0, none⟩))) (hSl : S < w.heap.size) (hm : MemAt w o)
  (hO0 : w.cell? ⟨O, 0, none⟩ = some (.int .i64 0)) (hO3 : w.cell? ⟨O, 3, none⟩ = some (.int .i64 43)) (hOl : O < w.heap.size) (hw : w.heap[b9]? = some (.cells #[.int .u64 (x : Nat), .int .u64 (y : Nat)] 26 (0, 0)))
  (x0 x1 x2 x3 x4 x5 x6 x7 x8 x10 x11 x12 x13 x14 x15 x17 x19 x20 x21 x22 x23 x24 x25 x26 x27 x28 x29 x30 x31 x32 x33 x34 x35 x36 x37 x38 x39 x40 x41 x42 x43 x44 x45 x46 x47 x48 x49 x50 x51 x52 x53 x54 x55 x56 x57 x58 x59 x60 x61 x62 x63 x64 x65 x66 x67 x68 x69 x70 x71 x72 x73 x74 x75 x76 x77 x78 x79 x80 x81 x82 x83 x84 x85 x86 x87 x88 x89 x90 x91 x92 x93 x94 x95 x96 x97 x98 x99 x100 x101 x102 x103 x104 x105 x106 x107 x108 x109 x110 x111 x112 x113 x114 x115 x116 x117 x118 x119 x120 x121 x122 x123 x124 x125 x126 x127 x128 x129 x130 x131 x132 x133 x134 x135 x136 x137 x138 x139 x140 x141 x142 x143 : Value) :
  (Ev.tail Ev.c3 17).wp Tryz.prog (bodyPost Tryz.prog Tryz.f3 fun e w' => e = .returned (.bool true) ∧ Below w0.heap.size w0 w') ⟨#[x0, x1, x2, x3, x4, x5, x6, x7, x8, .slice (some ⟨b9, 0, none⟩) 2 2, x10, x11, x12, x13, x14, x15, .pointer (some ⟨S, 0, none⟩), x17, .pointer (some ⟨O, 0, none⟩), x19, x20, x21, x22, x23, x24, x25, x26, x27, x28, x29, x30, x31, x32, x33, x34, x35, x36, x37, x38, x39, x40, x41, x42, x43, x44, x45, x46, x47, x48, x49, x50, x51, x52, x53, x54, x55, x56, x57, x58, x59, x60, x61, x62, x63, x64, x65, x66, x67, x68, x69, x70, x71, x72, x73, x74, x75, x76, x77, x78, x79, x80, x81, x82, x83, x84, x85, x86, x87, x88, x89, x90, x91, x92, x93, x94, x95, x96, x97, x98, x99, x100, x101, x102, x103, x104, x105, x106, x107, x108, x109, x110, x111, x112, x113, x114, x115, x116, x117, x118, x119, x120, x121, x122, x123, x124, x125, x126, x127, x128, x129, x130, x131, x132, x133, x134, x135, x136, x137, x138, x139, x140, x141, x142, x143], []⟩ w := by
 have HL := Lib.hid (fun (W : World) (h : MemAt W o) => vload_00 o 0 0 0 0 0 67 (.slice none 0 0) 67 W h (by decide) (by decide) (by decide) (by omega))
 have HM := Lib.hid (fun (W : World) (h : W.cell? ⟨S, 15, none⟩ = some (.pointer (some ⟨o.p, 0, none⟩))) => mem9 S o.p W h)
 unfold Ev.c3
 dsimp only [Tryz.f3, Ev.tail, Option.getD]
 go_upto_region 22 with (first | (go_at_call 9; refine (HM.out _ hS).mono ?_; rintro e u1 ⟨rfl, hb1⟩) | (go_at_call 14; refine (HL.out _ (hm.below hb1)).mono ?_; rintro e u2 ⟨rfl, hb2⟩) | (with_reducible refine store_vec rfl _ _ rfl u2.heap.size _ rfl rfl 0 (heap_new_zero _) ?_; intro u3 g3))
 have hz1 := hZ.trans (hb1.mono hZ.size)
 have hz2 := hz1.trans (hb2.mono hz1.size)
 have hz3 : Below w0.heap.size w0 u3 := below_store hz2 (Nat.le_refl _) g3
 have h12 : w.heap.size ≤ u2.heap.size := Nat.le_trans hb1.size hb2.size
 have keep : ∀ k, k < w.heap.size → u3.heap[k]? = w.heap[k]? := fun k hk => by
  rw [g3.other k (by omega), heap_alloc_old _ _ (by omega), hb2.block k (by have := hb1.size; omega), hb1.block k hk]
 have hV := g3.this
 have h3s : w.heap.size ≤ u3.heap.size := by rw [g3.size]; simp; omega
 generalize u2.heap.size = BV at *
 clear g3 hb1 hb2 hz1 hz2 hm HL HM hS
 go_upto_region 23 with (first | (with_reducible refine load_vec rfl _ rfl _ rfl _ hV ?_) | (go_at_call 5; (with_reducible refine (split_k _ _).mono ?_); rintro e u4 ⟨rfl, hb4⟩))
 have z0 : getN (setN (setN (0#128) 64 0 x) 64 1 y) 64 0 = x := by
  rw [getN_setN_other _ 64 1 0 y (by decide) (by decide), getN_setN_same _ 64 0 x (by decide)]
  exact Nat.mod_eq_of_lt hx64
 have z1 : getN (setN (setN (0#128) 64 0 x) 64 1 y) 64 1 = y := by
  rw [getN_setN_same _ 64 1 y (by decide)]
  exact Nat.mod_eq_of_lt hy64
 rw [z0, z1]
 obtain ⟨W, hW⟩ : ∃ W, W = u4.alloc (.cells #[.int .u64 (x : Nat), .int .u64 (y : Nat)] 28) := ⟨_, rfl⟩
 have hzW : Below w0.heap.size w0 W := hW ▸ (hz3.trans (hb4.mono hz3.size)).alloc (Nat.le_trans hz3.size hb4.size) _
 have kW : ∀ k, k < w.heap.size → W.heap[k]? = w.heap[k]? := fun k hk => by
  rw [hW, heap_alloc_old _ _ (by have := hb4.size; omega), hb4.block k (by omega), keep k hk]
 have sW : w.heap.size ≤ W.heap.size := by rw [hW]; simp; have := hb4.size; omega
 have bZ : u4.heap.size < W.heap.size := by rw [hW]; simp
 have hz : W.heap[u4.heap.size]? = some (.cells #[.int .u64 (x : Nat), .int .u64 (y : Nat)] 28 (0, 0)) := hW ▸ heap_alloc_new _ _
 have c0 := cell_k hO0 (kW O hOl)
 have c3 := cell_k hO3 (kW O hOl)
 have w9 := (kW b9 (block_lt hw)).trans hw
 have l9 : b9 < W.heap.size := block_lt w9
 have v0 : W.cell? ⟨b9, 0 + 0, none⟩ = some (.int .u64 (x : Nat)) := by rw [cell_of_row W _ _ _ _ _ w9]; rfl
 have v1 : W.cell? ⟨b9, 0 + 1, none⟩ = some (.int .u64 (y : Nat)) := by rw [cell_of_row W _ _ _ _ _ w9]; rfl
 have q0 : W.cell? ⟨u4.heap.size, 0, none⟩ = some (.int .u64 (x : Nat)) := by rw [cell_of_row W _ _ _ _ _ hz]; rfl
 have q1 : W.cell? ⟨u4.heap.size, 1, none⟩ = some (.int .u64 (y : Nat)) := by rw [cell_of_row W _ _ _ _ _ hz]; rfl
 rw [← hW]
 have lO : O < W.heap.size := Nat.lt_of_lt_of_le hOl sW
 clear hW keep kW hb4 z0 z1 hz3 h3s hV hz
 generalize u4.heap.size = BZ at *
 refine region_do (fun u => Below W.heap.size W u) 28 (by kernel_rfl) (by kernel_rfl) (Below.refl _ _).drew ?_
 simp only [List.take_succ_cons, List.take_zero, List.drop_succ_cons, List.drop_zero]
 repeat (first | (refine wpD_hereg rfl (fun u hS => run_ldc 31 isAgg_31 _ rfl O 0 rfl _ (cell_b c0 lO hS)) ?_; simp only [Act.put, zqA, zqB, zqC]) | (refine wpD_hereg rfl (fun u hS => run_ldc 3 isAgg_int _ rfl O 3 rfl _ (cell_b c3 lO hS)) ?_; simp only [Act.put, zqA, zqB, zqC]) | (refine wpD_hereg rfl (fun u hS => run_ldc 26 isAgg_u64 _ rfl BZ 0 rfl _ (cell_b q0 bZ hS)) ?_; simp only [Act.put, zqA, zqB, zqC]) | (refine wpD_hereg rfl (fun u hS => run_ldc 26 isAgg_u64 _ rfl BZ 1 rfl _ (cell_b q1 bZ hS)) ?_; simp only [Act.put, zqA, zqB, zqC]) | (refine wpD_hereg rfl (fun u hS => run_ldc 26 isAgg_u64 _ rfl b9 (0 + 0) rfl _ (cell_b v0 l9 hS)) ?_; simp only [Act.put, zqA, zqB, zqC]) | (refine wpD_hereg rfl (fun u hS => run_ldc 26 isAgg_u64 _ rfl b9 (0 + 1) rfl _ (cell_b v1 l9 hS)) ?_; simp only [Act.put, zqA, zqB, zqC]) | (refine wpD_hereg rfl (fun u hS => run_ixz _ _ rfl b9 0 2 2 rfl 0 rfl 0 rfl (by decide)) ?_; simp only [Act.put, zqA, zqB, zqC]) | (refine wpD_hereg rfl (fun u hS => run_ixz _ _ rfl b9 0 2 2 rfl 1 rfl 1 rfl (by decide)) ?_; simp only [Act.put, zqA, zqB, zqC]) | (refine wpD_pureg (v := ?_) rfl (fun u => ?_) ?_; rotate_left; (focus (go_simp; (try with_reducible rfl); done)); simp only [Act.put, zqA, zqB, zqC]))
 refine wpD_nil (fun u5 hS5 => ?_)
 have hfin := hzW.trans (hS5.mono hzW.size)
 clear hS5
 go_wp2_with fail
 go_ret
 exact ⟨rfl, hfin⟩
end Go.Proofs.YtebpijlmeemfaaaGreatDoor
end
section
set_option maxRecDepth 100000
namespace Ln
open Pl Go.Proofs.YtebpijlmeemfaaaGreatDoor
theorem dv_all (p q r s : Nat) : kL.map (fun k : Nat => doV (64768 + (k : Int)) 0 0 0 [p, q, r, s]) = kL.map (fun k : Nat => ([getN (specV k (joinV p q) (joinV r s)) 64 0, getN (specV k (joinV p q) (joinV r s)) 64 1], (0 : Int))) := by kernel_rfl
theorem joinV_two (v : Vec) : joinV (getN v 64 0) (getN v 64 1) = v := by
 refine lanes_ext 64 2 (by decide) (by decide) fun i hi => ?_
 unfold joinV
 have h0 := getN_lt v 64 0
 have h1 := getN_lt v 64 1
 match i, hi with
 | 0, _ => rw [getN_setN_other _ 64 1 0 _ (by decide) (by decide), getN_setN_same _ 64 0 _ (by decide), Nat.mod_eq_of_lt h0]
 | 1, _ => rw [getN_setN_same _ 64 1 _ (by decide), Nat.mod_eq_of_lt h1]
theorem kL_of {κ : Nat} (hκ : κ < 256) {p q r s : Nat} (h : (doV (64768 + (κ : Int)) 0 0 0 [p, q, r, s]).1.length = 2) : κ ∈ kL := by
 have := List.all_eq_true.1 (dv_no p q r s) κ (List.mem_range.2 hκ)
 rw [Bool.or_eq_true] at this
 rcases this with h1 | h1
 ·exact List.contains_iff_mem.1 h1
 ·exact absurd h (of_decide_eq_true h1)
theorem dv_at {κ : Nat} (h : κ ∈ kL) (a b : Vec) : doV (64768 + (κ : Int)) 0 0 0 [getN a 64 0, getN a 64 1, getN b 64 0, getN b 64 1] = ([getN (specV κ a b) 64 0, getN (specV κ a b) 64 1], 0) := by
 have := Ev.map_mem (dv_all (getN a 64 0) (getN a 64 1) (getN b 64 0) (getN b 64 1)) κ h
 rw [joinV_two, joinV_two] at this
 exact this
theorem kA_kL : Ev.kA = kL := by kernel_rfl
theorem hN_vec {β : Nat → Nat} (hβ : ∀ i, β i < 256) {s : Nat} (v : Vec) (j : Nat) (h : ∀ i, i < 8 → β (s + i) = getN v 8 (j * 8 + i)) : Ev.hN β s = hB v j :=
 Ev.hN_laid hβ (hB v j) fun i hi => by
  rw [h i hi, ← ln_hB w8 v j hi]
  rfl
def bV (v : Vec) (i : Nat) : Nat := getN v 8 i
theorem bV_lt (v : Vec) (i : Nat) : bV v i < 256 := getN_lt v 8 i
theorem rB_spec {κ : Nat} (hk : κ ∈ kL) (a b : Vec) {j : Nat} (hj : j < 2) : (Ev.rB κ (Ev.bAB (bV a) (bV b)) j).toNat = getN (specV κ a b) 64 j := by
 have hlt : ∀ i, Ev.bAB (bV a) (bV b) i < 256 := Ev.bAB_lt (fun i _ => bV_lt a i) (fun i _ => bV_lt b i)
 have e5 : Ev.hN (Ev.bAB (bV a) (bV b)) 5 = hB a 0 := hN_vec hlt a 0 fun i hi => by
  unfold Ev.bAB
  rw [if_pos (by omega)]
  show getN a 8 (5 + i - 5) = _
  congr 1
  omega
 have e13 : Ev.hN (Ev.bAB (bV a) (bV b)) 13 = hB a 1 := hN_vec hlt a 1 fun i hi => by
  unfold Ev.bAB
  rw [if_pos (by omega)]
  show getN a 8 (13 + i - 5) = _
  congr 1
  omega
 have e25 : Ev.hN (Ev.bAB (bV a) (bV b)) 25 = hB b 0 := hN_vec hlt b 0 fun i hi => by
  unfold Ev.bAB
  rw [if_neg (by omega), if_pos (by omega)]
  show getN b 8 (25 + i - 25) = _
  congr 1
  omega
 have e33 : Ev.hN (Ev.bAB (bV a) (bV b)) 33 = hB b 1 := hN_vec hlt b 1 fun i hi => by
  unfold Ev.bAB
  rw [if_neg (by omega), if_pos (by omega)]
  show getN b 8 (33 + i - 25) = _
  congr 1
  omega
 unfold Ev.rB
 rw [e5, e13, e25, e33]
 exact res_spec κ hk a b j hj
theorem loadN_sN (β : Nat → Nat) (s : Nat) : ∀ n, loadN β s n = Ev.sN (fun i => β (s + i)) n
 | 0 => rfl
 | n + 1 => by
  unfold loadN Ev.sN
  rw [loadN_sN β s n]
theorem loadN_hN {β : Nat → Nat} (hβ : ∀ i, β i < 256) (s : Nat) : loadN β s 8 = (Ev.hN β s).toNat := by
 rw [loadN_sN]
 unfold Ev.hN
 exact (Ev.ldB_sN (fun i => hβ _) 8 (Nat.le_refl _)).symm
end Ln
namespace Ev
open Go Go.Proofs Pl Go.Proofs.YtebpijlmeemfaaaGreatDoor
theorem vb_cells {w : World} {g : Nat} {v : Vec} (h : w.heap[g]? = some (.cells (cells v) 23 (0, 0))) : Vb w g (Ln.bV v) :=
 ⟨cells v, h, size_cells v, fun i hi => getElem?_cells v i hi⟩
theorem arr_two {arr : Array Value} {x y : Value} (h : 2 ≤ arr.size) (h0 : arr[0]? = some x) (h1 : arr[1]? = some y) : arr = #[x, y] ++ arr.extract 2 arr.size := by
 apply Array.ext_getElem?
 intro i
 rw [Array.getElem?_append]
 by_cases hi : i < 2
 ·rw [if_pos (by simpa using hi)]
  match i, hi with
  | 0, _ => exact h0
  | 1, _ => exact h1
 ·rw [if_neg (by simpa using hi), Array.getElem?_extract]
  simp only [List.size_toArray, List.length_cons, List.length_nil]
  by_cases h2 : i < arr.size
  ·rw [if_pos (by omega), show 2 + (i - (0 + 1 + 1)) = i by omega]
  ·rw [if_neg (by omega), Array.getElem?_eq_none (by omega)]
theorem mem_at {w : World} {m q cq c : Nat} {β : Nat → Nat} (hm : Pre w m 123 (c * 2) [some (.slice (some ⟨q, 0, none⟩) 65536 65536), some (.int .i64 ((1 : Nat) : Int))]) (hb : Bt w q cq β) (hlt : ∀ i, β i < 256) : ∃ o : MObj, MemAt w o ∧ o.p = m ∧ o.n = 65536 ∧ o.β = β := by
 obtain ⟨arr, h1, h2, h3, h4⟩ := hm
 obtain ⟨x0, a0, _, b0⟩ := h4 0 _ rfl
 obtain ⟨x1, a1, _, b1⟩ := h4 1 _ rfl
 rw [b0 _ rfl] at a0
 rw [b1 _ rfl] at a1
 obtain ⟨brr, g1, g2, g3, g4⟩ := hb
 refine ⟨⟨123, m, some q, 65536, 65536, β, 1, arr.extract 2 arr.size⟩, ⟨?_, ⟨⟨brr, g1, by show 65536 ≤ brr.size; omega, g4⟩, fun i _ => hlt i, Nat.le_refl _⟩, ⟨1, by decide, rfl⟩, ⟨by show (-1 : Int) ≤ 1; decide, by show (1 : Int) ≤ 9223372036854775807; decide⟩, fun h => ?_⟩, rfl, rfl, rfl⟩
 ·show w.heap[m]? = some (.cells (#[.slice (some ⟨q, 0, none⟩) 65536 65536, .int .i64 ((1 : Nat) : Int)] ++ arr.extract 2 arr.size) 123 (0, 0))
  rw [← arr_two (by have : 2 ≤ c * 2 := h3; omega) a0 a1]
  exact h1
 ·have h : q = m := Option.some.inj h
  rw [h, h1] at g1
  injection (Option.some.inj g1) with _ z
  cases z
theorem pre_cell {w : World} {b e s i : Nat} {l : List (Option Value)} {y : Value} (h : Pre w b e s l) (hi : l[i]? = some (some y)) : w.cell? ⟨b, i, none⟩ = some y ∧ b < w.heap.size := by
 obtain ⟨arr, h1, h2, h3, h4⟩ := h
 obtain ⟨x, x1, _, x2⟩ := h4 i _ hi
 rw [x2 y rfl] at x1
 refine ⟨?_, blk_lt h1⟩
 simp only [World.cell?, h1]
 simpa using x1
end Ev
end
section
set_option maxRecDepth 100000
namespace Go.Proofs.YtebpijlmeemfaaaGreatDoor
open Go.RowKit Pl
structure PZ (w0 : World) (BX BY : Nat) (a b : Vec) (u : World) : Prop where
 bel : Below w0.heap.size w0 u
 ha : u.heap[w0.heap.size]? = some (.cells (cells a) 23 (0, 0))
 hb : u.heap[w0.heap.size + 1]? = some (.cells (cells b) 23 (0, 0))
 hx : u.heap[BX]? = some (.cells #[.int .u64 (getN a 64 0), .int .u64 (getN a 64 1)] 28 (0, 0))
 hy : u.heap[BY]? = some (.cells #[.int .u64 (getN b 64 0), .int .u64 (getN b 64 1)] 28 (0, 0))
theorem PZ.below {w0 u u1 : World} {BX BY : Nat} {a b : Vec} (h : PZ w0 BX BY a b u) (hb : Below u.heap.size u u1) : PZ w0 BX BY a b u1 :=
 ⟨h.bel.trans (hb.mono h.bel.size), blk_keep h.ha hb, blk_keep h.hb hb, blk_keep h.hx hb, blk_keep h.hy hb⟩
theorem PZ.alloc {w0 u : World} {BX BY : Nat} {a b : Vec} (h : PZ w0 BX BY a b u) (x : Obj) : PZ w0 BX BY a b (u.alloc x) := h.below ((Below.refl _ _).alloc (Nat.le_refl _) x)
theorem do_said (κ : Int) (p q r s B : Nat) (W1 : World) (hκ : 0 ≤ κ ∧ κ < 256) (hp : p < 18446744073709551616) (hq : q < 18446744073709551616) (hr : r < 18446744073709551616) (hs : s < 18446744073709551616) {R : List Nat × Int} (hR : doV (64768 + κ) 0 0 0 [p, q, r, s] = R) (h : W1.heap[B]? = some (.cells #[.int .u64 (p : Nat), .int .u64 (q : Nat), .int .u64 (r : Nat), .int .u64 (s : Nat)] 26 (0, 0))) :
  Calls Tryz.prog 6 #[.agg #[.int .i64 (64768 + κ), .int .i64 0, .int .i64 0, .int .u64 0, .int .u64 0, .slice none 0 0], .slice (some ⟨B, 0, none⟩) 4 4] W1 fun e w' => (∃ (ad : Option Addr) (n c : Nat), e = .returned (.tuple #[.slice ad n c, .int .i64 R.2]) ∧ n = R.1.length ∧ (n = 2 → c = 2 ∧ ∃ b x y, W1.heap.size ≤ b ∧ ad = some ⟨b, 0, none⟩ ∧ R.1 = [x, y] ∧ w'.heap[b]? = some (.cells #[.int .u64 (x : Nat), .int .u64 (y : Nat)] 26 (0, 0)))) ∧ Below W1.heap.size W1 w' := by
 have hH : LView .u64 W1 (.slice (some ⟨B, 0, none⟩) 4 4) ([p, q, r, s].map Nat.cast) := by
  refine ⟨⟨some ⟨B, 0, none⟩, 4, rfl, Nat.le_refl _, .inr ⟨B, 0, rfl, block_lt h, fun i z hz => ?_⟩⟩⟩
  rw [cell_of_row W1 _ _ _ _ _ h]
  match i, hz with
  | 0, hz => cases hz; rfl
  | 1, hz => cases hz; rfl
  | 2, hz => cases hz; rfl
  | 3, hz => cases hz; rfl
 refine (do_two (64768 + κ) 0 0 0 0 (.slice none 0 0) (.slice (some ⟨B, 0, none⟩) 4 4) [p, q, r, s] rfl W1 ⟨by omega, by omega⟩ hH (fun x hx => ?_)).mono ?_
 ·simp only [List.mem_cons, List.not_mem_nil, or_false] at hx
  rcases hx with rfl | rfl | rfl | rfl <;> assumption
 ·rintro e w' ⟨⟨⟨rv, rfl, hrv⟩⟩, hb⟩
  rw [hR] at hrv
  rw [hR]
  refine ⟨?_, hb⟩
  rcases hrv with ⟨h1, rfl⟩ | ⟨h1, b, hlb, rfl, hcell⟩
  ·exact ⟨none, 0, 0, rfl, by rw [h1]; rfl, fun h => by cases h⟩
  ·refine ⟨_, _, _, rfl, rfl, fun h2 => ⟨h2, ?_⟩⟩
   match hL : R.1, h2 with
   | [x, y], _ => exact ⟨b, x, y, hlb, rfl, rfl, by rw [hcell, hL]; rfl⟩
theorem f3_tail (w0 w : World) (S O b9 : Nat) (o : MObj) (x y : Nat) (hx : loadN o.β 67 8 = x) (hy : loadN o.β (67 + 8) 8 = y) (hn : o.n = 65536) (hx64 : x < 2 ^ 64) (hy64 : y < 2 ^ 64) (hZ : Below w0.heap.size w0 w) (hS : w.cell? ⟨S, 15, none⟩ = some (.pointer (some ⟨o.p, 0, none⟩))) (hSl : S < w.heap.size) (hm : MemAt w o)
  (hO0 : w.cell? ⟨O, 0, none⟩ = some (.int .i64 0)) (hO3 : w.cell? ⟨O, 3, none⟩ = some (.int .i64 43)) (hOl : O < w.heap.size) (hw : w.heap[b9]? = some (.cells #[.int .u64 (x : Nat), .int .u64 (y : Nat)] 26 (0, 0)))
  (A : Act) (hA : A.tmps.size = 144) (hd : A.defers = []) (t9 : A.tmps[9]? = some (.slice (some ⟨b9, 0, none⟩) 2 2)) (t16 : A.tmps[16]? = some (.pointer (some ⟨S, 0, none⟩))) (t18 : A.tmps[18]? = some (.pointer (some ⟨O, 0, none⟩))) :
  (Ev.tail Ev.c3 17).wp Tryz.prog (bodyPost Tryz.prog Tryz.f3 fun e w' => e = .returned (.bool true) ∧ Below w0.heap.size w0 w') A w := by
 have g : ∀ {i : Nat} {v : Value}, A.tmps[i]? = some v → A.tmps.getD i undef = v := fun h => by rw [Array.getD_eq_getD_getElem?, h]; rfl
 have e9 := g t9
 have e16 := g t16
 have e18 := g t18
 have hF := Ev.arr_all A.tmps 144 hA
 have key := f3_tail_x w0 w S O b9 o x y hx hy hn hx64 hy64 hZ hS hSl hm hO0 hO3 hOl hw (A.tmps.getD 0 undef) (A.tmps.getD 1 undef) (A.tmps.getD 2 undef) (A.tmps.getD 3 undef) (A.tmps.getD 4 undef) (A.tmps.getD 5 undef) (A.tmps.getD 6 undef) (A.tmps.getD 7 undef) (A.tmps.getD 8 undef) (A.tmps.getD 10 undef) (A.tmps.getD 11 undef) (A.tmps.getD 12 undef) (A.tmps.getD 13 undef) (A.tmps.getD 14 undef) (A.tmps.getD 15 undef) (A.tmps.getD 17 undef) (A.tmps.getD 19 undef) (A.tmps.getD 20 undef) (A.tmps.getD 21 undef) (A.tmps.getD 22 undef) (A.tmps.getD 23 undef) (A.tmps.getD 24 undef) (A.tmps.getD 25 undef) (A.tmps.getD 26 undef) (A.tmps.getD 27 undef) (A.tmps.getD 28 undef) (A.tmps.getD 29 undef) (A.tmps.getD 30 undef) (A.tmps.getD 31 undef) (A.tmps.getD 32 undef) (A.tmps.getD 33 undef) (A.tmps.getD 34 undef) (A.tmps.getD 35 undef) (A.tmps.getD 36 undef) (A.tmps.getD 37 undef) (A.tmps.getD 38 undef) (A.tmps.getD 39 undef) (A.tmps.getD 40 undef) (A.tmps.getD 41 undef) (A.tmps.getD 42 undef) (A.tmps.getD 43 undef) (A.tmps.getD 44 undef) (A.tmps.getD 45 undef) (A.tmps.getD 46 undef) (A.tmps.getD 47 undef) (A.tmps.getD 48 undef) (A.tmps.getD 49 undef) (A.tmps.getD 50 undef) (A.tmps.getD 51 undef) (A.tmps.getD 52 undef) (A.tmps.getD 53 undef) (A.tmps.getD 54 undef) (A.tmps.getD 55 undef) (A.tmps.getD 56 undef) (A.tmps.getD 57 undef) (A.tmps.getD 58 undef) (A.tmps.getD 59 undef) (A.tmps.getD 60 undef) (A.tmps.getD 61 undef) (A.tmps.getD 62 undef) (A.tmps.getD 63 undef) (A.tmps.getD 64 undef) (A.tmps.getD 65 undef) (A.tmps.getD 66 undef) (A.tmps.getD 67 undef) (A.tmps.getD 68 undef) (A.tmps.getD 69 undef) (A.tmps.getD 70 undef) (A.tmps.getD 71 undef) (A.tmps.getD 72 undef) (A.tmps.getD 73 undef) (A.tmps.getD 74 undef) (A.tmps.getD 75 undef) (A.tmps.getD 76 undef) (A.tmps.getD 77 undef) (A.tmps.getD 78 undef) (A.tmps.getD 79 undef) (A.tmps.getD 80 undef) (A.tmps.getD 81 undef) (A.tmps.getD 82 undef) (A.tmps.getD 83 undef) (A.tmps.getD 84 undef) (A.tmps.getD 85 undef) (A.tmps.getD 86 undef) (A.tmps.getD 87 undef) (A.tmps.getD 88 undef) (A.tmps.getD 89 undef) (A.tmps.getD 90 undef) (A.tmps.getD 91 undef) (A.tmps.getD 92 undef) (A.tmps.getD 93 undef) (A.tmps.getD 94 undef) (A.tmps.getD 95 undef) (A.tmps.getD 96 undef) (A.tmps.getD 97 undef) (A.tmps.getD 98 undef) (A.tmps.getD 99 undef) (A.tmps.getD 100 undef) (A.tmps.getD 101 undef) (A.tmps.getD 102 undef) (A.tmps.getD 103 undef) (A.tmps.getD 104 undef) (A.tmps.getD 105 undef) (A.tmps.getD 106 undef) (A.tmps.getD 107 undef) (A.tmps.getD 108 undef) (A.tmps.getD 109 undef) (A.tmps.getD 110 undef) (A.tmps.getD 111 undef) (A.tmps.getD 112 undef) (A.tmps.getD 113 undef) (A.tmps.getD 114 undef) (A.tmps.getD 115 undef) (A.tmps.getD 116 undef) (A.tmps.getD 117 undef) (A.tmps.getD 118 undef) (A.tmps.getD 119 undef) (A.tmps.getD 120 undef) (A.tmps.getD 121 undef) (A.tmps.getD 122 undef) (A.tmps.getD 123 undef) (A.tmps.getD 124 undef) (A.tmps.getD 125 undef) (A.tmps.getD 126 undef) (A.tmps.getD 127 undef) (A.tmps.getD 128 undef) (A.tmps.getD 129 undef) (A.tmps.getD 130 undef) (A.tmps.getD 131 undef) (A.tmps.getD 132 undef) (A.tmps.getD 133 undef) (A.tmps.getD 134 undef) (A.tmps.getD 135 undef) (A.tmps.getD 136 undef) (A.tmps.getD 137 undef) (A.tmps.getD 138 undef) (A.tmps.getD 139 undef) (A.tmps.getD 140 undef) (A.tmps.getD 141 undef) (A.tmps.getD 142 undef) (A.tmps.getD 143 undef)
 rw [← e9, ← e16, ← e18, ← hd] at key
 obtain ⟨T, D⟩ := A
 have hF : T = _ := hF
 rw [show (⟨T, D⟩ : Act) = ⟨((List.range 144).map fun i => T.getD i undef).toArray, D⟩ from congrArg (fun t => Act.mk t D) hF]
 exact key
theorem lanes_k (op : Int) (a b : Vec) (w : World) (ho : -9223372036854775808 ≤ op ∧ op ≤ 9223372036854775807) (HALL : ∀ (p q : Nat → Nat) (k : Nat), k ∈ Ev.kA → Ev.outA (Ev.evA k p q) = Ev.expA k p q) : Calls Tryz.prog 3 #[.int .i64 op, .agg (cells a), .agg (cells b)] w fun e w' => e = .returned (.bool true) ∧ Below w.heap.size w w' := by
 have HMK0 : ∀ W : World, Calls Tryz.prog 4 #[] W fun e w' => e = .returned (.bool true) ∧ Below W.heap.size W w' := fun W => Calls.mono (Ev.makes_calls W) fun en w' h => ⟨h.1, ⟨h.2.1, h.2.2.1, h.2.2.2.1, h.2.2.2.2.1, h.2.2.2.2.2⟩⟩
 have HMK := Lib.hid HMK0
 clear HMK0
 obtain ⟨U, hU⟩ : ∃ U : Nat, IntKind.u64.wrap op = (U : Int) := ⟨(op % 18446744073709551616).toNat, by rw [IntKind.wrap_u64]; omega⟩
 obtain ⟨κ, hκ⟩ : ∃ κ, U % 256 = κ := ⟨_, rfl⟩
 have hk2 : κ < 256 := by omega
 have hkk : (U : Int) % 256 = (κ : Int) := by omega
 have hkt : (U : Int).tmod 256 = (κ : Int) := by rw [Int.tmod_eq_emod_of_nonneg (Int.natCast_nonneg _)]; exact hkk
 have h1 : IntKind.i64.wrap (κ : Int) = κ := IntWalk.i64_in _ (by omega)
 have h2 : IntKind.i64.wrap (64768 + (κ : Int)) = 64768 + (κ : Int) := IntWalk.i64_in _ (by omega)
 have h3 : IntKind.u64.wrap (κ : Int) = κ := IntWalk.u64_in _ (by omega)
 go_enter Tryz.func3, Tryz.ntmps3
 go_upto_region 6 with (first | (go_at_call 4; refine (HMK.out _).mono ?_; rintro e u0 ⟨rfl, hb0⟩; have hA := blk_keep (heap_alloc2_old w (.cells (cells a) 23) (.cells (cells b) 23)) hb0; have hB := blk_keep (heap_alloc2_new w (.cells (cells a) 23) (.cells (cells b) 23)) hb0; have hZ := below_alloc2 w _ _ hb0; clear hb0) | (with_reducible refine load_vec rfl _ rfl _ rfl _ hA ?_) | (with_reducible refine load_vec rfl _ rfl _ rfl _ (blk_alloc hB _) ?_) | (go_at_call 5; (with_reducible refine (split_k a _).mono ?_); rintro e u1 ⟨rfl, hb1⟩; replace hA := blk_keep hA hb1; replace hB := blk_keep hB hb1; replace hZ := hZ.trans (hb1.mono hZ.size); clear hb1) | (go_at_call 5; (with_reducible refine (split_k b _).mono ?_); rintro e u2 ⟨rfl, hb2⟩; have hX := blk_keep (heap_alloc_new u1 (.cells #[.int .u64 (getN a 64 0), .int .u64 (getN a 64 1)] 28)) hb2; replace hA := blk_keep (blk_alloc hA _) hb2; replace hB := blk_keep (blk_alloc hB _) hb2; replace hZ := (hZ.alloc hZ.size _).trans (hb2.mono (by have := hZ.size; simp; omega)); clear hb2))
 obtain ⟨W, hW⟩ : ∃ W, W = u2.alloc (.cells #[.int .u64 (getN b 64 0), .int .u64 (getN b 64 1)] 28) := ⟨_, rfl⟩
 have pz : PZ w u1.heap.size u2.heap.size a b W := hW ▸ ⟨hZ.alloc hZ.size _, blk_alloc hA _, blk_alloc hB _, blk_alloc hX _, heap_alloc_new _ _⟩
 rw [← hW]
 clear hW hZ hA hB hX
 generalize u1.heap.size = BX at pz ⊢
 generalize u2.heap.size = BY at pz ⊢
 obtain ⟨R, hR⟩ : ∃ R, doV (64768 + (κ : Int)) 0 0 0 [getN a 64 0, getN a 64 1, getN b 64 0, getN b 64 1] = R := ⟨_, rfl⟩
 have HD := Lib.hid (fun (W1 : World) (h : W1.heap[W.heap.size]? = some (.cells #[.int .u64 (getN a 64 0), .int .u64 (getN a 64 1), .int .u64 (getN b 64 0), .int .u64 (getN b 64 1)] 26 (0, 0))) => do_said (κ : Int) _ _ _ _ W.heap.size W1 ⟨by omega, by omega⟩ (getN_lt a 64 0) (getN_lt a 64 1) (getN_lt b 64 0) (getN_lt b 64 1) hR h)
 have x0 : W.cell? ⟨BX, 0, none⟩ = some (.int .u64 (getN a 64 0)) := by rw [cell_of_row W _ 0 _ _ _ pz.hx]; rfl
 have x1 : W.cell? ⟨BX, 1, none⟩ = some (.int .u64 (getN a 64 1)) := by rw [cell_of_row W _ 1 _ _ _ pz.hx]; rfl
 have y0 : W.cell? ⟨BY, 0, none⟩ = some (.int .u64 (getN b 64 0)) := by rw [cell_of_row W _ 0 _ _ _ pz.hy]; rfl
 have y1 : W.cell? ⟨BY, 1, none⟩ = some (.int .u64 (getN b 64 1)) := by rw [cell_of_row W _ 1 _ _ _ pz.hy]; rfl
 go_upto_region 7 with (go_at_call 6; refine (HD.out _ (heap_alloc_new _ _)).mono ?_; rintro e u3 ⟨⟨ad, n, c, rfl, hn, hbl⟩, hb3⟩)
 have pz3 := (pz.alloc (.cells #[.int .u64 (getN a 64 0), .int .u64 (getN a 64 1), .int .u64 (getN b 64 0), .int .u64 (getN b 64 1)] 26)).below hb3
 have hZ := pz3.bel
 by_cases hE : R.2 = 0
 ·have q : (R.2 != 0) = false := by simp [hE]
  by_cases hl : R.1.length = 2
  ·have q2 : ((R.1.length : Int) != 2) = false := by simp [hl]
   go_upto_region 9 with fail
   obtain ⟨hc, b9, X, Y, hlb, had, hR1, hwant⟩ := hbl (by rw [← hl]; first | exact hn | rfl)
   have hkL : κ ∈ Ln.kL := Ln.kL_of hk2 (by rw [hR]; exact hl)
   have hRk := (Ln.dv_at hkL a b).symm.trans hR
   have hX : X = getN (Ln.specV κ a b) 64 0 ∧ Y = getN (Ln.specV κ a b) 64 1 := by
    have : [getN (Ln.specV κ a b) 64 0, getN (Ln.specV κ a b) 64 1] = [X, Y] := (congrArg Prod.fst hRk).trans hR1
    injection this with q1 q2
    injection q2 with q2 _
    exact ⟨q1.symm, q2.symm⟩
   have l9 := block_lt hwant
   have lb := block_lt pz.hb
   have hlb2 : w.heap.size + 1 < b9 := by simp at hlb; omega
   subst hc had
   rename_i aKK
   have ht0 : (Value.int .i64 (64768 + (κ : Int))) = .int .i64 ((64768 + κ : Nat) : Int) := by rw [show ((64768 + κ : Nat) : Int) = 64768 + (κ : Int) by omega]
   refine Ev.mid_wp (k := κ) (a := Ln.bV a) (b := Ln.bV b) (by rw [Ln.kA_kL]; exact hkL) (fun i _ => Ln.bV_lt a i) (fun i _ => Ln.bV_lt b i) (HALL _ _ κ (by rw [Ln.kA_kL]; exact hkL)) (ba := w.heap.size) (bb := w.heap.size + 1) (bw := b9) (Ev.vb_cells pz3.ha) (Ev.vb_cells pz3.hb) (by omega) l9 ?gsz ?gt0 ?gt4 ?gt5 ?gt9 (by kernel_rfl) (by kernel_rfl) aKK ?gend
   case gsz => rfl
   case gt0 => exact congrArg some ht0
   case gt4 => rfl
   case gt5 => rfl
   case gt9 => rw [← hl]; rfl
   intro S m q cq O β A' w' hA' hd' M
   obtain ⟨cS, hS⟩ := M.S
   obtain ⟨cm, hm⟩ := M.m
   obtain ⟨cO, hO⟩ := M.O
   obtain ⟨o, hmem, rfl, hon, hoβ⟩ := Ev.mem_at hm M.bt M.lt
   have r0 : (Ev.hN β 67).toNat = X := by rw [M.lo, hX.1]; exact Ln.rB_spec hkL a b (by decide)
   have r1 : (Ev.hN β 75).toNat = Y := by rw [M.hi, hX.2]; exact Ln.rB_spec hkL a b (by decide)
   have hZ' : Below w.heap.size w w' := ⟨M.os.trans hZ.os, M.tape.trans hZ.tape, M.output.trans hZ.output, Nat.le_trans hZ.size M.size, fun k hk => (M.keep k (Nat.lt_of_lt_of_le hk hZ.size) (by omega) (by omega)).trans (hZ.block k hk)⟩
   exact f3_tail w w' S O b9 o X Y (by rw [hoβ, Ln.loadN_hN M.lt]; exact r0) (by rw [hoβ, Ln.loadN_hN M.lt]; exact r1) hon (by rw [← r0]; exact (Ev.hN β 67).isLt) (by rw [← r1]; exact (Ev.hN β 75).isLt) hZ' (Ev.pre_cell hS (i := 15) rfl).1 (Ev.pre_cell hS (i := 15) rfl).2 hmem (Ev.pre_cell hO (i := 0) rfl).1 (Ev.pre_cell hO (i := 3) rfl).1 (Ev.pre_cell hO (i := 0) rfl).2 ((M.keep b9 l9 (by omega) (by omega)).trans hwant) A' hA' hd' M.t9 M.t16 M.t18
  ·have q2 : ((R.1.length : Int) != 2) = true := by simp only [bne_iff_ne, ne_eq]; omega
   clear HD HMK hbl hb3 pz pz3
   go_wp2_with fail
   go_ret
   exact ⟨rfl, hZ⟩
 ·have q : (R.2 != 0) = true := by simp [hE]
  clear HD HMK hbl hb3 pz pz3
  go_wp2_with fail
  go_ret
  exact ⟨rfl, hZ⟩
end Go.Proofs.YtebpijlmeemfaaaGreatDoor
end
