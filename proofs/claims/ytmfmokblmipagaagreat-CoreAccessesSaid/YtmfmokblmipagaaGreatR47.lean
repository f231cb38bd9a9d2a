/-
  Texts Th, Ti.
-/
import Derived.Test.YtmfmokblmipagaaGreatR24
import Derived.Test.YtmfmokblmipagaaGreatR31
import Derived.Test.YtmfmokblmipagaaGreatR32
import Derived.Test.YtmfmokblmipagaaGreatR39
import Derived.Test.YtmfmokblmipagaaGreatR45
import Derived.Test.YtmfmokblmipagaaGreatR46
set_option linter.unusedSimpArgs false
set_option linter.unusedVariables false
set_option maxHeartbeats 8000000
open Pl
section
namespace Go.Proofs.YtmfmokblmipagaaGreat
open Go.RowKit Pl
theorem runs_110 (β : Nat → Nat) : ∃ L2, Runs none (([0 + 3, 0 + 2, 0 + 1, 0].map setc) ++ addC 8 9259542123273814144 9187201950435737471 0 (0 + 2) ++ addC 8 9259542123273814144 9187201950435737471 (0 + 1) (0 + 3)) ⟨[257, 0, 514, 0], List.replicate 64 0, β, 0⟩ ⟨[771, 0], L2, β, 0⟩ := by
 have hs : Does none ([3, 2, 1, 0].map setc) ⟨[257, 0, 514, 0], List.replicate 64 0, β, 0⟩ ⟨[], 257 :: 0 :: 514 :: 0 :: List.replicate 60 0, β, 0⟩ :=
  Does.con (d_set (V := [257, 0, 514]) (by decide) (by decide)) (Does.con (d_set (V := [257, 0]) (by decide) (by decide)) (Does.con (d_set (V := [257]) (by decide) (by decide)) (d_set (V := []) (by decide) (by decide))))
 have ha : ∀ (V : List (BitVec 64)) (i j : Nat) (x y : BitVec 64), V.length ≤ 50 → (257 :: 0 :: 514 :: 0 :: List.replicate 60 (0 : BitVec 64))[i]? = some x → (257 :: 0 :: 514 :: 0 :: List.replicate 60 (0 : BitVec 64))[j]? = some y → Does none (addC 8 9259542123273814144 9187201950435737471 i j) ⟨V, 257 :: 0 :: 514 :: 0 :: List.replicate 60 0, β, 0⟩ ⟨V ++ [((x &&& BitVec.ofNat 64 9187201950435737471) + (y &&& BitVec.ofNat 64 9187201950435737471)) ^^^ ((x ^^^ y) &&& BitVec.ofNat 64 9259542123273814144)], 257 :: 0 :: 514 :: 0 :: List.replicate 60 0, β, 0⟩ := by
  intro V i j x y hV hx hy
  unfold addC
  rw [if_neg (by decide)]
  refine Does.con (d_get hx (by omega)) (Does.app (l1 := [_, _]) (d_nand (by omega) (by decide)) (Does.con (d_get (V := V ++ [_]) hy (by simp; omega)) (Does.app (l1 := [_, _]) (d_nand (V := V ++ [_]) (by simp; omega) (by decide)) ?_)))
  rw [app2]
  refine Does.con (d_add (by omega)) (Does.con (d_get (V := V ++ [_]) hx (by simp; omega)) (Does.con (d_get (V := V ++ [_] ++ [_]) hy (by simp; omega)) ?_))
  rw [List.append_assoc (V ++ [_])]
  refine Does.con (d_xor (V := V ++ [_]) (by simp; omega)) (Does.app (l1 := [_, _]) (d_nand (V := V ++ [_]) (by simp; omega) (by decide)) ?_)
  rw [app2]
  exact d_xor (by omega)
 have e1 : ((257 &&& BitVec.ofNat 64 9187201950435737471) + (514 &&& BitVec.ofNat 64 9187201950435737471)) ^^^ ((257 ^^^ 514) &&& BitVec.ofNat 64 9259542123273814144) = (771 : BitVec 64) := by decide
 have e2 : ((0 &&& BitVec.ofNat 64 9187201950435737471) + (0 &&& BitVec.ofNat 64 9187201950435737471)) ^^^ ((0 ^^^ 0) &&& BitVec.ofNat 64 9259542123273814144) = (0 : BitVec 64) := by decide
 have a1 := ha [] 0 2 257 514 (by decide) rfl rfl
 have a2 := ha [771] 1 3 0 0 (by decide) rfl rfl
 rw [e1] at a1
 rw [e2] at a2
 exact ⟨_, ((hs.app a1).app a2).runs⟩
theorem runs_12 (β : Nat → Nat) (L : List (BitVec 64)) : Runs none [numc 3, numc 4] ⟨[], L, β, 0⟩ ⟨[3, 4], L, β, 0⟩ :=
 (Does.con (d_num (V := []) (n := 3) (by decide) (by decide)) (d_num (V := [_]) (n := 4) (by decide) (by decide))).runs
theorem VS.new1 {u : World} {V : List (BitVec 64)} (c n : Nat) (hn : n = V.length) : VS (u.alloc (.cells (u6s V).toArray 22)) (.slice (some ⟨u.heap.size, 0, none⟩) n c) V := by
 subst hn
 exact ⟨_, _, _, rfl, heap_alloc_new _ _, fun i x hx => by simp [u6s, hx]⟩
theorem VS.alloc {u : World} {v : Value} {V : List (BitVec 64)} (h : VS u v V) (o : Obj) : VS (u.alloc o) v V := by
 obtain ⟨b, c, cur, e, h1, h2⟩ := h.ex
 exact ⟨b, c, cur, e, blk_alloc h1 o, h2⟩
theorem VS.below {u u2 : World} {v : Value} {V : List (BitVec 64)} (h : VS u v V) (hb : Below u.heap.size u u2) : VS u2 v V := by
 obtain ⟨b, c, cur, e, h1, h2⟩ := h.ex
 exact ⟨b, c, cur, e, blk_keep h1 hb, h2⟩
theorem OV.below {w u : World} {s : CS} {v l : Value} (h : OV none w s v l u) : Below w.heap.size w u := ⟨h.k.os, h.k.tape, h.k.output, h.k.size, fun k hk => h.k.block k hk (fun ⟨o, ho, _⟩ => by cases ho)⟩
theorem SQ.arg {w u : World} {cs : List Cel} {v : Value} (h : SQ w cs v u) (h0 : cs ≠ []) : ∃ X cX, v = .slice (some ⟨X, 0, none⟩) cs.length cX ∧ w.heap.size ≤ X ∧ ∃ cur, u.heap[X]? = some (.cells cur 130 (0, 0)) ∧ cur.toList.take (cs.length * 3) = celsR cs := by
 rcases h.own.2 with ⟨_, h1⟩ | ⟨g, cap, cur, e, hB, hh, hn, hm, hs, ht⟩
 ·exact absurd (List.eq_nil_of_length_eq_zero h1) h0
 ·exact ⟨g, cap, e, hB, cur, hh, ht⟩
theorem makes_a : ∃ cs : List Cel, (∀ W, Calls Tryz.prog 8 #[inV 64878 0 0 0 0 (.slice none 0 0), .int .i64 0] W fun e w' => ∃ v, e = .returned (.tuple #[v, .int .i64 4, .int .i64 0]) ∧ SQ W cs v w') ∧ cs ≠ [] ∧ cs.length ≤ 500 ∧ ∃ L2, Runs none cs ⟨[257, 0, 514, 0], List.replicate 64 0, fun _ => 0, 0⟩ ⟨[771, 0], L2, fun _ => 0, 0⟩ :=
 ⟨_, fun W => swseq_110 0 0 0 0 (.slice none 0 0) 0 W (by decide), by simp, by simp [addC], runs_110 _⟩
theorem makes_b : ∃ cs : List Cel, (∀ W, Calls Tryz.prog 10 #[inV 64780 0 0 3 4 (.slice none 0 0), .int .i64 0] W fun e w' => ∃ v, e = .returned (.tuple #[v, .int .i64 0, .int .i64 0]) ∧ SQ W cs v w') ∧ cs ≠ [] ∧ cs.length ≤ 500 ∧ ∃ L2, Runs none cs ⟨[], List.replicate 64 0, fun _ => 0, 0⟩ ⟨[3, 4], L2, fun _ => 0, 0⟩ :=
 ⟨_, fun W => pmseq_12 0 0 3 4 (.slice none 0 0) 0 W (by decide), by simp, by simp, ⟨_, runs_12 _ _⟩⟩
theorem makes_c (W : World) : Calls Tryz.prog 11 #[inV 64768 0 0 0 0 (.slice none 0 0), .int .i64 0] W fun e w' => ∃ v, e = .returned (.tuple #[v, .int .i64 1, .int .i64 0]) ∧ Below W.heap.size W w' :=
 (seq_0 0 0 0 0 0 (.slice none 0 0) W (by decide) (by decide)).mono fun e w' ⟨v, h1, h2⟩ => ⟨v, h1, h2.bel⟩
theorem zeros64 : ∃ Z : List (BitVec 64), Z = List.replicate 64 0 ∧ Z.length = 64 := ⟨_, rfl, by simp⟩
set_option maxRecDepth 100000 in
theorem makes_k (w : World) : Calls Tryz.prog 4 #[] w fun e w' => e = .returned (.bool true) ∧ Below w.heap.size w w' := by
 obtain ⟨Z, hZ, hZl⟩ := zeros64
 have hmk : ∀ W : World, (Instr.makeSlice 38 (.int .i64 64) (.int .i64 64)).run Tryz.prog W = .ok (.slice (some ⟨W.heap.size, 0, none⟩) 64 64) (W.alloc (.cells (u6s Z).toArray 22)) := fun W => hZ ▸ make_u64 W 64 (by decide)
 obtain ⟨cs1, h1, h1n, h1l, L1, h1r⟩ := makes_a
 obtain ⟨cs2, h2, h2n, h2l, L2, h2r⟩ := makes_b
 rw [← hZ] at h1r h2r
 clear hZ
 have HS := Lib.hid h1
 have HP := Lib.hid h2
 have HR1 := Lib.hid h1r
 have HR2 := Lib.hid h2r
 have HM := Lib.hid makes_c
 have HZL := Lib.hid hZl
 clear h1 h2 h1r h2r hZl
 go_enter Tryz.func4, Tryz.ntmps4
 go_upto_region 2 with (go_at_call 8; refine (HS.out _).mono ?_; rintro e u1 ⟨v1, rfl, hq1⟩)
 obtain ⟨X1, c1, rfl, hX1, hc1⟩ := hq1.arg h1n
 go_upto_region 3 with fail
 obtain ⟨W, hW⟩ : ∃ W, W = ((u1.alloc (.cells #[.int .u64 257, .int .u64 0, .int .u64 514, .int .u64 0] 22)).alloc (.cells (u6s Z).toArray 22)) := ⟨_, rfl⟩
 have hV1 : VS W (.slice (some ⟨u1.heap.size, 0, none⟩) 4 4) [257, 0, 514, 0] := hW ▸ VS.alloc (VS.new1 (V := [257, 0, 514, 0]) 4 4 rfl) _
 have hL1 : VS W (.slice (some ⟨u1.heap.size + 1, 0, none⟩) 64 64) Z := by
  have := VS.new1 (u := u1.alloc (.cells #[.int .u64 257, .int .u64 0, .int .u64 514, .int .u64 0] 22)) (V := Z) 64 64 HZL.out.symm
  rw [hW]
  simpa using this
 have hbW : Below u1.heap.size u1 W := hW ▸ ((Below.refl _ _).alloc (Nat.le_refl _) _).alloc (by simp) _
 rw [← hW]
 clear hW
 refine Calls.mono (straight_k X1 c1 _ _ cs1 [257, 0, 514, 0] Z (fun _ => 0) _ W (by obtain ⟨cur, h1, h2⟩ := hc1; exact ⟨cur, blk_keep h1 hbW, h2⟩) (.inl hV1) hL1 (by decide) (by rw [HZL.out]; decide) h1l HR1.out) ?_
 rintro e u2 ⟨w2, l2, rfl, hov2⟩
 clear hV1 hL1
 have HB2 := Lib.hid (hq1.bel.trans ((hbW.trans (hov2.below.mono hbW.size)).mono hq1.bel.size))
 have HV2 := Lib.hid (NV.of_own hov2.v)
 clear hov2 hbW hc1 hX1 hq1
 go_upto_region 4 with (go_at_call 10; refine (HP.out _).mono ?_; rintro e u3 ⟨v3, rfl, hq3⟩)
 obtain ⟨X3, c3, rfl, hX3, hc3⟩ := hq3.arg h2n
 go_upto_region 5 with fail
 obtain ⟨W, hW⟩ : ∃ W, W = (u3.alloc (.cells (u6s Z).toArray 22)) := ⟨_, rfl⟩
 have hL1 : VS W (.slice (some ⟨u3.heap.size, 0, none⟩) 64 64) Z := hW ▸ VS.new1 (V := Z) 64 64 HZL.out.symm
 have hbW : Below u3.heap.size u3 W := hW ▸ (Below.refl _ _).alloc (Nat.le_refl _) _
 rw [← hW]
 clear hW
 refine Calls.mono (straight_k X3 c3 _ _ cs2 [] Z (fun _ => 0) _ W (by obtain ⟨cur, h1, h2⟩ := hc3; exact ⟨cur, blk_keep h1 hbW, h2⟩) (.inr ⟨rfl, rfl⟩) hL1 (by decide) (by rw [HZL.out]; decide) h2l HR2.out) ?_
 rintro e u4 ⟨w4, l4, rfl, hov4⟩
 have HB4 := Lib.hid (hq3.bel.trans ((hbW.trans (hov4.below.mono hbW.size)).mono hq3.bel.size))
 have HV4 := Lib.hid (NV.of_own hov4.v)
 clear hL1 hov4 hbW hc3 hX3 hq3
 go_upto_region 6 with (go_at_call 11; refine (HM.out _).mono ?_; rintro e u5 ⟨v5, rfl, hb5⟩)
 have HBB := Lib.hid (HB2.out.trans ((HB4.out.trans (hb5.mono HB4.out.size)).mono HB2.out.size))
 have HV2b := Lib.hid ((HV2.out.below HB4.out).below hb5)
 have HV4b := Lib.hid (HV4.out.below hb5)
 clear HB2 HB4 HV2 HV4 hb5
 have ba : ∀ (u : World) (o : Obj), Below u.heap.size u (u.alloc o) := fun u o => (Below.refl _ _).alloc (Nat.le_refl _) o
 go_wp2_with fail
 refine Calls.mono (samen_k _ _ [771, 0] _ (HV2b.out.below (ba _ _)) (NV.cells (V := [771, 0]) (c := 2) (heap_alloc_new _ _) rfl) (by decide)) ?_
 rintro e u6 ⟨rfl, hb6⟩
 have hb56 := (ba _ _).trans (hb6.mono (by simp))
 go_wp2_with fail
 refine Calls.mono (samen_k _ _ [3, 4] _ ((HV4b.out.below hb56).below (ba _ _)) (NV.cells (V := [3, 4]) (c := 2) (heap_alloc_new _ _) rfl) (by decide)) ?_
 rintro e u7 ⟨rfl, hb7⟩
 have hb67 := (ba _ _).trans (hb7.mono (by simp))
 go_wp2_with fail
 go_ret
 exact ⟨rfl, HBB.out.trans ((hb56.trans (hb67.mono hb56.size)).mono HBB.out.size)⟩
end Go.Proofs.YtmfmokblmipagaaGreat
end
section
namespace Go.Proofs.YtmfmokblmipagaaGreat
open Go.RowKit Pl
def layB (i : Nat) (k : Nat) : Nat := if k < i then patB k else 0
theorem layB_lt (i k : Nat) : layB i k < 256 := by
 unfold layB
 split
 ·exact patB_lt k
 ·decide
theorem layB_zero : layB 0 = fun _ => 0 := by funext k; simp [layB]
theorem layB_succ (i : Nat) : upd (layB i) i (patB i) = layB (i + 1) := by
 funext k
 unfold upd layB
 by_cases h : k = i
 ·subst h; simp
 ·simp only [h, if_false]
  by_cases h2 : k < i
  ·simp [h2, show k < i + 1 by omega]
  ·simp [h2, show ¬ k < i + 1 by omega]
theorem keep_set (w : World) (q i : Nat) (v : Value) : Keep (fun k => k = q) w (w.setCell ⟨q, i, none⟩ v) := Keep.setCell (S := fun k => k = q) (Keep.refl _ w) (p := ⟨q, i, none⟩) (.inl rfl) v
theorem run_conv {o : Oper} {a : Act} {w : World} (x : Operand) (s d : TypeId) (ho : o.op = .convert s d x) (v : Value) (hx : a.eval x = v) (v1 : Value) (h : (convert s d v).run Tryz.prog w = .ok v1 w) : (execOp a.eval o).run Tryz.prog w = .ok (.value v1) w := by
 simp [execOp, ho, hx, h, Result.andThen]
theorem VS.ops1 {w : World} {O x : Nat} (h : w.heap[O]? = some (.cells #[.int .u64 (x : Int)] 22 (0, 0))) (hx : x < 18446744073709551616) : VS w (.slice (some ⟨O, 0, none⟩) 1 1) [w64 x] := by
 refine ⟨O, 1, _, rfl, h, fun i y hy => ?_⟩
 obtain ⟨hi, e⟩ := List.getElem?_eq_some_iff.1 hy
 obtain rfl : i = 0 := by simpa using hi
 subst e
 simp [w64_nat x hx]
theorem Runs.castN {N N2 : Option Nat} {cs : List Cel} {a b : CS} (h : Runs N cs a b) (e : N = N2) : Runs N2 cs a b := e ▸ h
theorem NV.keep {w u : World} {v : Value} {V : List (BitVec 64)} {S : Nat → Prop} (h : NV w v V) (k : Keep S w u) (hn : ∀ b n c, v = .slice (some ⟨b, 0, none⟩) n c → ¬ S b) : NV u v V := by
 obtain ⟨ad, c, e, h1⟩ := h.ex
 refine ⟨ad, c, e, fun i x hx => ?_⟩
 obtain ⟨b, e1, h2, h3⟩ := h1 i x hx
 refine ⟨b, e1, Nat.lt_of_lt_of_le h2 k.size, ?_⟩
 have hb := k.block b h2 (hn b _ _ (by rw [e, e1]))
 simp only [World.cell?] at h3 ⊢
 rw [hb]
 exact h3
theorem under_su3 : Tryz.prog.underlying 38 = some (.slice (Tryz.prog.elem 38)) := by kernel_rfl
theorem size_su3 (u : World) : (sizeOf (Tryz.prog.elem 38)).run Tryz.prog u = .ok 1 u := by kernel_rfl
theorem run_ixu3 {o : Oper} {a : Act} {w : World} (x i : Operand) (ho : o.op = .indexAddr 38 x i) (b off n c : Nat) (hx : a.eval x = .slice (some ⟨b, off, none⟩) n c) (z : Int) (hi : a.eval i = .int .i64 z) (k : Nat) (hz : z = k) (hk : k < n) :
 (execOp a.eval o).run Tryz.prog w = .ok (.value (.pointer (some ⟨b, off + k, none⟩))) w := by
 have h2 : (0 ≤ z ∧ z < (n : Int)) := by omega
 unfold execOp
 simp only [ho, hx, hi, Sem.run_bind, run_indexAt_slice (h := under_su3)]
 rw [if_pos h2, size_su3]
 subst hz
 simp [Go.Addr.add_mid, go_sem]
theorem vsz_small (op : Int) : 0 ≤ vszN op ∧ vszN op ≤ 16 := by
 unfold vszN
 split
 ·generalize (op - 64768).toNat = i
  rcases (show i = 0 ∨ i = 1 ∨ i = 2 ∨ i = 3 ∨ i = 4 ∨ i = 5 ∨ i = 6 ∨ i = 7 ∨ i = 8 ∨ i = 9 ∨ i = 10 ∨ i = 11 ∨ 12 ≤ i by omega) with h | h | h | h | h | h | h | h | h | h | h | h | h
  all_goals first | (subst h; decide) | (rw [List.getD_eq_getElem?_getD, List.getElem?_eq_none (by simpa using h)]; decide)
 ·split
  ·generalize (op - 64852).toNat = i
   rcases (show i = 0 ∨ i = 1 ∨ i = 2 ∨ i = 3 ∨ i = 4 ∨ i = 5 ∨ i = 6 ∨ i = 7 ∨ i = 8 ∨ i = 9 ∨ 10 ≤ i by omega) with h | h | h | h | h | h | h | h | h | h | h
   all_goals first | (subst h; decide) | (rw [List.getD_eq_getElem?_getD, List.getElem?_eq_none (by simpa using h)]; decide)
  ·decide
theorem VS.of_own2 {w : World} {B : Nat} {v : Value} {V : List (BitVec 64)} (h : w.ownsRow B 22 1 v V.length (u6s V)) (h0 : V ≠ []) : VS w v V := by
 rcases h.2 with ⟨_, h1⟩ | ⟨g, cap, cur, e, hB, hh, hn, hm, hs, ht⟩
 ·exact absurd (List.eq_nil_of_length_eq_zero h1) h0
 ·refine ⟨g, cap, cur, e, hh, fun i x hx => ?_⟩
  have h1 : (u6s V)[i]? = some (Value.int .u64 (x.toNat : Int)) := by simp [u6s, hx]
  rw [← ht, List.getElem?_take] at h1
  split at h1
  ·rw [← h1]; simp
  ·simp at h1
theorem app_src (v : Vec) (u : World) : ∀ (j : Nat) (y : BitVec 64), [w64 (getN v 64 0), w64 (getN v 64 1)][j]? = some y → (u.alloc (.cells #[.int .u64 (getN v 64 0 : Int), .int .u64 (getN v 64 1 : Int)] 22)).cell? ⟨u.heap.size, 0 + j, none⟩ = some (.int .u64 (y.toNat : Int)) := by
 intro j y hy
 rw [Nat.zero_add, cell_of_row _ _ j _ _ _ (heap_alloc_new _ _)]
 obtain ⟨hj, e⟩ := List.getElem?_eq_some_iff.1 hy
 have hj2 : j = 0 ∨ j = 1 := by simp at hj; omega
 rcases hj2 with rfl | rfl
 ·subst e; simp [w64_nat _ (half_lt v 0)]
 ·subst e; simp [w64_nat _ (half_lt v 1)]
theorem VS.keep {w u : World} {v : Value} {V : List (BitVec 64)} {S : Nat → Prop} (h : VS w v V) (k : Keep S w u) (hn : ∀ b n c, v = .slice (some ⟨b, 0, none⟩) n c → ¬ S b) : VS u v V := by
 obtain ⟨b, c, cur, e, h1, h2⟩ := h.ex
 exact ⟨b, c, cur, e, k.get h1 (hn b _ _ e), h2⟩
theorem isAgg_bys (w : World) : (isAgg 45).run Tryz.prog w = .ok false w := by kernel_rfl
theorem MemAt.reb {w : World} {o : MObj} (h : MemAt w o) {γ : Nat → Nat} (e : ∀ i, i < o.n → γ i = o.β i) : MemAt w (withβ o γ) := ⟨h.obj, h.row.congr e, h.pages, h.most, h.apart⟩
end Go.Proofs.YtmfmokblmipagaaGreat
end
