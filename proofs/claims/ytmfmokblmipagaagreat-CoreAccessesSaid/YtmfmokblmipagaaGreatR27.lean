/-
  Texts TaX, TaY.
-/
import Derived.Test.YtmfmokblmipagaaGreatR21
import Derived.Deep.QuietTactic
import Derived.BigQuiet
set_option linter.unusedSimpArgs false
set_option linter.unusedVariables false
set_option maxHeartbeats 8000000
open Pl
section
namespace Go.Proofs.YtmfmokblmipagaaGreat
open Go.RowKit Pl
theorem run_bu1_op {o : Oper} {a : Act} {w : World} (x : Operand) (z : Int) (ho : o.op = .buildSlice 38 1 #[(0, x)]) (hx : a.eval x = .int .u64 z) : (execOp a.eval o).run Tryz.prog w = .ok (.value (.slice (some ⟨w.heap.size, 0, none⟩) 1 1)) (w.alloc (.cells #[.int .u64 z] 22)) := by
 have hp : (#[(0, x)] : Array (Nat × Operand)).map (fun (i, x) => (i, a.eval x)) = #[(0, .int .u64 z)] := by simp [hx]
 unfold execOp
 simp only [ho]
 rw [hp, Sem.run_bind, run_bu1]
 rfl
structure US (W0 : World) (B : Nat) (vr : Value) (xs : List (BitVec 64)) (x : BitVec 64) (D : List Value) (w : World) : Prop where
 gr : W0.grownBy w vr.ownBlock
 d0 : D = [] → Below W0.heap.size W0 w
 d1 : ∀ s, D = [s] → Below W0.heap.size W0 w ∧ ∃ X, s = .slice (some ⟨X, 0, none⟩) 1 1 ∧ w.heap[X]? = some (.cells #[.int .u64 (x.toNat : Int)] 22 (0, 0))
 d2 : ∀ s v, D = [v, s] → w.ownsRow B 22 1 v (xs ++ [x]).length (u6s (xs ++ [x])) ∧ ∀ n, v.ownBlock = some n → vr.ownBlock = some n ∨ W0.heap.size ≤ n
theorem US.start {W0 : World} {B : Nat} {vr : Value} {xs : List (BitVec 64)} {x : BitVec 64} : US W0 B vr xs x [] W0.drew :=
 ⟨grown_of_below ((Below.refl _ _).drew), fun _ => (Below.refl _ _).drew, fun s h => by simp at h, fun s v h => by simp at h⟩
theorem US.mk1 {W0 w : World} {B : Nat} {vr : Value} {xs : List (BitVec 64)} {x : BitVec 64} (h : US W0 B vr xs x [] w) : US W0 B vr xs x [.slice (some ⟨w.heap.size, 0, none⟩) 1 1] (w.alloc (.cells #[.int .u64 (x.toNat : Int)] 22)) :=
 ⟨grown_of_below ((h.d0 rfl).alloc (h.d0 rfl).size _), fun h => by simp at h, fun s hs => ⟨(h.d0 rfl).alloc (h.d0 rfl).size _, w.heap.size, by simpa using hs.symm, heap_alloc_new _ _⟩, fun s v h => by simp at h⟩
theorem US.mk2 {W0 w : World} {B : Nat} {vr s : Value} {xs : List (BitVec 64)} {x : BitVec 64} (h : US W0 B vr xs x [s] w) (T : TypeId) (hown : W0.ownsRow B 22 1 vr xs.length (u6s xs)) (hsm : xs.length ≤ 500) (hB : B ≤ W0.heap.size) :
 ∃ u w', US W0 B vr xs x [u, s] w' ∧ (Builtin.append_ #[38, 38] T #[vr, s]).run Tryz.prog w = .ok u w' := by
 obtain ⟨hb, X, rfl, hx⟩ := h.d1 s rfl
 obtain ⟨v', w', hr, h2, h3, h5⟩ := run_appU B T vr xs [x] X 0 1 1 rfl w (own_below hown hb) (fun j y hj => by
  match j with
  | 0 =>
    simp at hj
    subst hj
    rw [cell_of_row w X _ _ _ _ hx]
    rfl
  | j + 1 => simp at hj) (by simp; omega) (Nat.le_trans hB hb.size)
 refine ⟨v', w', ⟨grown_trans (grown_of_below hb) h3, fun h => by simp at h, fun s h => by simp at h, fun s v hv => ?_⟩, hr⟩
 obtain ⟨rfl, rfl⟩ : v' = v ∧ _ := by simpa using hv
 refine ⟨h2, fun n hn => ?_⟩
 rcases h5 n hn with e | e
 ·exact .inl e
 ·exact .inr (by rw [e]; exact hb.size)
set_option maxRecDepth 100000 in
theorem plain_num (f : FX) (cs : List Cel) (w1 : World) (F : FixAt f cs w1) (a : Nat) (x : BitVec 64) (V L : List (BitVec 64)) (β : Nat → Nat) (lv : Value) (xx : Int) (u : World) (h : IS f w1 ⟨V, L, β, 0⟩ u) (hV : V.length ≤ 100) :
 Calls Tryz.prog 91 #[.pointer (some ⟨f.G, 0, none⟩), .pointer (some ⟨f.F, 0, none⟩), .agg (celR ⟨66, a, x.toNat⟩).toArray, lv, .int .u64 xx] u fun e u' => e = .returned (.tuple #[]) ∧ IS f w1 ⟨V ++ [x], L, β, 0⟩ u' := by
 have FF := Lib.hid F
 have HI := Lib.hid h
 have hnv : ∀ v l : Value, u.heap[f.F]? = some (.cells #[v, l] 128 (0, 0)) → ∀ k, v.ownBlock = some k → k < u.heap.size := fun v l hF k hk => by
  obtain ⟨v', l', h1, h2, _⟩ := h.fr
  rw [hF] at h1
  obtain ⟨rfl, rfl⟩ : v = v' ∧ l = l' := by simpa using h1
  exact (own_lt h2 k hk).2
 have hFu : ∀ o, (u.alloc o).heap[f.F]? = u.heap[f.F]? := fun o => Below.heap_alloc _ _ _ (Nat.lt_of_lt_of_le h.lt.2.1 h.keep.size)
 have hcl : (celR ⟨66, a, x.toNat⟩).toArray = #[.int .i64 66, .int .i64 (a : Int), .int .u64 (x.toNat : Int)] := rfl
 rw [hcl]
 clear h F hcl
 go_enter Tryz.func91, Tryz.ntmps91
 go_upto_region 25 with fail
 obtain ⟨W, hW⟩ : ∃ W, W = u.alloc (.cells #[.int .i64 66, .int .i64 (a : Int), .int .u64 (x.toNat : Int)] 130) := ⟨_, rfl⟩
 have hC : W.heap[u.heap.size]? = some (.cells #[.int .i64 66, .int .i64 (a : Int), .int .u64 (x.toNat : Int)] 130 (0, 0)) := hW ▸ heap_alloc_new _ _
 have hIW : Hid (IS f w1 ⟨V, L, β, 0⟩ W) := hW ▸ HI.out.below ((Below.refl _ _).alloc (Nat.le_refl _) _)
 have HNV0 : ∀ v l : Value, W.heap[f.F]? = some (.cells #[v, l] 128 (0, 0)) → ∀ k, v.ownBlock = some k → k < u.heap.size := fun v l hF => hnv v l (by rw [hW, hFu] at hF; exact hF)
 rw [← hW]
 have hus : w1.heap.size ≤ u.heap.size := HI.out.keep.size
 have huW : u.heap.size < W.heap.size := by rw [hW]; simp
 clear hW
 obtain ⟨v, l, hF, hv, hl, hvl⟩ := hIW.out.fr
 have HNV := HNV0 v l hF
 have kf : ∀ w2, W.grownBy w2 v.ownBlock → w2.heap[f.F]? = some (.cells #[v, l] 128 (0, 0)) := fun w2 g => (g.block f.F (block_lt hF) (fun e => by have := (own_lt hv _ e.symm).1; have := HI.out.lt.2.1; omega)).trans hF
 have kC : ∀ w2, W.grownBy w2 v.ownBlock → w2.heap[u.heap.size]? = some (.cells #[.int .i64 66, .int .i64 (a : Int), .int .u64 (x.toNat : Int)] 130 (0, 0)) := fun w2 g => (g.block u.heap.size huW (fun e => by have := own_lt hv _ e.symm; have := HNV _ e.symm; omega)).trans hC
 have KF := Lib.hid kf
 have KC := Lib.hid kC
 have HF := Lib.hid hF
 have HV := Lib.hid hv
 have HS6 : w1.heap.size ≤ W.heap.size := hIW.out.keep.size
 clear hF hv hl hvl hC HNV0 HNV kf kC hnv hFu
 refine region_sp2 (US W w1.heap.size v V x) 9 7 8 [0, 1, 2, 3, 4, 5, 6] rfl (by kernel_rfl) rfl rfl rfl rfl US.start ?_
 simp only [opsAt, List.getElem?_cons_zero, List.getElem?_cons_succ, List.drop_succ_cons, List.drop_zero]
 repeat (first | (refine wpDA_here rfl (fun D w hS => run_ldq _ isAgg_slu _ rfl f.F 0 rfl v (by rw [cell_of_row w f.F 0 _ _ _ (KF.out w hS.gr)]; rfl)) ?_; simp only [Act.put, z5, z6, z7]) | (refine wpDA_here rfl (fun D w hS => run_ldq _ isAgg_u7 _ rfl u.heap.size 2 rfl (.int .u64 (x.toNat : Int)) (by rw [cell_of_row w u.heap.size 2 _ _ _ (KC.out w hS.gr)]; rfl)) ?_; simp only [Act.put, z5, z6, z7]) | (refine wpDA_pure (v := ?_) rfl (fun u => ?_) ?_; rotate_left; (focus (go_simp; (try with_reducible rfl); done)); simp only [Act.put, z5, z6, z7]))
 refine wpDA_nil ⟨fun w hS => ⟨_, _, hS.mk1, run_bu1_op _ _ rfl rfl⟩, fun s => ⟨fun w hS => ?_, fun v2 w2 hS => ?_⟩⟩
 ·obtain ⟨v3, w3, h3, h4⟩ := hS.mk2 38 HV.out (by omega) HS6
  exact ⟨v3, w3, h3, run_app_op _ _ _ _ _ _ rfl rfl rfl h4⟩
 ·have hd := hS.d2 s v2 rfl
  obtain ⟨ad2, c2, rfl⟩ := own_slice hd.1
  have hF7 := KF.out w2 hS.gr
  have hz7 := frozen_of_row w2 f.F 0 _ _ hF7
  have hc7 : w2.cell? ⟨f.F, 0, none⟩ = some v := by rw [cell_of_row w2 f.F 0 _ _ _ hF7]; rfl
  have HI7 := Lib.hid (hIW.out.setV FF.out.gf FF.out.mm HF.out hS.gr (V ++ [x]) hd.1 hd.2)
  clear hF7 hd hS
  go_wp2_with fail
  go_end0
  exact ⟨rfl, by simpa using HI7.out⟩
set_option maxRecDepth 100000 in
theorem plain_get (f : FX) (cs : List Cel) (w1 : World) (F : FixAt f cs w1) (a m : Nat) (x : BitVec 64) (V L : List (BitVec 64)) (β : Nat → Nat) (lv : Value) (xx : Int) (u : World) (h : IS f w1 ⟨V, L, β, 0⟩ u) (hV : V.length ≤ 100) (hx : L[a]? = some x) :
 Calls Tryz.prog 91 #[.pointer (some ⟨f.G, 0, none⟩), .pointer (some ⟨f.F, 0, none⟩), .agg (celR ⟨32, a, m⟩).toArray, lv, .int .u64 xx] u fun e u' => e = .returned (.tuple #[]) ∧ IS f w1 ⟨V ++ [x], L, β, 0⟩ u' := by
 have FF := Lib.hid F
 have HI := Lib.hid h
 have hnv : ∀ v l : Value, u.heap[f.F]? = some (.cells #[v, l] 128 (0, 0)) → ∀ k, v.ownBlock = some k → k < u.heap.size := fun v l hF k hk => by
  obtain ⟨v', l', h1, h2, _⟩ := h.fr
  rw [hF] at h1
  obtain ⟨rfl, rfl⟩ : v = v' ∧ l = l' := by simpa using h1
  exact (own_lt h2 k hk).2
 have hFu : ∀ o, (u.alloc o).heap[f.F]? = u.heap[f.F]? := fun o => Below.heap_alloc _ _ _ (Nat.lt_of_lt_of_le h.lt.2.1 h.keep.size)
 have hcl : (celR ⟨32, a, m⟩).toArray = #[.int .i64 32, .int .i64 (a : Int), .int .u64 (m : Int)] := rfl
 rw [hcl]
 have hal : a < L.length := (List.getElem?_eq_some_iff.1 hx).1
 clear h F hcl
 go_enter Tryz.func91, Tryz.ntmps91
 go_upto_region 9 with fail
 obtain ⟨W, hW⟩ : ∃ W, W = u.alloc (.cells #[.int .i64 32, .int .i64 (a : Int), .int .u64 (m : Int)] 130) := ⟨_, rfl⟩
 have hC : W.heap[u.heap.size]? = some (.cells #[.int .i64 32, .int .i64 (a : Int), .int .u64 (m : Int)] 130 (0, 0)) := hW ▸ heap_alloc_new _ _
 have hIW : Hid (IS f w1 ⟨V, L, β, 0⟩ W) := hW ▸ HI.out.below ((Below.refl _ _).alloc (Nat.le_refl _) _)
 have HNV0 : ∀ v l : Value, W.heap[f.F]? = some (.cells #[v, l] 128 (0, 0)) → ∀ k, v.ownBlock = some k → k < u.heap.size := fun v l hF => hnv v l (by rw [hW, hFu] at hF; exact hF)
 rw [← hW]
 have hus : w1.heap.size ≤ u.heap.size := HI.out.keep.size
 have huW : u.heap.size < W.heap.size := by rw [hW]; simp
 clear hW
 obtain ⟨v, l, hF, hv, hl, hvl⟩ := hIW.out.fr
 have HNV := HNV0 v l hF
 obtain ⟨g, cap, cur, rfl, hgB, hgh, hgn, _, _, hgt⟩ : ∃ g cap cur, l = .slice (some ⟨g, 0, none⟩) L.length cap ∧ w1.heap.size ≤ g ∧ W.heap[g]? = some (.cells cur 22 (0, 0)) ∧ L.length ≤ cap ∧ cap ≤ maxLen ∧ cur.size = cap * 1 ∧ cur.toList.take (L.length * 1) = u6s L := by
  rcases hl.2 with ⟨_, e⟩ | hr
  ·have e2 : L.length = 0 := e
   omega
  ·exact hr
 have kf : ∀ w2, W.grownBy w2 v.ownBlock → w2.heap[f.F]? = some (.cells #[v, .slice (some ⟨g, 0, none⟩) L.length cap] 128 (0, 0)) := fun w2 g => (g.block f.F (block_lt hF) (fun e => by have := (own_lt hv _ e.symm).1; have := HI.out.lt.2.1; omega)).trans hF
 have kC : ∀ w2, W.grownBy w2 v.ownBlock → w2.heap[u.heap.size]? = some (.cells #[.int .i64 32, .int .i64 (a : Int), .int .u64 (m : Int)] 130 (0, 0)) := fun w2 g => (g.block u.heap.size huW (fun e => by have := own_lt hv _ e.symm; have := HNV _ e.symm; omega)).trans hC
 have KF := Lib.hid kf
 have KC := Lib.hid kC
 have hcx : cur[a]? = some (.int .u64 (x.toNat : Int)) := by
  have h2 : (cur.toList.take (L.length * 1))[a]? = some (.int .u64 (x.toNat : Int)) := by rw [hgt, u6s, List.getElem?_map, hx]; rfl
  rw [List.getElem?_take, if_pos (by omega)] at h2
  simpa using h2
 have kL : ∀ w2, W.grownBy w2 v.ownBlock → w2.cell? ⟨g, a, none⟩ = some (.int .u64 (x.toNat : Int)) := fun w2 gg => by
  rw [cell_of_row w2 g a _ _ _ ((gg.block g (block_lt hgh) (fun e => hvl g e.symm rfl)).trans hgh)]
  exact hcx
 have KL := Lib.hid kL
 have HF := Lib.hid hF
 have HV := Lib.hid hv
 have HS6 : w1.heap.size ≤ W.heap.size := hIW.out.keep.size
 clear hF hv hl hvl hC HNV0 HNV kf kC kL hnv hFu hgt hcx hx hgh
 refine region_sp2 (US W w1.heap.size v V x) 15 13 14 [0, 1, 2, 3, 4, 5, 6, 7, 8, 9, 10, 11, 12] rfl (by kernel_rfl) rfl rfl rfl rfl US.start ?_
 simp only [opsAt, List.getElem?_cons_zero, List.getElem?_cons_succ, List.drop_succ_cons, List.drop_zero]
 repeat (first | (refine wpDA_here rfl (fun D w hS => run_ldq _ isAgg_slu _ rfl f.F 0 rfl v (by rw [cell_of_row w f.F 0 _ _ _ (KF.out w hS.gr)]; rfl)) ?_; simp only [Act.put, z5, z6, z7]) | (refine wpDA_here rfl (fun D w hS => run_ldq _ isAgg_slu _ rfl f.F 1 rfl (.slice (some ⟨g, 0, none⟩) L.length cap) (by rw [cell_of_row w f.F 1 _ _ _ (KF.out w hS.gr)]; rfl)) ?_; simp only [Act.put, z5, z6, z7]) | (refine wpDA_here rfl (fun D w hS => run_ldq _ isAgg_int _ rfl u.heap.size 1 rfl (.int .i64 (a : Int)) (by rw [cell_of_row w u.heap.size 1 _ _ _ (KC.out w hS.gr)]; rfl)) ?_; simp only [Act.put, z5, z6, z7]) | (refine wpDA_here rfl (fun D w hS => run_ldq _ isAgg_u7 _ rfl g a rfl (.int .u64 (x.toNat : Int)) (KL.out w hS.gr)) ?_; simp only [Act.put, z5, z6, z7]) | (refine wpDA_pure (v := ?_) rfl (fun u => ?_) ?_; rotate_left; (focus (go_simp; (try with_reducible rfl); done)); simp only [Act.put, z5, z6, z7]))
 refine wpDA_nil ⟨fun w hS => ⟨_, _, hS.mk1, run_bu1_op _ _ rfl rfl⟩, fun s => ⟨fun w hS => ?_, fun v2 w2 hS => ?_⟩⟩
 ·obtain ⟨v3, w3, h3, h4⟩ := hS.mk2 38 HV.out (by omega) HS6
  exact ⟨v3, w3, h3, run_app_op _ _ _ _ _ _ rfl rfl rfl h4⟩
 ·have hd := hS.d2 s v2 rfl
  obtain ⟨ad2, c2, rfl⟩ := own_slice hd.1
  have hF7 := KF.out w2 hS.gr
  have hz7 := frozen_of_row w2 f.F 0 _ _ hF7
  have hc7 : w2.cell? ⟨f.F, 0, none⟩ = some v := by rw [cell_of_row w2 f.F 0 _ _ _ hF7]; rfl
  have HI7 := Lib.hid (hIW.out.setV FF.out.gf FF.out.mm HF.out hS.gr (V ++ [x]) hd.1 hd.2)
  clear hF7 hd hS
  go_wp2_with fail
  go_end0
  exact ⟨rfl, by simpa using HI7.out⟩
set_option maxRecDepth 100000 in
theorem plain_set (f : FX) (cs : List Cel) (w1 : World) (F : FixAt f cs w1) (a m : Nat) (x : BitVec 64) (V L : List (BitVec 64)) (β : Nat → Nat) (lv : Value) (xx : Int) (u : World) (h : IS f w1 ⟨V, L, β, 0⟩ u) (hal : a < L.length) (hlv : LV w1 lv [x] u) :
 Calls Tryz.prog 91 #[.pointer (some ⟨f.G, 0, none⟩), .pointer (some ⟨f.F, 0, none⟩), .agg (celR ⟨33, a, m⟩).toArray, lv, .int .u64 xx] u fun e u' => e = .returned (.tuple #[]) ∧ IS f w1 ⟨V, L.set a x, β, 0⟩ u' := by
 have FF := Lib.hid F
 have HI := Lib.hid h
 have hcl : (celR ⟨33, a, m⟩).toArray = #[.int .i64 33, .int .i64 (a : Int), .int .u64 (m : Int)] := rfl
 rw [hcl]
 obtain ⟨g2, c2, cur2, rfl, hg1, hg2, hg3⟩ := hlv.ex
 have hx := hg3 0 x rfl
 clear h F hcl hlv hg3
 go_enter Tryz.func91, Tryz.ntmps91
 go_upto_region 11 with fail
 obtain ⟨W, hW⟩ : ∃ W, W = u.alloc (.cells #[.int .i64 33, .int .i64 (a : Int), .int .u64 (m : Int)] 130) := ⟨_, rfl⟩
 have hC : W.heap[u.heap.size]? = some (.cells #[.int .i64 33, .int .i64 (a : Int), .int .u64 (m : Int)] 130 (0, 0)) := hW ▸ heap_alloc_new _ _
 have hIW : Hid (IS f w1 ⟨V, L, β, 0⟩ W) := hW ▸ HI.out.below ((Below.refl _ _).alloc (Nat.le_refl _) _)
 have hg4 : W.heap[g2]? = some (.cells cur2 22 (0, 0)) := hW ▸ blk_alloc hg2 _
 rw [← hW]
 have hus : w1.heap.size ≤ u.heap.size := HI.out.keep.size
 have huW : u.heap.size < W.heap.size := by rw [hW]; simp
 clear hW
 obtain ⟨v, l, hF, hv, hl, hvl⟩ := hIW.out.fr
 obtain ⟨g, cap, cur, rfl, hgB, hgh, hgn, _, _, hgt⟩ : ∃ g cap cur, l = .slice (some ⟨g, 0, none⟩) L.length cap ∧ w1.heap.size ≤ g ∧ W.heap[g]? = some (.cells cur 22 (0, 0)) ∧ L.length ≤ cap ∧ cap ≤ maxLen ∧ cur.size = cap * 1 ∧ cur.toList.take (L.length * 1) = u6s L := by
  rcases hl.2 with ⟨_, e⟩ | hr
  ·have e2 : L.length = 0 := e
   omega
  ·exact hr
 have HF := Lib.hid hF
 have HIL := Lib.hid (hIW.out.setL hF rfl a hal x)
 have hz := frozen_of_row W g a _ _ hgh
 have hca : ∃ y, W.cell? ⟨g, a, none⟩ = some y := by
  obtain ⟨h5, h6⟩ : a < cur.size ∧ True := ⟨by
   have : (cur.toList.take (L.length * 1)).length = (u6s L).length := by rw [hgt]
   rw [u6s_len, List.length_take] at this
   simp at this
   omega, trivial⟩
  exact ⟨cur[a], by rw [cell_of_row W g a _ _ _ hgh]; exact Array.getElem?_eq_getElem h5⟩
 obtain ⟨y0, hca⟩ := hca
 clear hv hl hvl hgt hgh hg2
 refine region_do (fun v => Below W.heap.size W v) 10 (by kernel_rfl) (by kernel_rfl) (Below.refl _ _).drew ?_
 simp only [zF, zE, zD, zC]
 repeat (first | (refine wpD_here rfl (fun v hS => run_ldq _ isAgg_slu _ rfl f.F 1 rfl (.slice (some ⟨g, 0, none⟩) L.length cap) (by rw [cell_of_row v f.F 1 _ _ _ (blk_keep hF hS)]; rfl)) ?_; simp only [Act.put, z5, z6, z7]) | (refine wpD_here rfl (fun v hS => run_ldq _ isAgg_int _ rfl u.heap.size 1 rfl (.int .i64 (a : Int)) (by rw [cell_of_row v u.heap.size 1 _ _ _ (blk_keep hC hS)]; rfl)) ?_; simp only [Act.put, z5, z6, z7]) | (refine wpD_here rfl (fun v hS => run_ldq _ isAgg_u7 _ rfl g2 0 rfl (.int .u64 (x.toNat : Int)) (by rw [cell_of_row v g2 0 _ _ _ (blk_keep hg4 hS)]; exact hx)) ?_; simp only [Act.put, z5, z6, z7]) | (refine wpD_pure (v := ?_) rfl (fun u => ?_) ?_; rotate_left; (focus (go_simp; (try with_reducible rfl); done)); simp only [Act.put, z5, z6, z7]))
 refine wpD_nil (fun w5 hb5 => ?_)
 have hI5 := hIW.out.below hb5
 have hF5 := blk_keep hF hb5
 have HI7 := Lib.hid (hI5.setL hF5 rfl a hal x)
 have hc5 := cell_kp hca hb5
 have hz5 : w5.frozen? ⟨g, a, none⟩ = false := (hb5.frozen (World.block_lt_of_cell? _ _ hca)).trans hz
 clear hF hF5 hI5 HIL hca hz
 go_wp2_with fail
 go_end0
 exact ⟨rfl, HI7.out⟩
set_option maxRecDepth 100000 in
theorem plain_def (f : FX) (op a m : Nat) (lv : Value) (xx : Int) (u : World) (R : World → Prop) (ho : op ≠ 26 ∧ op ≠ 27 ∧ op ≠ 32 ∧ op ≠ 33 ∧ op ≠ 34 ∧ op ≠ 35 ∧ op ≠ 36 ∧ op ≠ 63 ∧ op ≠ 64 ∧ op ≠ 66 ∧ op ≠ 256)
 (HN : ∀ u2, Below u.heap.size u u2 → Calls Tryz.prog 108 #[.pointer (some ⟨f.G, 0, none⟩), .pointer (some ⟨f.F, 0, none⟩), .agg (celR ⟨op, a, m⟩).toArray, lv] u2 fun e u' => e = .returned (.tuple #[]) ∧ R u') :
 Calls Tryz.prog 91 #[.pointer (some ⟨f.G, 0, none⟩), .pointer (some ⟨f.F, 0, none⟩), .agg (celR ⟨op, a, m⟩).toArray, lv, .int .u64 xx] u fun e u' => e = .returned (.tuple #[]) ∧ R u' := by
 obtain ⟨z, hz⟩ : ∃ z : Int, z = (op : Int) := ⟨_, rfl⟩
 have hcl : (celR ⟨op, a, m⟩).toArray = #[.int .i64 z, .int .i64 (a : Int), .int .u64 (m : Int)] := by rw [hz]; rfl
 rw [hcl] at HN ⊢
 have t26 : (z == 26) = false := beq_eq_false_iff_ne.2 (by omega)
 have t27 : (z == 27) = false := beq_eq_false_iff_ne.2 (by omega)
 have t32 : (z == 32) = false := beq_eq_false_iff_ne.2 (by omega)
 have t33 : (z == 33) = false := beq_eq_false_iff_ne.2 (by omega)
 have t34 : (z == 34) = false := beq_eq_false_iff_ne.2 (by omega)
 have t35 : (z == 35) = false := beq_eq_false_iff_ne.2 (by omega)
 have t36 : (z == 36) = false := beq_eq_false_iff_ne.2 (by omega)
 have t63 : (z == 63) = false := beq_eq_false_iff_ne.2 (by omega)
 have t64 : (z == 64) = false := beq_eq_false_iff_ne.2 (by omega)
 have t66 : (z == 66) = false := beq_eq_false_iff_ne.2 (by omega)
 have t256 : (z == 256) = false := beq_eq_false_iff_ne.2 (by omega)
 have H := Lib.hid HN
 clear HN hz hcl ho
 go_enter Tryz.func91, Tryz.ntmps91
 go_wp2_with (first | ((with_reducible refine load_cel ?_ _ rfl _ rfl _ _ _ (heap_alloc_new _ _) ?_); (focus rfl)) | (go_at_call 108; (with_reducible refine (H.out _ ((Below.refl _ _).alloc (Nat.le_refl _) _)).mono ?_); rintro e u3 ⟨rfl, hR⟩))
 go_end0
 exact ⟨rfl, hR⟩
end Go.Proofs.YtmfmokblmipagaaGreat
end
section
namespace Go.Proofs.YtmfmokblmipagaaGreat
open Go.RowKit Pl
set_option maxRecDepth 100000 in
theorem punder : ∃ fs, Tryz.prog.underlying 118 = some (.struct fs) := ⟨_, rfl⟩
theorem psize (a b : Value) : (Tryz.prog.info? 118).map (·.size) = some ([a, b] : List Value).length := by kernel_rfl
set_option maxRecDepth 100000 in
theorem cunder : ∃ fs, Tryz.prog.underlying 130 = some (.struct fs) := ⟨_, rfl⟩
theorem csize (a b c : Value) : (Tryz.prog.info? 130).map (·.size) = some ([a, b, c] : List Value).length := by kernel_rfl
theorem run_ldprog {o : Oper} {a : Act} {w : World} (x : Operand) (ho : o.op = .load 118 x) (g : Nat) (hx : a.eval x = .pointer (some ⟨g, 0, none⟩)) (y z : Value) (h : w.rangeAt g 0 [y, z]) : (execOp a.eval o).run Tryz.prog w = .ok (.value (.agg #[y, z])) w := by
 obtain ⟨fs, hf⟩ := punder
 unfold execOp
 simp only [ho, hx, Instr.loadAt, Instr.sureAddr, Sem.run_bind, Sem.run_pure, Result.andThen_ok, run_loadVar_mid w g 0 118 _ _ h hf rfl (psize y z)]
theorem run_ldcel {o : Oper} {a : Act} {w : World} (x : Operand) (ho : o.op = .load 130 x) (g : Nat) (hx : a.eval x = .pointer (some ⟨g, 0, none⟩)) (y z v : Value) (h : w.rangeAt g 0 [y, z, v]) : (execOp a.eval o).run Tryz.prog w = .ok (.value (.agg #[y, z, v])) w := by
 obtain ⟨fs, hf⟩ := cunder
 unfold execOp
 simp only [ho, hx, Instr.loadAt, Instr.sureAddr, Sem.run_bind, Sem.run_pure, Result.andThen_ok, run_loadVar_mid w g 0 130 _ _ h hf rfl (csize y z v)]
theorem range_pre {w : World} {g : Nat} {cs : Array Value} {T : TypeId} (h : w.heap[g]? = some (.cells cs T (0, 0))) (l : List Value) (hl : ∀ (j : Nat) (v : Value), l[j]? = some v → cs[j]? = some v) : w.rangeAt g 0 l := fun j v hj => by rw [cell_of_row w g _ _ _ _ h, Nat.zero_add]; exact hl j v hj
theorem own_take {w : World} {B : Nat} {e : TypeId} {ad : Option Addr} {n cp m : Nat} {xs : List Value} (h : w.ownsRow B e 1 (.slice ad n cp) n xs) (hm : m ≤ n) (hn : ad ≠ none) : w.ownsRow B e 1 (.slice ad m cp) m (xs.take m) := by
 rcases h.2 with ⟨h1, _⟩ | ⟨g, cap, cur, e1, hB, hh, hn2, hx, hs, ht⟩
 ·injection h1 with h1 _ _
  exact absurd h1 hn
 ·injection e1 with e1 e2 e3
  subst e1 e3
  refine ⟨by rw [List.length_take, h.1]; omega, .inr ⟨g, cp, cur, rfl, hB, hh, by omega, hx, hs, ?_⟩⟩
  rw [← ht, List.take_take]
  congr 1
  omega
theorem IS.cel {f : FX} {cs : List Cel} {w1 u : World} {s : CS} (h : IS f w1 s u) (F : FixAt f cs w1) (i : Nat) (c : Cel) (hc : cs[i]? = some c) : u.rangeAt f.X (3 * i) (celR c) := by
 obtain ⟨cur, h1, h2⟩ := F.ce
 have hX := h.keep.get h1 F.nx
 intro j v hj
 have hj3 : j < 3 := by have := (List.getElem?_eq_some_iff.1 hj).1; simpa [celR] using this
 have hi : i < cs.length := (List.getElem?_eq_some_iff.1 hc).1
 have e : (celsR cs)[3 * i + j]? = some v := by
  clear h1 h2 hX h F
  induction cs generalizing i with
  | nil => simp at hc
  | cons d cs ih =>
    cases i with
    | zero =>
      simp only [List.getElem?_cons_zero, Option.some.injEq] at hc
      subst hc
      simp only [celsR, List.flatMap_cons]
      rw [List.getElem?_append_left (by simp [celR]; omega)]
      simpa using hj
    | succ i =>
      simp only [List.getElem?_cons_succ] at hc
      simp only [celsR, List.flatMap_cons]
      rw [List.getElem?_append_right (by simp [celR]; omega)]
      have := ih i hc (by simpa using hi)
      rw [show 3 * (i + 1) + j - (celR d).length = 3 * i + j by simp [celR]; omega]
      exact this
 rw [cell_of_row u f.X _ _ _ _ hX]
 have h3 : (cur.toList.take (cs.length * 3))[3 * i + j]? = some v := by rw [h2]; exact e
 rw [List.getElem?_take, if_pos (by omega)] at h3
 simpa using h3
set_option maxRecDepth 100000 in
theorem step_t (f : FX) (cs : List Cel) (w1 : World) (F : FixAt f cs w1) (c : Cel) (i : Nat) (hi : cs[i]? = some c) (t g : Nat) (HT : Tab19 c.op t g) (V l : List (BitVec 64)) (hl : l.length = t) (L : List (BitVec 64)) (β : Nat → Nat) (s2 : CS) (u : World) (h : IS f w1 ⟨V ++ l, L, β, 0⟩ u) (hV : V.length ≤ 90 ∧ t ≤ 3 ∧ g ≤ 1) (hO : c.op = 32 ∨ c.op = 33 ∨ c.op = 66 ∨ c.op = 41 ∨ c.op = 49 ∨ c.op = 51 ∨ c.op = 53 ∨ c.op = 55 ∨ c.op = 60 ∨ c.op = 61 ∨ c.op = 62 ∨ 124 ≤ c.op ∧ c.op ≤ 138) (hM : 40 ≤ c.op ∧ c.op ≤ 64 → ∃ o, f.om = some o) (ht : 0 < t) (hic : cs.length ≤ 1000)
 (HP : ∀ (lv : Value) (xx : Int) (u2 : World), IS f w1 ⟨V, L, β, 0⟩ u2 → LV w1 lv l u2 → Calls Tryz.prog 91 #[.pointer (some ⟨f.G, 0, none⟩), .pointer (some ⟨f.F, 0, none⟩), .agg (celR c).toArray, lv, .int .u64 xx] u2 fun e u' => e = .returned (.tuple #[]) ∧ IS f w1 s2 u') :
 Calls Tryz.prog 54 #[.pointer (some ⟨f.G, 0, none⟩), .pointer (some ⟨f.F, 0, none⟩), .int .i64 0, .int .i64 (i : Int)] u fun e u' => e = .returned (.int .i64 ((i : Int) + 1)) ∧ IS f w1 s2 u' := by
 obtain ⟨z, hz⟩ : ∃ z : Int, z = (c.op : Int) := ⟨_, rfl⟩
 have FF := Lib.hid F
 have HI := Lib.hid h
 have hiL : i < cs.length := (List.getElem?_eq_some_iff.1 hi).1
 have hrun := h.run
 have hfn := h.fn F
 have hce := h.cel F i c hi
 obtain ⟨v, lr, hF, hv, hL, hvl⟩ := h.fr
 have k0 : u.cell? ⟨f.G, 1, none⟩ = some (.slice (some ⟨f.fb, 0, none⟩) 1 1) := by rw [cell_of_row u f.G 1 _ _ _ hrun]; rfl
 have k1 : u.cell? ⟨f.fb, 5, none⟩ = some (.slice (some ⟨f.X, 0, none⟩) cs.length f.c) := by rw [cell_of_row u f.fb 5 _ _ _ hfn]; rfl
 have q0 : u.cell? ⟨f.X, i * 3, none⟩ = some (.int .i64 z) := by rw [hz, show i * 3 = 3 * i + 0 by omega]; exact hce 0 _ rfl
 have q1 : u.cell? ⟨f.X, i * 3 + 1, none⟩ = some (.int .i64 (c.a : Int)) := by rw [show i * 3 + 1 = 3 * i + 1 by omega]; exact hce 1 _ rfl
 have q2 : u.cell? ⟨f.X, i * 3 + 2, none⟩ = some (.int .u64 (c.n : Int)) := by rw [show i * 3 + 2 = 3 * i + 2 by omega]; exact hce 2 _ rfl
 have HE : ∀ W, Calls Tryz.prog 86 #[.agg #[f.sg, .slice (some ⟨f.fb, 0, none⟩) 1 1], .int .i64 0, .agg #[.int .i64 z, .int .i64 (c.a : Int), .int .u64 (c.n : Int)]] W fun e w' => e = .returned (.tuple #[.int .i64 (t : Int), .int .i64 (g : Int)]) ∧ Below W.heap.size W w' := fun W => by
  rw [hz]
  exact effects_k f.sg _ 0 c.op c.a c.n t g W HT (by omega) (by omega)
 replace HE := Lib.hid HE
 have t35 : (z == 35) = false := beq_eq_false_iff_ne.2 (by omega)
 have t36 : (z == 36) = false := beq_eq_false_iff_ne.2 (by omega)
 have s0 : (z == 0) = false := beq_eq_false_iff_ne.2 (by omega)
 have s12 : (z == 12) = false := beq_eq_false_iff_ne.2 (by omega)
 have s13 : (z == 13) = false := beq_eq_false_iff_ne.2 (by omega)
 have s14 : (z == 14) = false := beq_eq_false_iff_ne.2 (by omega)
 have s15 : (z == 15) = false := beq_eq_false_iff_ne.2 (by omega)
 have s16 : (z == 16) = false := beq_eq_false_iff_ne.2 (by omega)
 have s17 : (z == 17) = false := beq_eq_false_iff_ne.2 (by omega)
 have s257 : (z == 257) = false := beq_eq_false_iff_ne.2 (by omega)
 have hMM : decide (40 ≤ z) = false ∨ decide (40 ≤ z) = true ∧ decide (z ≤ 64) = false ∨ decide (40 ≤ z) = true ∧ decide (z ≤ 64) = true ∧ ∃ o, f.om = some o := by
  by_cases c1 : 40 ≤ z
  ·by_cases c2 : z ≤ 64
   ·exact .inr (.inr ⟨decide_eq_true c1, decide_eq_true c2, hM (by omega)⟩)
   ·exact .inr (.inl ⟨decide_eq_true c1, decide_eq_false c2⟩)
  ·exact .inl (decide_eq_false c1)
 have HT0 := Lib.hid ht
 have HUS := Lib.hid h.keep.size
 have hcl : (celR c).toArray = #[.int .i64 z, .int .i64 (c.a : Int), .int .u64 (c.n : Int)] := by rw [hz]; rfl
 rw [hcl] at HP
 replace HP := Lib.hid HP
 have ei : IntKind.i64.wrap ((i : Int) + 1) = (i : Int) + 1 := IntWalk.i64_in _ (by omega)
 clear hcl
 clear h F hce HT hM hO ht
 clear hz
 go_enter Tryz.func54, Tryz.ntmps54
 go_upto_region 2 with fail
 obtain ⟨W, hW⟩ : ∃ W, W = u.alloc (.cells #[.int .i64 z, .int .i64 (c.a : Int), .int .u64 (c.n : Int)] 130) := ⟨_, rfl⟩
 have hC : W.heap[u.heap.size]? = some (.cells #[.int .i64 z, .int .i64 (c.a : Int), .int .u64 (c.n : Int)] 130 (0, 0)) := hW ▸ heap_alloc_new _ _
 have hIW : Hid (IS f w1 ⟨V ++ l, L, β, 0⟩ W) := hW ▸ HI.out.below ((Below.refl _ _).alloc (Nat.le_refl _) _)
 rw [← hW]
 clear hW k0 k1 q0 q1 q2 hrun hfn hF hv hL hvl
 have hrun := hIW.out.run
 have rP : W.rangeAt f.G 0 [f.sg, .slice (some ⟨f.fb, 0, none⟩) 1 1] := range_pre hrun _ (fun j v hj => by
  match j with
  | 0 => exact hj
  | 1 => exact hj
  | j + 2 => simp at hj)
 have rC : W.rangeAt u.heap.size 0 [.int .i64 z, .int .i64 (c.a : Int), .int .u64 (c.n : Int)] := range_pre hC _ (fun j v hj => by
  match j with
  | 0 => exact hj
  | 1 => exact hj
  | 2 => exact hj
  | j + 3 => simp at hj)
 refine region_do (fun v => Below W.heap.size W v) 11 (by kernel_rfl) (by kernel_rfl) (Below.refl _ _).drew ?_
 simp only [zF, zE, zD, zC]
 repeat (first | (refine wpD_here rfl (fun v hS => run_ldprog _ rfl f.G rfl f.sg (.slice (some ⟨f.fb, 0, none⟩) 1 1) (fun j y hj => cell_kp (rP j y hj) hS)) ?_; simp only [Act.put, z5, z6, z7]) | (refine wpD_here rfl (fun v hS => run_ldcel _ rfl u.heap.size rfl (.int .i64 z) (.int .i64 (c.a : Int)) (.int .u64 (c.n : Int)) (fun j y hj => cell_kp (rC j y hj) hS)) ?_; simp only [Act.put, z5, z6, z7]) | (refine wpD_call (v := .tuple #[.int .i64 (t : Int), .int .i64 (g : Int)]) rfl 86 ?_ (fun u => ?_) (fun u hS => ?_) ?_; rotate_left 1; (focus (go_simp; (try with_reducible rfl); done)); (focus (refine (HE.out _).mono ?_; rintro e u2 ⟨rfl, hb⟩; exact ⟨rfl, hS.trans (hb.mono hS.size)⟩)); simp only [Act.put, z5, z6, z7]) | (refine wpD_pure (v := ?_) rfl (fun u => ?_) ?_; rotate_left; (focus (go_simp; (try with_reducible rfl); done)); simp only [Act.put, z5, z6, z7]))
 refine wpD_nil (fun w5 hb5 => ?_)
 have hI5 := hIW.out.below hb5
 have hC5 := blk_keep hC hb5
 clear hrun rP rC hC hIW hb5 HI
 obtain ⟨v, lr, hF, hv, hL, hvl⟩ := hI5.fr
 have hvs := own_slice hv
 obtain ⟨ad, cp, rfl⟩ := hvs
 have k0 : w5.cell? ⟨f.F, 0, none⟩ = some (.slice ad (V ++ l).length cp) := by rw [cell_of_row w5 f.F 0 _ _ _ hF]; rfl
 have k1 : w5.cell? ⟨f.G, 2, none⟩ = some (.pointer (some ⟨f.sb, 0, none⟩)) := by rw [cell_of_row w5 f.G 2 _ _ _ hI5.run]; rfl
 have k2 : w5.cell? ⟨u.heap.size, 1, none⟩ = some (.int .i64 (c.a : Int)) := by rw [cell_of_row w5 u.heap.size 1 _ _ _ hC5]; rfl
 have k3 : w5.cell? ⟨u.heap.size, 0, none⟩ = some (.int .i64 z) := by rw [cell_of_row w5 u.heap.size 0 _ _ _ hC5]; rfl
 have hst := hI5.st FF.out
 have HS := Lib.hid (fun (W : World) (h : W.cell? ⟨f.sb, 13, none⟩ = some (.slice none 0 0)) => slot_k f.sb (c.a : Int) W h)
 have k4 := hst.1
 have HST := Lib.hid hst.2
 clear hst
 go_wp2_with fail
 go_quiet ((go_at_call 87; exact Calls.quiet_of_same (HS.out _ HST.out)))
 have hI6 : IS f w1 ⟨V ++ l, L, β, 0⟩ (w5.drewN nq) := hI5.below ⟨rfl, rfl, rfl, Nat.le_refl _, fun _ _ => rfl⟩
 have hF6 : (w5.drewN nq).heap[f.F]? = some (.cells #[.slice ad (V ++ l).length cp, lr] 128 (0, 0)) := hF
 have hC6 : (w5.drewN nq).heap[u.heap.size]? = some (.cells #[.int .i64 z, .int .i64 (c.a : Int), .int .u64 (c.n : Int)] 130 (0, 0)) := hC5
 have hv6 : (w5.drewN nq).ownsRow w1.heap.size 22 1 (.slice ad (V ++ l).length cp) (V ++ l).length (u6s (V ++ l)) := hv
 have hlen : (V ++ l).length = V.length + t := by rw [List.length_append, hl]
 rw [hlen] at hF6 hv6
 generalize w5.drewN nq = w6 at *
 clear hI5 hF hC5 hv k0 k1 k2 k3 k4 HST hL hvl
 have k0 : w6.cell? ⟨f.F, 0, none⟩ = some (.slice ad (V.length + t) cp) := by rw [cell_of_row w6 f.F 0 _ _ _ hF6]; rfl
 have k1 : w6.cell? ⟨f.G, 2, none⟩ = some (.pointer (some ⟨f.sb, 0, none⟩)) := by rw [cell_of_row w6 f.G 2 _ _ _ hI6.run]; rfl
 have k3 : w6.cell? ⟨u.heap.size, 0, none⟩ = some (.int .i64 z) := by rw [cell_of_row w6 u.heap.size 0 _ _ _ hC6]; rfl
 have k4 := (hI6.st FF.out).1
 obtain ⟨hV1, hV2, hV3⟩ := hV
 have f1 : decide ((V.length : Int) + t < t) = false := decide_eq_false (by omega)
 have e1 : IntKind.i64.wrap ((V.length : Int) + t - t) = (V.length : Int) := by rw [IntWalk.i64_in _ (by omega)]; omega
 have e2 : IntKind.i64.wrap ((V.length : Int) + g) = (V.length : Int) + g := IntWalk.i64_in _ (by omega)
 have f2 : decide ((1048576 : Int) < (V.length : Int) + g) = false := decide_eq_false (by omega)
 have ht0 : 0 < t := HT0.out
 have e3 : IntKind.i64.wrap ((t : Int) - 1) = (t : Int) - 1 := IntWalk.i64_in _ (by omega)
 obtain ⟨gv, cur, rfl, hgB, hgh, hgn, hgt⟩ : ∃ gv cur, ad = some ⟨gv, 0, none⟩ ∧ w1.heap.size ≤ gv ∧ w6.heap[gv]? = some (.cells cur 22 (0, 0)) ∧ V.length + t ≤ cp ∧ cur.toList.take ((V.length + t) * 1) = u6s (V ++ l) := by
  rcases hv6.2 with ⟨_, e⟩ | ⟨gv, cap, cur, e, hB, hh, hn, _, _, ht⟩
  ·omega
  ·injection e with e1 e2 e3
   subst e1 e3
   exact ⟨gv, cur, rfl, hB, hh, hn, ht⟩
 have hcur : ∀ (j : Nat) (x : BitVec 64), l[j]? = some x → cur[V.length + j]? = some (.int .u64 (x.toNat : Int)) := fun j x hx => by
  have hj := (List.getElem?_eq_some_iff.1 hx).1
  have h2 : (cur.toList.take ((V.length + t) * 1))[V.length + j]? = some (.int .u64 (x.toNat : Int)) := by
   rw [hgt, u6s, List.getElem?_map, List.getElem?_append_right (by omega), Nat.add_sub_cancel_left, hx]; rfl
  rw [List.getElem?_take, if_pos (by omega)] at h2
  simpa using h2
 have HCUR := Lib.hid hcur
 have HI6 := Lib.hid hI6
 have HF6 := Lib.hid hF6
 have HC6 := Lib.hid hC6
 have HGH := Lib.hid hgh
 have HV6 := Lib.hid hv6
 have hcp : ¬ cp = V.length := by omega
 clear hI6 hF6 hC6 hgh hcur hgt hlen hv6
 simp only [Exit.then]
 go_at_K
 have k4p : ∀ om, f.om = some om → w6.cell? ⟨f.sb, 11, none⟩ = some (.pointer (some ⟨om.p, 0, none⟩)) := fun om hom => by rw [hom] at k4; exact k4
 clear k4
 rcases hMM with hM1 | ⟨hM1, hM2⟩ | ⟨hM1, hM2, om, hom⟩
 rotate_left 2
 have k4 := k4p om hom
 rotate_left 1
 all_goals
  clear k4p
  go_upto_region 9 with fail
  go_upto_region 10 with (at_builtin; refine app_u rfl _ _ rfl w1.heap.size (.slice none 0 0) [] l rfl ⟨rfl, .inl ⟨rfl, rfl⟩⟩ gv V.length t (cp - V.length) hl.symm rfl (fun j x hx => by rw [cell_of_row w6 gv _ _ _ _ HGH.out]; exact HCUR.out j x hx) (by simp; omega) HI6.out.keep.size ?_; intro lv w7 hown7 g7 hn7)
  have hb7 : Below w6.heap.size w6 w7 := ⟨g7.os, g7.tape, g7.output, g7.size, fun k hk => g7.block k hk (by simp [Value.ownBlock])⟩
  have hI7 := HI6.out.below hb7
  have hF7 := blk_keep HF6.out hb7
  have hC7 := blk_keep HC6.out hb7
  have hv7 := own_below HV6.out hb7
  obtain ⟨gl, c7, cur7, rfl, hlB, hlh, hlt7⟩ : ∃ gl c7 cur7, lv = .slice (some ⟨gl, 0, none⟩) t c7 ∧ w1.heap.size ≤ gl ∧ w7.heap[gl]? = some (.cells cur7 22 (0, 0)) ∧ cur7.toList.take (l.length * 1) = u6s l := by
   rcases hown7.2 with ⟨_, e⟩ | ⟨gl, cap, cur7, e, hB, hh, hn, _, _, hx⟩
   ·have e2 : ([] ++ l).length = 0 := e
    rw [List.nil_append] at e2
    omega
   ·exact ⟨gl, cap, cur7, by rw [e]; simp [hl], hB, hh, by simpa using hx⟩
  have hlc : ∀ (j : Nat) (x : BitVec 64), l[j]? = some x → cur7[j]? = some (.int .u64 (x.toNat : Int)) := fun j x hx => by
   have hj := (List.getElem?_eq_some_iff.1 hx).1
   have h2 : (cur7.toList.take (l.length * 1))[j]? = some (.int .u64 (x.toNat : Int)) := by rw [hlt7, u6s, List.getElem?_map, hx]; rfl
   rw [List.getElem?_take, if_pos (by omega)] at h2
   simpa using h2
  have hLV : LV w1 (.slice (some ⟨gl, 0, none⟩) t c7) l w7 := ⟨gl, c7, cur7, by rw [hl], hlB, hlh, hlc⟩
  obtain ⟨x9, hx9⟩ : ∃ x, l[t - 1]? = some x := ⟨_, List.getElem?_eq_getElem (by omega)⟩
  obtain ⟨t1, rfl⟩ : ∃ t1, t = t1 + 1 := ⟨t - 1, by omega⟩
  have k9 : w7.cell? ⟨gl, t1, none⟩ = some (.int .u64 (x9.toNat : Int)) := by rw [cell_of_row w7 gl t1 _ _ _ hlh]; exact hlc t1 x9 (by simpa using hx9)
  have k0' : w7.cell? ⟨f.F, 0, none⟩ = some (.slice (some ⟨gv, 0, none⟩) (V.length + (t1 + 1)) cp) := by rw [cell_of_row w7 f.F 0 _ _ _ hF7]; rfl
  have z0 := frozen_of_row w7 f.F 0 _ _ hF7
  have k3' : w7.cell? ⟨u.heap.size, 0, none⟩ = some (.int .i64 z) := by rw [cell_of_row w7 u.heap.size 0 _ _ _ hC7]; rfl
  have HI7 := Lib.hid hI7
  have HF7 := Lib.hid hF7
  have HC7 := Lib.hid hC7
  have HV7 := Lib.hid hv7
  have HLV := Lib.hid hLV
  have HL := Lib.hid hl
  clear hI7 hF7 hC7 hv7 hLV hl hown7 g7 hn7 hb7 hlh hlt7 hlc hx9 k0 k1 k3
  try clear k4
  have hcp2 : V.length ≤ cp := by omega
  go_upto_region 53 with fail
  go_upto_region 54 with fail
  have hIV := HI7.out.setV FF.out.gf FF.out.mm HF7.out (grown_refl w7 _) (v2 := .slice (some ⟨gv, 0, none⟩) V.length cp) V (by
   have := own_take HV7.out (m := V.length) (by omega) (by simp)
   rw [show (u6s (V ++ l)).take V.length = u6s V by rw [u6s, List.map_append, List.take_left' (by simp)]; rfl] at this
   exact this) (fun k hk => .inl hk)
  have gs := grown_setCell w7 f.F 0 (.slice (some ⟨gv, 0, none⟩) V.length cp)
  have hFu : f.F < w1.heap.size := HI7.out.lt.2.1
  have huS : w1.heap.size ≤ u.heap.size := HUS.out
  have hC8 := (gs.block u.heap.size (block_lt HC7.out) (fun e => by injection e with e; omega)).trans HC7.out
  have hLV8 : LV w1 (.slice (some ⟨gl, 0, none⟩) (t1 + 1) c7) l (w7.setCell ⟨f.F, 0, none⟩ (.slice (some ⟨gv, 0, none⟩) V.length cp)) := by
   obtain ⟨g0, c0, cu0, e0, h1, h2, h3⟩ := HLV.out.ex
   exact ⟨g0, c0, cu0, e0, h1, (gs.block g0 (block_lt h2) (fun e => by injection e with e; omega)).trans h2, h3⟩
  generalize w7.setCell ⟨f.F, 0, none⟩ (.slice (some ⟨gv, 0, none⟩) V.length cp) = w8 at *
  have p0 : w8.cell? ⟨u.heap.size, 0, none⟩ = some (.int .i64 z) := by rw [cell_of_row w8 u.heap.size 0 _ _ _ hC8]; rfl
  have p1 : w8.cell? ⟨u.heap.size, 1, none⟩ = some (.int .i64 (c.a : Int)) := by rw [cell_of_row w8 u.heap.size 1 _ _ _ hC8]; rfl
  have p2 : w8.cell? ⟨u.heap.size, 2, none⟩ = some (.int .u64 (c.n : Int)) := by rw [cell_of_row w8 u.heap.size 2 _ _ _ hC8]; rfl
  have HIV := Lib.hid hIV
  have HLV8 := Lib.hid hLV8
  clear hIV hLV8 hC8 gs hFu huS
  go_wp2_with (go_at_call 91; refine Calls.mono (HP.out _ _ _ HIV.out HLV8.out) ?_; rintro e u9 ⟨rfl, hR⟩)
  go_ret
  exact ⟨rfl, hR⟩
end Go.Proofs.YtmfmokblmipagaaGreat
end
