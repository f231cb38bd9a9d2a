/- A part of the proof that plaittop.CoreLanes returns true. -/
import Derived.Deep.Cut
import Derived.Test.YtebpijlmeemfaaaGreatDoorA01
import Derived.Test.YtebpijlmeemfaaaGreatDoorA08
import Derived.Test.YtebpijlmeemfaaaGreatDoorA09
import Derived.Test.YtebpijlmeemfaaaGreatDoorA11
import Derived.Test.YtebpijlmeemfaaaGreatDoorA12
import Derived.Test.YtebpijlmeemfaaaGreatDoorA13
import Derived.Test.YtebpijlmeemfaaaGreatDoorA18
set_option linter.all false
set_option linter.unusedSectionVars false
set_option linter.unusedSimpArgs false
set_option linter.unusedVariables false
section
namespace Go.Proofs.YtebpijlmeemfaaaGreatDoor
open Go.RowKit Pl
structure MD (w : World) (J : Nat) (I F : Array Value) (X0 : Vec) (sI : Value) (ty : List Int) (vv : Value) (l : List Vec) (u : World) : Prop where
 bel : Below w.heap.size w u
 instr : u.heap[w.heap.size]? = some (.cells I 36 (0, 0))
 info : u.heap[w.heap.size + 1]? = some (.cells F 86 (0, 0))
 res : u.heap[w.heap.size + 2]? = some (.cells (cells 0) 23 (0, 0))
 imm : u.heap[J]? = some (.cells (cells X0) 23 (0, 0))
 jlt : w.heap.size + 2 < J
 tys : LView .i64 w sI ty
 vals : l.length = 0 ∨ VSl w vv l
theorem MD.below {w u u1 : World} {J : Nat} {I F : Array Value} {X0 : Vec} {sI : Value} {ty : List Int} {vv : Value} {l : List Vec} (h : MD w J I F X0 sI ty vv l u) (hb : Below u.heap.size u u1) : MD w J I F X0 sI ty vv l u1 :=
 ⟨h.bel.trans (hb.mono h.bel.size), blk_keep h.instr hb, blk_keep h.info hb, blk_keep h.res hb, blk_keep h.imm hb, h.jlt, h.tys, h.vals⟩
theorem rng_below {w u : World} {g o : Nat} {cs : List Value} (h : w.rangeAt g o cs) (hlt : g < w.heap.size) (hb : Below w.heap.size w u) : u.rangeAt g o cs := fun j v hj => by
 have := h j v hj
 unfold World.cell? at this ⊢
 rw [hb.block g hlt]
 exact this
theorem md_start {w u1 w3 : World} {I F : Array Value} {X0 : Vec} {sI : Value} {ty : List Int} {vv : Value} {l : List Vec} (x : Array Value) (hx : x = cells 0) (hT : LView .i64 w sI ty) (hV : l.length = 0 ∨ VSl w vv l)
  (hb : Below (((w.alloc (.cells I 36)).alloc (.cells F 86)).alloc (.cells x 23)).heap.size (((w.alloc (.cells I 36)).alloc (.cells F 86)).alloc (.cells x 23)) u1)
  {z : Obj} (hs : Sets (u1.alloc z) u1.heap.size X0 w3) : MD w u1.heap.size I F X0 sI ty vv l w3 := by
 subst hx
 have h0 := below_alloc3 w (.cells I 36) (.cells F 86) (.cells (cells 0) 23)
 have h1 : Below u1.heap.size u1 w3 := below_store (Below.refl _ _) (Nat.le_refl _) hs
 have hsz := hb.size
 simp at hsz
 refine ⟨(h0.trans (hb.mono h0.size)).trans (h1.mono (by omega)), ?_, ?_, ?_, hs.this, by omega, hT, hV⟩
 ·exact blk_keep (blk_keep (heap_alloc3_0 _ _ _ _) hb) h1
 ·exact blk_keep (blk_keep (heap_alloc3_1 _ _ _ _) hb) h1
 ·exact blk_keep (blk_keep (heap_alloc3_2 _ _ _ _) hb) h1
theorem z16 : (#[.int .u8 0, .int .u8 0, .int .u8 0, .int .u8 0, .int .u8 0, .int .u8 0, .int .u8 0, .int .u8 0, .int .u8 0, .int .u8 0, .int .u8 0, .int .u8 0, .int .u8 0, .int .u8 0, .int .u8 0, .int .u8 0] : Array Value) = cells 0 := cells_zero
theorem cell_b {w u : World} {g o : Nat} {v : Value} (h : w.cell? ⟨g, o, none⟩ = some v) (hlt : g < w.heap.size) (hb : Below w.heap.size w u) : u.cell? ⟨g, o, none⟩ = some v := by
 unfold World.cell? at h ⊢
 rw [hb.block g hlt]
 exact h
theorem fcell {w : World} {g : Nat} {cs : Array Value} {T : TypeId} (h : w.heap[g]? = some (.cells cs T (0, 0))) (j : Nat) {v : Value} (hv : cs[j]? = some v) : w.cell? ⟨g, j, none⟩ = some v := by
 simp [World.cell?, h, hv]
set_option maxHeartbeats 4000000 in
set_option maxRecDepth 100000 in
theorem made_shuffle (op A B form lim : Int) (lo hi : Nat) (L sI sO vv : Value) (pl : Bool) (ty : List Int) (l : List Vec) (w : World) (ho : 64768 ≤ op ∧ op ≤ 65023) (hT : LView .i64 w sI ty) (hV : l.length = 0 ∨ VSl w vv l) (v0 : Vec) (hl0 : l[0]? = some v0) (v1 : Vec) (hl1 : l[1]? = some v1) (h1 : (form == 11) = false) (h2 : (form == 12) = true) :
  Calls Tryz.prog 25 #[.agg #[.int .i64 op, .int .i64 A, .int .i64 B, .int .u64 (lo : Nat), .int .u64 (hi : Nat), L], .agg #[.int .i64 form, .int .i64 lim, .bool pl, sI, sO], vv] w fun e w' => e = .returned (.tuple #[.agg (cells (shufV (joinV lo hi) v0 v1).1), .int .i64 (shufV (joinV lo hi) v0 v1).2]) ∧ Below w.heap.size w w' := by
 obtain ⟨ho1, ho2⟩ := ho
 have HT := Lib.hid hT
 have HV := Lib.hid hV
 clear hT hV
 go_enter Tryz.func25, Tryz.ntmps25
 go_upto_region 2 with (first | (go_at_call 48; refine (join_k lo hi _).mono ?_; rintro e u1 ⟨rfl, hb1⟩) | (with_reducible refine store_vec rfl _ _ rfl u1.heap.size _ rfl rfl 0 (heap_new_zero _) ?_; intro w3 g3))
 have hs : MD w u1.heap.size #[.int .i64 op, .int .i64 A, .int .i64 B, .int .u64 (lo : Nat), .int .u64 (hi : Nat), L] #[.int .i64 form, .int .i64 lim, .bool pl, sI, sO] (joinV lo hi) sI ty vv l w3 := md_start _ z16 HT.out HV.out hb1 g3
 clear hb1 g3
 obtain ⟨J, hJ⟩ : ∃ J, J = u1.heap.size := ⟨_, rfl⟩
 rw [← hJ] at hs ⊢
 clear hJ
 obtain ⟨g, c, rfl, hg, hvx⟩ := (HV.out.resolve_left (by have := (List.getElem?_eq_some_iff.1 hl0).1; omega)).ex
 have hv0 := hvx 0 v0 hl0
 have hn0 : 0 < l.length := (List.getElem?_eq_some_iff.1 hl0).1
 have hv1 := hvx 1 v1 hl1
 have hn1 : 1 < l.length := (List.getElem?_eq_some_iff.1 hl1).1
 clear hvx hl0 hl1
 have hB : ∀ {X : Vec} {D : Bool} {u : World}, S1 w3 (w.heap.size + 2) X D u → Below w.heap.size w u := fun hS => hS.kb.to_below hs.bel (by omega)
 go_wp2_with (first | ((with_reducible refine load_w ?_ 3 isAgg_int _ rfl _ _ rfl _ _ hs.info _ rfl ?_); (focus rfl)))
 refine region_set1 w3 (w.heap.size + 2) (shufV (joinV lo hi) v0 v1).1 11 10 [0, 1, 2, 3, 4, 5, 6, 7, 8, 9] (by kernel_rfl) rfl rfl _ _ rfl (St.start hs.res).drew ?_
 simp only [opsAt, List.getElem?_cons_zero, List.getElem?_cons_succ, List.drop_succ_cons, List.drop_zero]
 repeat (first | (refine do_loadA rfl _ rfl J rfl _ (fun D u hS => hS.kb.get hs.imm (by have := hs.jlt; omega)) ?_; simp only [Act.put, zqA, zqB, zqC]) | (refine wpDA_here rfl (fun D u hS => run_ixv _ _ rfl g _ c rfl 0 rfl (by omega)) ?_; simp only [Act.put, zqA, zqB, zqC]) | (refine wpDA_here rfl (fun D u hS => run_lvm _ rfl g (16 * 0) rfl v0 (rng_below hv0 hg (hB hS))) ?_; simp only [Act.put, zqA, zqB, zqC]) | (refine wpDA_here rfl (fun D u hS => run_ixv _ _ rfl g _ c rfl 1 rfl (by omega)) ?_; simp only [Act.put, zqA, zqB, zqC]) | (refine wpDA_here rfl (fun D u hS => run_lvm _ rfl g (16 * 1) rfl v1 (rng_below hv1 hg (hB hS))) ?_; simp only [Act.put, zqA, zqB, zqC]) | (refine wpDA_call (v := .tuple #[.agg (cells (shufV (joinV lo hi) v0 v1).1), .int .i64 (shufV (joinV lo hi) v0 v1).2]) rfl 80 ?_ (fun u => ?_) (fun D u hS => ?_) ?_; rotate_left 1; (focus (go_simp; (try with_reducible rfl); done)); (focus (refine (shuffle_k _ _ _ _).mono ?_; rintro e u2 ⟨rfl, hb⟩; exact ⟨rfl, hS.below hb⟩)); simp only [Act.put, zqA, zqB, zqC]) | (refine wpDA_pure (v := ?_) rfl (fun u => ?_) ?_; rotate_left; (focus (go_simp; (try with_reducible rfl); done)); simp only [Act.put, zqA, zqB, zqC]))
 refine wpDA_nil ⟨rfl, rfl, fun wq hq => ?_⟩
 try simp only [Act.put, zqA, zqB, zqC]
 go_wp2_with fail
 exact bodyPost_ret (results_vec_tmp rfl _ _ (w.heap.size + 2) _ _ rfl rfl hq.this) rfl ⟨rfl, hq.kb.to_below hs.bel (by omega)⟩
set_option maxHeartbeats 4000000 in
set_option maxRecDepth 100000 in
theorem made_swizzle (op A B form lim : Int) (lo hi : Nat) (L sI sO vv : Value) (pl : Bool) (ty : List Int) (l : List Vec) (w : World) (ho : 64768 ≤ op ∧ op ≤ 65023) (hT : LView .i64 w sI ty) (hV : l.length = 0 ∨ VSl w vv l) (v0 : Vec) (hl0 : l[0]? = some v0) (v1 : Vec) (hl1 : l[1]? = some v1) (h1 : (form == 11) = false) (h2 : (form == 12) = false) (h3 : (form == 13) = false) (h4 : (op == 64782) = true) :
  Calls Tryz.prog 25 #[.agg #[.int .i64 op, .int .i64 A, .int .i64 B, .int .u64 (lo : Nat), .int .u64 (hi : Nat), L], .agg #[.int .i64 form, .int .i64 lim, .bool pl, sI, sO], vv] w fun e w' => e = .returned (.tuple #[.agg (cells (swizV v0 v1)), .int .i64 0]) ∧ Below w.heap.size w w' := by
 obtain ⟨ho1, ho2⟩ := ho
 have HT := Lib.hid hT
 have HV := Lib.hid hV
 clear hT hV
 go_enter Tryz.func25, Tryz.ntmps25
 go_upto_region 2 with (first | (go_at_call 48; refine (join_k lo hi _).mono ?_; rintro e u1 ⟨rfl, hb1⟩) | (with_reducible refine store_vec rfl _ _ rfl u1.heap.size _ rfl rfl 0 (heap_new_zero _) ?_; intro w3 g3))
 have hs : MD w u1.heap.size #[.int .i64 op, .int .i64 A, .int .i64 B, .int .u64 (lo : Nat), .int .u64 (hi : Nat), L] #[.int .i64 form, .int .i64 lim, .bool pl, sI, sO] (joinV lo hi) sI ty vv l w3 := md_start _ z16 HT.out HV.out hb1 g3
 clear hb1 g3
 obtain ⟨J, hJ⟩ : ∃ J, J = u1.heap.size := ⟨_, rfl⟩
 rw [← hJ] at hs ⊢
 clear hJ
 obtain ⟨g, c, rfl, hg, hvx⟩ := (HV.out.resolve_left (by have := (List.getElem?_eq_some_iff.1 hl0).1; omega)).ex
 have hv0 := hvx 0 v0 hl0
 have hn0 : 0 < l.length := (List.getElem?_eq_some_iff.1 hl0).1
 have hv1 := hvx 1 v1 hl1
 have hn1 : 1 < l.length := (List.getElem?_eq_some_iff.1 hl1).1
 clear hvx hl0 hl1
 have hB : ∀ {X : Vec} {D : Bool} {u : World}, S1 w3 (w.heap.size + 2) X D u → Below w.heap.size w u := fun hS => hS.kb.to_below hs.bel (by omega)
 go_wp2_with (first | ((with_reducible refine load_w ?_ 3 isAgg_int _ rfl _ _ rfl _ _ hs.info _ rfl ?_); (focus rfl)) | ((with_reducible refine load_w ?_ 3 isAgg_int _ rfl _ _ rfl _ _ hs.instr _ rfl ?_); (focus rfl)))
 refine region_set1 w3 (w.heap.size + 2) (swizV v0 v1) 8 7 [0, 1, 2, 3, 4, 5, 6] (by kernel_rfl) rfl rfl _ _ rfl (St.start hs.res).drew ?_
 simp only [opsAt, List.getElem?_cons_zero, List.getElem?_cons_succ, List.drop_succ_cons, List.drop_zero]
 repeat (first | (refine wpDA_here rfl (fun D u hS => run_ixv _ _ rfl g _ c rfl 0 rfl (by omega)) ?_; simp only [Act.put, zqA, zqB, zqC]) | (refine wpDA_here rfl (fun D u hS => run_lvm _ rfl g (16 * 0) rfl v0 (rng_below hv0 hg (hB hS))) ?_; simp only [Act.put, zqA, zqB, zqC]) | (refine wpDA_here rfl (fun D u hS => run_ixv _ _ rfl g _ c rfl 1 rfl (by omega)) ?_; simp only [Act.put, zqA, zqB, zqC]) | (refine wpDA_here rfl (fun D u hS => run_lvm _ rfl g (16 * 1) rfl v1 (rng_below hv1 hg (hB hS))) ?_; simp only [Act.put, zqA, zqB, zqC]) | (refine wpDA_call (v := .agg (cells (swizV v0 v1))) rfl 83 ?_ (fun u => ?_) (fun D u hS => ?_) ?_; rotate_left 1; (focus (go_simp; (try with_reducible rfl); done)); (focus (refine (swizzle_k _ _ _).mono ?_; rintro e u2 ⟨rfl, hb⟩; exact ⟨rfl, hS.below hb⟩)); simp only [Act.put, zqA, zqB, zqC]) | (refine wpDA_pure (v := ?_) rfl (fun u => ?_) ?_; rotate_left; (focus (go_simp; (try with_reducible rfl); done)); simp only [Act.put, zqA, zqB, zqC]))
 refine wpDA_nil ⟨rfl, rfl, fun wq hq => ?_⟩
 try simp only [Act.put, zqA, zqB, zqC]
 go_wp2_with fail
 exact bodyPost_ret (results_vec_tmp rfl _ _ (w.heap.size + 2) _ _ rfl rfl hq.this) rfl ⟨rfl, hq.kb.to_below hs.bel (by omega)⟩
theorem wrap_u32 (n : Nat) (h : n < 4294967296) : IntKind.u32.wrap (n : Int) = (n : Int) := by
 show (n : Int) % 2 ^ 32 = n
 omega
end Go.Proofs.YtebpijlmeemfaaaGreatDoor
end
section
namespace Go.Proofs.YtebpijlmeemfaaaGreatDoor
open Go.RowKit Pl
set_option maxHeartbeats 4000000 in
set_option maxRecDepth 100000 in
theorem made_bits (op A B form lim : Int) (lo hi : Nat) (L sI sO vv : Value) (pl : Bool) (ty : List Int) (l : List Vec) (w : World) (ho : 64768 ≤ op ∧ op ≤ 65023) (hT : LView .i64 w sI ty) (hV : l.length = 0 ∨ VSl w vv l) (v0 : Vec) (hl0 : l[0]? = some v0) (h1 : (form == 11) = false) (h2 : (form == 12) = false) (h3 : (form == 13) = false) (h4 : (op == 64782) = false) (t0 : Int) (ht0 : ty[0]? = some t0) (h5 : (t0 == 123) = true) (XB : Vec) (EB : Int) (HBT : ∀ W, Below w.heap.size w W → Calls Tryz.prog 85 #[.int .i64 op, vv] W fun e w' => e = .returned (.tuple #[.agg (cells XB), .int .i64 EB]) ∧ Below W.heap.size W w') (hE : (EB == 0) = true) :
  Calls Tryz.prog 25 #[.agg #[.int .i64 op, .int .i64 A, .int .i64 B, .int .u64 (lo : Nat), .int .u64 (hi : Nat), L], .agg #[.int .i64 form, .int .i64 lim, .bool pl, sI, sO], vv] w fun e w' => e = .returned (.tuple #[.agg (cells XB), .int .i64 0]) ∧ Below w.heap.size w w' := by
 have HBT := Lib.hid HBT
 obtain ⟨ho1, ho2⟩ := ho
 have HT := Lib.hid hT
 have HV := Lib.hid hV
 clear hT hV
 go_enter Tryz.func25, Tryz.ntmps25
 go_upto_region 2 with (first | (go_at_call 48; refine (join_k lo hi _).mono ?_; rintro e u1 ⟨rfl, hb1⟩) | (with_reducible refine store_vec rfl _ _ rfl u1.heap.size _ rfl rfl 0 (heap_new_zero _) ?_; intro w3 g3))
 have hs : MD w u1.heap.size #[.int .i64 op, .int .i64 A, .int .i64 B, .int .u64 (lo : Nat), .int .u64 (hi : Nat), L] #[.int .i64 form, .int .i64 lim, .bool pl, sI, sO] (joinV lo hi) sI ty vv l w3 := md_start _ z16 HT.out HV.out hb1 g3
 clear hb1 g3
 obtain ⟨J, hJ⟩ : ∃ J, J = u1.heap.size := ⟨_, rfl⟩
 rw [← hJ] at hs ⊢
 clear hJ
 obtain ⟨g, c, rfl, hg, hvx⟩ := (HV.out.resolve_left (by have := (List.getElem?_eq_some_iff.1 hl0).1; omega)).ex
 have hv0 := hvx 0 v0 hl0
 have hn0 : 0 < l.length := (List.getElem?_eq_some_iff.1 hl0).1
 clear hvx hl0
 obtain ⟨tb, toff, tc, te, htc, htb, htx⟩ := HT.out.get 0 (List.getElem?_eq_some_iff.1 ht0).1
 have hty0 := htx 0 t0 ht0
 have htl := (List.getElem?_eq_some_iff.1 ht0).1
 subst te
 clear ht0
 have hc0 := cell_b hty0 htb hs.bel
 go_wp2_with (first | ((with_reducible refine load_w ?_ 3 isAgg_int _ rfl _ _ rfl _ _ hs.info _ rfl ?_); (focus rfl)) | ((with_reducible refine load_w ?_ 3 isAgg_int _ rfl _ _ rfl _ _ hs.instr _ rfl ?_); (focus rfl)) | ((with_reducible refine load_w ?_ 34 isAgg_slint _ rfl _ _ rfl _ _ hs.info _ rfl ?_); (focus rfl)) | (with_reducible refine ix1 rfl 34 size_si under_si _ _ rfl tb toff _ _ rfl _ rfl 0 rfl htl ?_) | (with_reducible refine ld1 rfl 3 isAgg_int _ rfl _ rfl _ hc0 ?_) | (go_at_call 85; refine (HBT.out _ hs.bel).mono ?_; rintro e u4 ⟨rfl, hb4⟩; replace hs := hs.below hb4; clear hb4) | (with_reducible refine store_vec rfl _ _ rfl u4.heap.size _ rfl rfl 0 (heap_new_zero _) ?_; intro w5 g5; replace hs := hs.below (below_store (Below.refl _ _) (Nat.le_refl _) g5); have hx5 := g5.this; clear g5) | (with_reducible refine load_vec rfl _ rfl _ rfl _ hx5 ?_) | (with_reducible refine store_vec rfl _ _ rfl (w.heap.size + 2) _ rfl rfl 0 hs.res ?_; intro wq hq))
 exact bodyPost_ret (results_vec_tmp rfl _ _ (w.heap.size + 2) _ _ rfl rfl hq.this) rfl ⟨rfl, hs.bel.trans (hq.below.mono (by omega))⟩
set_option maxHeartbeats 4000000 in
set_option maxRecDepth 100000 in
theorem made_bin (op A B form lim : Int) (lo hi : Nat) (L sI sO vv : Value) (pl : Bool) (ty : List Int) (l : List Vec) (w : World) (ho : 64768 ≤ op ∧ op ≤ 65023) (hT : LView .i64 w sI ty) (hV : l.length = 0 ∨ VSl w vv l) (v0 : Vec) (hl0 : l[0]? = some v0) (v1 : Vec) (hl1 : l[1]? = some v1) (h1 : (form == 11) = false) (h2 : (form == 12) = false) (h3 : (form == 13) = false) (h4 : (op == 64782) = false) (t0 : Int) (ht0 : ty[0]? = some t0) (h5 : (t0 == 123) = true) (XB : Vec) (EB : Int) (HBT : ∀ W, Below w.heap.size w W → Calls Tryz.prog 85 #[.int .i64 op, vv] W fun e w' => e = .returned (.tuple #[.agg (cells XB), .int .i64 EB]) ∧ Below W.heap.size W w') (hE : (EB == 0) = false) (hl : ((l.length : Int) == 1) = false) (t1 : Int) (ht1 : ty[1]? = some t1) (h6 : (t1 == 127) = false) (XN : Vec) (EN : Int) (HBN : ∀ W, Calls Tryz.prog 89 #[.int .i64 op, .agg (cells v0), .agg (cells v1)] W fun e w' => e = .returned (.tuple #[.agg (cells XN), .int .i64 EN]) ∧ Below W.heap.size W w') (hE3 : (EN == 0) = true) :
  Calls Tryz.prog 25 #[.agg #[.int .i64 op, .int .i64 A, .int .i64 B, .int .u64 (lo : Nat), .int .u64 (hi : Nat), L], .agg #[.int .i64 form, .int .i64 lim, .bool pl, sI, sO], vv] w fun e w' => e = .returned (.tuple #[.agg (cells XN), .int .i64 0]) ∧ Below w.heap.size w w' := by
 have HBT := Lib.hid HBT
 have HBN := Lib.hid HBN
 obtain ⟨ho1, ho2⟩ := ho
 have HT := Lib.hid hT
 have HV := Lib.hid hV
 clear hT hV
 go_enter Tryz.func25, Tryz.ntmps25
 go_upto_region 2 with (first | (go_at_call 48; refine (join_k lo hi _).mono ?_; rintro e u1 ⟨rfl, hb1⟩) | (with_reducible refine store_vec rfl _ _ rfl u1.heap.size _ rfl rfl 0 (heap_new_zero _) ?_; intro w3 g3))
 have hs : MD w u1.heap.size #[.int .i64 op, .int .i64 A, .int .i64 B, .int .u64 (lo : Nat), .int .u64 (hi : Nat), L] #[.int .i64 form, .int .i64 lim, .bool pl, sI, sO] (joinV lo hi) sI ty vv l w3 := md_start _ z16 HT.out HV.out hb1 g3
 clear hb1 g3
 obtain ⟨J, hJ⟩ : ∃ J, J = u1.heap.size := ⟨_, rfl⟩
 rw [← hJ] at hs ⊢
 clear hJ
 obtain ⟨g, c, rfl, hg, hvx⟩ := (HV.out.resolve_left (by have := (List.getElem?_eq_some_iff.1 hl0).1; omega)).ex
 have hv0 := hvx 0 v0 hl0
 have hn0 : 0 < l.length := (List.getElem?_eq_some_iff.1 hl0).1
 have hv1 := hvx 1 v1 hl1
 have hn1 : 1 < l.length := (List.getElem?_eq_some_iff.1 hl1).1
 clear hvx hl0 hl1
 obtain ⟨tb, toff, tc, te, htc, htb, htx⟩ := HT.out.get 0 (List.getElem?_eq_some_iff.1 ht0).1
 have hty0 := htx 0 t0 ht0
 have htl := (List.getElem?_eq_some_iff.1 ht0).1
 have hty1 := cell_b (htx 1 t1 ht1) htb (Below.refl _ _)
 have htl1 := (List.getElem?_eq_some_iff.1 ht1).1
 clear ht1
 subst te
 clear ht0
 have hc0 := cell_b hty0 htb hs.bel
 go_wp2_with (first | ((with_reducible refine load_w ?_ 3 isAgg_int _ rfl _ _ rfl _ _ hs.info _ rfl ?_); (focus rfl)) | ((with_reducible refine load_w ?_ 3 isAgg_int _ rfl _ _ rfl _ _ hs.instr _ rfl ?_); (focus rfl)) | ((with_reducible refine load_w ?_ 34 isAgg_slint _ rfl _ _ rfl _ _ hs.info _ rfl ?_); (focus rfl)) | (with_reducible refine ix1 rfl 34 size_si under_si _ _ rfl tb toff _ _ rfl _ rfl 0 rfl htl ?_) | (with_reducible refine ld1 rfl 3 isAgg_int _ rfl _ rfl _ hc0 ?_) | (go_at_call 85; refine (HBT.out _ hs.bel).mono ?_; rintro e u4 ⟨rfl, hb4⟩; replace hs := hs.below hb4; clear hb4) | (with_reducible refine store_vec rfl _ _ rfl u4.heap.size _ rfl rfl 0 (heap_new_zero _) ?_; intro w5 g5; replace hs := hs.below (below_store (Below.refl _ _) (Nat.le_refl _) g5); have hx5 := g5.this; clear g5) | (with_reducible refine ix1 rfl 34 size_si under_si _ _ rfl tb toff _ _ rfl _ rfl 1 rfl htl1 ?_) | (with_reducible refine ld1 rfl 3 isAgg_int _ rfl _ rfl _ (cell_b hty1 htb hs.bel) ?_))
 refine region_new1 w5 [] XN 14 12 13 [0, 1, 2, 3, 4, 5, 6, 7, 8, 9, 10, 11] (by kernel_rfl) rfl rfl rfl rfl rfl _ _ rfl rfl (N1.start XN (Below.refl _ _) (fun q hq => by cases hq)).drew ?_
 simp only [opsAt, List.getElem?_cons_zero, List.getElem?_cons_succ, List.drop_succ_cons, List.drop_zero]
 repeat (first | (refine wpDA_here rfl (fun D u hS => run_ixv _ _ rfl g _ c rfl 0 rfl (by omega)) ?_; simp only [Act.put, zqA, zqB, zqC]) | (refine wpDA_here rfl (fun D u hS => run_lvm _ rfl g (16 * 0) rfl v0 (rng_below hv0 hg (hs.bel.trans (hS.bel.mono hs.bel.size)))) ?_; simp only [Act.put, zqA, zqB, zqC]) | (refine wpDA_here rfl (fun D u hS => run_ixv _ _ rfl g _ c rfl 1 rfl (by omega)) ?_; simp only [Act.put, zqA, zqB, zqC]) | (refine wpDA_here rfl (fun D u hS => run_lvm _ rfl g (16 * 1) rfl v1 (rng_below hv1 hg (hs.bel.trans (hS.bel.mono hs.bel.size)))) ?_; simp only [Act.put, zqA, zqB, zqC]) | (refine wpDA_here rfl (fun D u hS => run_ldc _ isAgg_int _ rfl w.heap.size 0 rfl _ (fcell (blk_keep hs.instr hS.bel) 0 rfl)) ?_; simp only [Act.put, zqA, zqB, zqC]) | (refine wpDA_call (v := .tuple #[.agg (cells XN), .int .i64 EN]) rfl 89 ?_ (fun u => ?_) (fun D u hS => ?_) ?_; rotate_left 1; (focus (go_simp; (try with_reducible rfl); done)); (focus (refine (HBN.out _).mono ?_; rintro e u2 ⟨rfl, hb⟩; exact ⟨rfl, hS.below hb⟩)); simp only [Act.put, zqA, zqB, zqC]) | (refine wpDA_pure (v := ?_) rfl (fun u => ?_) ?_; rotate_left; (focus (go_simp; (try with_reducible rfl); done)); simp only [Act.put, zqA, zqB, zqC]))
 refine wpDA_nil (fun a1 => ⟨rfl, rfl, fun wa1 hx => ?_⟩)
 unfold ptr
 try simp only [Act.put, zqA, zqB, zqC]
 have ha1 := (hx.new a1 true rfl).1
 simp only [cond_true] at ha1
 replace hs := hs.below hx.bel
 clear hx
 go_wp2_with (first | (with_reducible refine load_vec rfl _ rfl _ rfl _ ha1 ?_) | (with_reducible refine store_vec rfl _ _ rfl (w.heap.size + 2) _ rfl rfl 0 hs.res ?_; intro wq hq))
 exact bodyPost_ret (results_vec_tmp rfl _ _ (w.heap.size + 2) _ _ rfl rfl hq.this) rfl ⟨rfl, hs.bel.trans (hq.below.mono (by omega))⟩
set_option maxHeartbeats 4000000 in
set_option maxRecDepth 100000 in
theorem made_cmp (op A B form lim : Int) (lo hi : Nat) (L sI sO vv : Value) (pl : Bool) (ty : List Int) (l : List Vec) (w : World) (ho : 64768 ≤ op ∧ op ≤ 65023) (hT : LView .i64 w sI ty) (hV : l.length = 0 ∨ VSl w vv l) (v0 : Vec) (hl0 : l[0]? = some v0) (v1 : Vec) (hl1 : l[1]? = some v1) (h1 : (form == 11) = false) (h2 : (form == 12) = false) (h3 : (form == 13) = false) (h4 : (op == 64782) = false) (t0 : Int) (ht0 : ty[0]? = some t0) (h5 : (t0 == 123) = true) (XB : Vec) (EB : Int) (HBT : ∀ W, Below w.heap.size w W → Calls Tryz.prog 85 #[.int .i64 op, vv] W fun e w' => e = .returned (.tuple #[.agg (cells XB), .int .i64 EB]) ∧ Below W.heap.size W w') (hE : (EB == 0) = false) (hl : ((l.length : Int) == 1) = false) (t1 : Int) (ht1 : ty[1]? = some t1) (h6 : (t1 == 127) = false) (XN : Vec) (EN : Int) (HBN : ∀ W, Calls Tryz.prog 89 #[.int .i64 op, .agg (cells v0), .agg (cells v1)] W fun e w' => e = .returned (.tuple #[.agg (cells XN), .int .i64 EN]) ∧ Below W.heap.size W w') (hE3 : (EN == 0) = false) (XC : Vec) (EC : Int) (HCM : ∀ W, Calls Tryz.prog 90 #[.int .i64 op, .agg (cells v0), .agg (cells v1)] W fun e w' => e = .returned (.tuple #[.agg (cells XC), .int .i64 EC]) ∧ Below W.heap.size W w') (hE4 : (EC == 0) = true) :
  Calls Tryz.prog 25 #[.agg #[.int .i64 op, .int .i64 A, .int .i64 B, .int .u64 (lo : Nat), .int .u64 (hi : Nat), L], .agg #[.int .i64 form, .int .i64 lim, .bool pl, sI, sO], vv] w fun e w' => e = .returned (.tuple #[.agg (cells XC), .int .i64 0]) ∧ Below w.heap.size w w' := by
 have HBT := Lib.hid HBT
 have HBN := Lib.hid HBN
 have HCM := Lib.hid HCM
 obtain ⟨ho1, ho2⟩ := ho
 have HT := Lib.hid hT
 have HV := Lib.hid hV
 clear hT hV
 go_enter Tryz.func25, Tryz.ntmps25
 go_upto_region 2 with (first | (go_at_call 48; refine (join_k lo hi _).mono ?_; rintro e u1 ⟨rfl, hb1⟩) | (with_reducible refine store_vec rfl _ _ rfl u1.heap.size _ rfl rfl 0 (heap_new_zero _) ?_; intro w3 g3))
 have hs : MD w u1.heap.size #[.int .i64 op, .int .i64 A, .int .i64 B, .int .u64 (lo : Nat), .int .u64 (hi : Nat), L] #[.int .i64 form, .int .i64 lim, .bool pl, sI, sO] (joinV lo hi) sI ty vv l w3 := md_start _ z16 HT.out HV.out hb1 g3
 clear hb1 g3
 obtain ⟨J, hJ⟩ : ∃ J, J = u1.heap.size := ⟨_, rfl⟩
 rw [← hJ] at hs ⊢
 clear hJ
 obtain ⟨g, c, rfl, hg, hvx⟩ := (HV.out.resolve_left (by have := (List.getElem?_eq_some_iff.1 hl0).1; omega)).ex
 have hv0 := hvx 0 v0 hl0
 have hn0 : 0 < l.length := (List.getElem?_eq_some_iff.1 hl0).1
 have hv1 := hvx 1 v1 hl1
 have hn1 : 1 < l.length := (List.getElem?_eq_some_iff.1 hl1).1
 clear hvx hl0 hl1
 obtain ⟨tb, toff, tc, te, htc, htb, htx⟩ := HT.out.get 0 (List.getElem?_eq_some_iff.1 ht0).1
 have hty0 := htx 0 t0 ht0
 have htl := (List.getElem?_eq_some_iff.1 ht0).1
 have hty1 := cell_b (htx 1 t1 ht1) htb (Below.refl _ _)
 have htl1 := (List.getElem?_eq_some_iff.1 ht1).1
 clear ht1
 subst te
 clear ht0
 have hc0 := cell_b hty0 htb hs.bel
 go_wp2_with (first | ((with_reducible refine load_w ?_ 3 isAgg_int _ rfl _ _ rfl _ _ hs.info _ rfl ?_); (focus rfl)) | ((with_reducible refine load_w ?_ 3 isAgg_int _ rfl _ _ rfl _ _ hs.instr _ rfl ?_); (focus rfl)) | ((with_reducible refine load_w ?_ 34 isAgg_slint _ rfl _ _ rfl _ _ hs.info _ rfl ?_); (focus rfl)) | (with_reducible refine ix1 rfl 34 size_si under_si _ _ rfl tb toff _ _ rfl _ rfl 0 rfl htl ?_) | (with_reducible refine ld1 rfl 3 isAgg_int _ rfl _ rfl _ hc0 ?_) | (go_at_call 85; refine (HBT.out _ hs.bel).mono ?_; rintro e u4 ⟨rfl, hb4⟩; replace hs := hs.below hb4; clear hb4) | (with_reducible refine store_vec rfl _ _ rfl u4.heap.size _ rfl rfl 0 (heap_new_zero _) ?_; intro w5 g5; replace hs := hs.below (below_store (Below.refl _ _) (Nat.le_refl _) g5); have hx5 := g5.this; clear g5) | (with_reducible refine ix1 rfl 34 size_si under_si _ _ rfl tb toff _ _ rfl _ rfl 1 rfl htl1 ?_) | (with_reducible refine ld1 rfl 3 isAgg_int _ rfl _ rfl _ (cell_b hty1 htb hs.bel) ?_))
 refine region_new1 w5 [] XN 14 12 13 [0, 1, 2, 3, 4, 5, 6, 7, 8, 9, 10, 11] (by kernel_rfl) rfl rfl rfl rfl rfl _ _ rfl rfl (N1.start XN (Below.refl _ _) (fun q hq => by cases hq)).drew ?_
 simp only [opsAt, List.getElem?_cons_zero, List.getElem?_cons_succ, List.drop_succ_cons, List.drop_zero]
 repeat (first | (refine wpDA_here rfl (fun D u hS => run_ixv _ _ rfl g _ c rfl 0 rfl (by omega)) ?_; simp only [Act.put, zqA, zqB, zqC]) | (refine wpDA_here rfl (fun D u hS => run_lvm _ rfl g (16 * 0) rfl v0 (rng_below hv0 hg (hs.bel.trans (hS.bel.mono hs.bel.size)))) ?_; simp only [Act.put, zqA, zqB, zqC]) | (refine wpDA_here rfl (fun D u hS => run_ixv _ _ rfl g _ c rfl 1 rfl (by omega)) ?_; simp only [Act.put, zqA, zqB, zqC]) | (refine wpDA_here rfl (fun D u hS => run_lvm _ rfl g (16 * 1) rfl v1 (rng_below hv1 hg (hs.bel.trans (hS.bel.mono hs.bel.size)))) ?_; simp only [Act.put, zqA, zqB, zqC]) | (refine wpDA_here rfl (fun D u hS => run_ldc _ isAgg_int _ rfl w.heap.size 0 rfl _ (fcell (blk_keep hs.instr hS.bel) 0 rfl)) ?_; simp only [Act.put, zqA, zqB, zqC]) | (refine wpDA_call (v := .tuple #[.agg (cells XN), .int .i64 EN]) rfl 89 ?_ (fun u => ?_) (fun D u hS => ?_) ?_; rotate_left 1; (focus (go_simp; (try with_reducible rfl); done)); (focus (refine (HBN.out _).mono ?_; rintro e u2 ⟨rfl, hb⟩; exact ⟨rfl, hS.below hb⟩)); simp only [Act.put, zqA, zqB, zqC]) | (refine wpDA_pure (v := ?_) rfl (fun u => ?_) ?_; rotate_left; (focus (go_simp; (try with_reducible rfl); done)); simp only [Act.put, zqA, zqB, zqC]))
 refine wpDA_nil (fun a1 => ⟨rfl, rfl, fun wa1 hx => ?_⟩)
 unfold ptr
 try simp only [Act.put, zqA, zqB, zqC]
 have ha1 := (hx.new a1 true rfl).1
 simp only [cond_true] at ha1
 replace hs := hs.below hx.bel
 clear hx
 go_wp2_with fail
 refine region_new1 wa1 [] XC 14 12 13 [0, 1, 2, 3, 4, 5, 6, 7, 8, 9, 10, 11] (by kernel_rfl) rfl rfl rfl rfl rfl _ _ rfl rfl (N1.start XC (Below.refl _ _) (fun q hq => by cases hq)).drew ?_
 simp only [opsAt, List.getElem?_cons_zero, List.getElem?_cons_succ, List.drop_succ_cons, List.drop_zero]
 repeat (first | (refine wpDA_here rfl (fun D u hS => run_ixv _ _ rfl g _ c rfl 0 rfl (by omega)) ?_; simp only [Act.put, zqA, zqB, zqC]) | (refine wpDA_here rfl (fun D u hS => run_lvm _ rfl g (16 * 0) rfl v0 (rng_below hv0 hg (hs.bel.trans (hS.bel.mono hs.bel.size)))) ?_; simp only [Act.put, zqA, zqB, zqC]) | (refine wpDA_here rfl (fun D u hS => run_ixv _ _ rfl g _ c rfl 1 rfl (by omega)) ?_; simp only [Act.put, zqA, zqB, zqC]) | (refine wpDA_here rfl (fun D u hS => run_lvm _ rfl g (16 * 1) rfl v1 (rng_below hv1 hg (hs.bel.trans (hS.bel.mono hs.bel.size)))) ?_; simp only [Act.put, zqA, zqB, zqC]) | (refine wpDA_here rfl (fun D u hS => run_ldc _ isAgg_int _ rfl w.heap.size 0 rfl _ (fcell (blk_keep hs.instr hS.bel) 0 rfl)) ?_; simp only [Act.put, zqA, zqB, zqC]) | (refine wpDA_call (v := .tuple #[.agg (cells XC), .int .i64 EC]) rfl 90 ?_ (fun u => ?_) (fun D u hS => ?_) ?_; rotate_left 1; (focus (go_simp; (try with_reducible rfl); done)); (focus (refine (HCM.out _).mono ?_; rintro e u2 ⟨rfl, hb⟩; exact ⟨rfl, hS.below hb⟩)); simp only [Act.put, zqA, zqB, zqC]) | (refine wpDA_pure (v := ?_) rfl (fun u => ?_) ?_; rotate_left; (focus (go_simp; (try with_reducible rfl); done)); simp only [Act.put, zqA, zqB, zqC]))
 refine wpDA_nil (fun a2 => ⟨rfl, rfl, fun wa2 hx => ?_⟩)
 unfold ptr
 try simp only [Act.put, zqA, zqB, zqC]
 have ha2 := (hx.new a2 true rfl).1
 simp only [cond_true] at ha2
 replace hs := hs.below hx.bel
 clear hx
 go_wp2_with (first | (with_reducible refine load_vec rfl _ rfl _ rfl _ ha2 ?_) | (with_reducible refine store_vec rfl _ _ rfl (w.heap.size + 2) _ rfl rfl 0 hs.res ?_; intro wq hq))
 exact bodyPost_ret (results_vec_tmp rfl _ _ (w.heap.size + 2) _ _ rfl rfl hq.this) rfl ⟨rfl, hs.bel.trans (hq.below.mono (by omega))⟩
set_option maxHeartbeats 4000000 in
set_option maxRecDepth 100000 in
theorem made_wbin (op A B form lim : Int) (lo hi : Nat) (L sI sO vv : Value) (pl : Bool) (ty : List Int) (l : List Vec) (w : World) (ho : 64768 ≤ op ∧ op ≤ 65023) (hT : LView .i64 w sI ty) (hV : l.length = 0 ∨ VSl w vv l) (v0 : Vec) (hl0 : l[0]? = some v0) (v1 : Vec) (hl1 : l[1]? = some v1) (h1 : (form == 11) = false) (h2 : (form == 12) = false) (h3 : (form == 13) = false) (h4 : (op == 64782) = false) (t0 : Int) (ht0 : ty[0]? = some t0) (h5 : (t0 == 123) = true) (XB : Vec) (EB : Int) (HBT : ∀ W, Below w.heap.size w W → Calls Tryz.prog 85 #[.int .i64 op, vv] W fun e w' => e = .returned (.tuple #[.agg (cells XB), .int .i64 EB]) ∧ Below W.heap.size W w') (hE : (EB == 0) = false) (hl : ((l.length : Int) == 1) = false) (t1 : Int) (ht1 : ty[1]? = some t1) (h6 : (t1 == 127) = false) (XN : Vec) (EN : Int) (HBN : ∀ W, Calls Tryz.prog 89 #[.int .i64 op, .agg (cells v0), .agg (cells v1)] W fun e w' => e = .returned (.tuple #[.agg (cells XN), .int .i64 EN]) ∧ Below W.heap.size W w') (hE3 : (EN == 0) = false) (XC : Vec) (EC : Int) (HCM : ∀ W, Calls Tryz.prog 90 #[.int .i64 op, .agg (cells v0), .agg (cells v1)] W fun e w' => e = .returned (.tuple #[.agg (cells XC), .int .i64 EC]) ∧ Below W.heap.size W w') (hE4 : (EC == 0) = false) (XD : Vec) (ED : Int) (HWB : ∀ W, Calls Tryz.prog 91 #[.int .i64 op, .agg (cells v0), .agg (cells v1)] W fun e w' => e = .returned (.tuple #[.agg (cells XD), .int .i64 ED]) ∧ Below W.heap.size W w') :
  Calls Tryz.prog 25 #[.agg #[.int .i64 op, .int .i64 A, .int .i64 B, .int .u64 (lo : Nat), .int .u64 (hi : Nat), L], .agg #[.int .i64 form, .int .i64 lim, .bool pl, sI, sO], vv] w fun e w' => e = .returned (.tuple #[.agg (cells XD), .int .i64 ED]) ∧ Below w.heap.size w w' := by
 have HBT := Lib.hid HBT
 have HBN := Lib.hid HBN
 have HCM := Lib.hid HCM
 have HWB := Lib.hid HWB
 obtain ⟨ho1, ho2⟩ := ho
 have HT := Lib.hid hT
 have HV := Lib.hid hV
 clear hT hV
 go_enter Tryz.func25, Tryz.ntmps25
 go_upto_region 2 with (first | (go_at_call 48; refine (join_k lo hi _).mono ?_; rintro e u1 ⟨rfl, hb1⟩) | (with_reducible refine store_vec rfl _ _ rfl u1.heap.size _ rfl rfl 0 (heap_new_zero _) ?_; intro w3 g3))
 have hs : MD w u1.heap.size #[.int .i64 op, .int .i64 A, .int .i64 B, .int .u64 (lo : Nat), .int .u64 (hi : Nat), L] #[.int .i64 form, .int .i64 lim, .bool pl, sI, sO] (joinV lo hi) sI ty vv l w3 := md_start _ z16 HT.out HV.out hb1 g3
 clear hb1 g3
 obtain ⟨J, hJ⟩ : ∃ J, J = u1.heap.size := ⟨_, rfl⟩
 rw [← hJ] at hs ⊢
 clear hJ
 obtain ⟨g, c, rfl, hg, hvx⟩ := (HV.out.resolve_left (by have := (List.getElem?_eq_some_iff.1 hl0).1; omega)).ex
 have hv0 := hvx 0 v0 hl0
 have hn0 : 0 < l.length := (List.getElem?_eq_some_iff.1 hl0).1
 have hv1 := hvx 1 v1 hl1
 have hn1 : 1 < l.length := (List.getElem?_eq_some_iff.1 hl1).1
 clear hvx hl0 hl1
 obtain ⟨tb, toff, tc, te, htc, htb, htx⟩ := HT.out.get 0 (List.getElem?_eq_some_iff.1 ht0).1
 have hty0 := htx 0 t0 ht0
 have htl := (List.getElem?_eq_some_iff.1 ht0).1
 have hty1 := cell_b (htx 1 t1 ht1) htb (Below.refl _ _)
 have htl1 := (List.getElem?_eq_some_iff.1 ht1).1
 clear ht1
 subst te
 clear ht0
 have hc0 := cell_b hty0 htb hs.bel
 go_wp2_with (first | ((with_reducible refine load_w ?_ 3 isAgg_int _ rfl _ _ rfl _ _ hs.info _ rfl ?_); (focus rfl)) | ((with_reducible refine load_w ?_ 3 isAgg_int _ rfl _ _ rfl _ _ hs.instr _ rfl ?_); (focus rfl)) | ((with_reducible refine load_w ?_ 34 isAgg_slint _ rfl _ _ rfl _ _ hs.info _ rfl ?_); (focus rfl)) | (with_reducible refine ix1 rfl 34 size_si under_si _ _ rfl tb toff _ _ rfl _ rfl 0 rfl htl ?_) | (with_reducible refine ld1 rfl 3 isAgg_int _ rfl _ rfl _ hc0 ?_) | (go_at_call 85; refine (HBT.out _ hs.bel).mono ?_; rintro e u4 ⟨rfl, hb4⟩; replace hs := hs.below hb4; clear hb4) | (with_reducible refine store_vec rfl _ _ rfl u4.heap.size _ rfl rfl 0 (heap_new_zero _) ?_; intro w5 g5; replace hs := hs.below (below_store (Below.refl _ _) (Nat.le_refl _) g5); have hx5 := g5.this; clear g5) | (with_reducible refine ix1 rfl 34 size_si under_si _ _ rfl tb toff _ _ rfl _ rfl 1 rfl htl1 ?_) | (with_reducible refine ld1 rfl 3 isAgg_int _ rfl _ rfl _ (cell_b hty1 htb hs.bel) ?_))
 refine region_new1 w5 [] XN 14 12 13 [0, 1, 2, 3, 4, 5, 6, 7, 8, 9, 10, 11] (by kernel_rfl) rfl rfl rfl rfl rfl _ _ rfl rfl (N1.start XN (Below.refl _ _) (fun q hq => by cases hq)).drew ?_
 simp only [opsAt, List.getElem?_cons_zero, List.getElem?_cons_succ, List.drop_succ_cons, List.drop_zero]
 repeat (first | (refine wpDA_here rfl (fun D u hS => run_ixv _ _ rfl g _ c rfl 0 rfl (by omega)) ?_; simp only [Act.put, zqA, zqB, zqC]) | (refine wpDA_here rfl (fun D u hS => run_lvm _ rfl g (16 * 0) rfl v0 (rng_below hv0 hg (hs.bel.trans (hS.bel.mono hs.bel.size)))) ?_; simp only [Act.put, zqA, zqB, zqC]) | (refine wpDA_here rfl (fun D u hS => run_ixv _ _ rfl g _ c rfl 1 rfl (by omega)) ?_; simp only [Act.put, zqA, zqB, zqC]) | (refine wpDA_here rfl (fun D u hS => run_lvm _ rfl g (16 * 1) rfl v1 (rng_below hv1 hg (hs.bel.trans (hS.bel.mono hs.bel.size)))) ?_; simp only [Act.put, zqA, zqB, zqC]) | (refine wpDA_here rfl (fun D u hS => run_ldc _ isAgg_int _ rfl w.heap.size 0 rfl _ (fcell (blk_keep hs.instr hS.bel) 0 rfl)) ?_; simp only [Act.put, zqA, zqB, zqC]) | (refine wpDA_call (v := .tuple #[.agg (cells XN), .int .i64 EN]) rfl 89 ?_ (fun u => ?_) (fun D u hS => ?_) ?_; rotate_left 1; (focus (go_simp; (try with_reducible rfl); done)); (focus (refine (HBN.out _).mono ?_; rintro e u2 ⟨rfl, hb⟩; exact ⟨rfl, hS.below hb⟩)); simp only [Act.put, zqA, zqB, zqC]) | (refine wpDA_pure (v := ?_) rfl (fun u => ?_) ?_; rotate_left; (focus (go_simp; (try with_reducible rfl); done)); simp only [Act.put, zqA, zqB, zqC]))
 refine wpDA_nil (fun a1 => ⟨rfl, rfl, fun wa1 hx => ?_⟩)
 unfold ptr
 try simp only [Act.put, zqA, zqB, zqC]
 have ha1 := (hx.new a1 true rfl).1
 simp only [cond_true] at ha1
 replace hs := hs.below hx.bel
 clear hx
 go_wp2_with fail
 refine region_new1 wa1 [] XC 14 12 13 [0, 1, 2, 3, 4, 5, 6, 7, 8, 9, 10, 11] (by kernel_rfl) rfl rfl rfl rfl rfl _ _ rfl rfl (N1.start XC (Below.refl _ _) (fun q hq => by cases hq)).drew ?_
 simp only [opsAt, List.getElem?_cons_zero, List.getElem?_cons_succ, List.drop_succ_cons, List.drop_zero]
 repeat (first | (refine wpDA_here rfl (fun D u hS => run_ixv _ _ rfl g _ c rfl 0 rfl (by omega)) ?_; simp only [Act.put, zqA, zqB, zqC]) | (refine wpDA_here rfl (fun D u hS => run_lvm _ rfl g (16 * 0) rfl v0 (rng_below hv0 hg (hs.bel.trans (hS.bel.mono hs.bel.size)))) ?_; simp only [Act.put, zqA, zqB, zqC]) | (refine wpDA_here rfl (fun D u hS => run_ixv _ _ rfl g _ c rfl 1 rfl (by omega)) ?_; simp only [Act.put, zqA, zqB, zqC]) | (refine wpDA_here rfl (fun D u hS => run_lvm _ rfl g (16 * 1) rfl v1 (rng_below hv1 hg (hs.bel.trans (hS.bel.mono hs.bel.size)))) ?_; simp only [Act.put, zqA, zqB, zqC]) | (refine wpDA_here rfl (fun D u hS => run_ldc _ isAgg_int _ rfl w.heap.size 0 rfl _ (fcell (blk_keep hs.instr hS.bel) 0 rfl)) ?_; simp only [Act.put, zqA, zqB, zqC]) | (refine wpDA_call (v := .tuple #[.agg (cells XC), .int .i64 EC]) rfl 90 ?_ (fun u => ?_) (fun D u hS => ?_) ?_; rotate_left 1; (focus (go_simp; (try with_reducible rfl); done)); (focus (refine (HCM.out _).mono ?_; rintro e u2 ⟨rfl, hb⟩; exact ⟨rfl, hS.below hb⟩)); simp only [Act.put, zqA, zqB, zqC]) | (refine wpDA_pure (v := ?_) rfl (fun u => ?_) ?_; rotate_left; (focus (go_simp; (try with_reducible rfl); done)); simp only [Act.put, zqA, zqB, zqC]))
 refine wpDA_nil (fun a2 => ⟨rfl, rfl, fun wa2 hx => ?_⟩)
 unfold ptr
 try simp only [Act.put, zqA, zqB, zqC]
 have ha2 := (hx.new a2 true rfl).1
 simp only [cond_true] at ha2
 replace hs := hs.below hx.bel
 clear hx
 go_wp2_with fail
 have hB : ∀ {X : Vec} {D : Bool} {u : World}, S1 wa2 (w.heap.size + 2) X D u → Below w.heap.size w u := fun hS => hS.kb.to_below hs.bel (by omega)
 refine region_set1 wa2 (w.heap.size + 2) XD 12 11 [0, 1, 2, 3, 4, 5, 6, 7, 8, 9, 10] (by kernel_rfl) rfl rfl _ _ rfl (St.start hs.res).drew ?_
 simp only [opsAt, List.getElem?_cons_zero, List.getElem?_cons_succ, List.drop_succ_cons, List.drop_zero]
 repeat (first | (refine wpDA_here rfl (fun D u hS => run_ixv _ _ rfl g _ c rfl 0 rfl (by omega)) ?_; simp only [Act.put, zqA, zqB, zqC]) | (refine wpDA_here rfl (fun D u hS => run_lvm _ rfl g (16 * 0) rfl v0 (rng_below hv0 hg (hB hS))) ?_; simp only [Act.put, zqA, zqB, zqC]) | (refine wpDA_here rfl (fun D u hS => run_ixv _ _ rfl g _ c rfl 1 rfl (by omega)) ?_; simp only [Act.put, zqA, zqB, zqC]) | (refine wpDA_here rfl (fun D u hS => run_lvm _ rfl g (16 * 1) rfl v1 (rng_below hv1 hg (hB hS))) ?_; simp only [Act.put, zqA, zqB, zqC]) | (refine wpDA_here rfl (fun D u hS => run_ldc _ isAgg_int _ rfl w.heap.size 0 rfl _ (fcell (hS.kb.get hs.instr (by omega)) 0 rfl)) ?_; simp only [Act.put, zqA, zqB, zqC]) | (refine wpDA_call (v := .tuple #[.agg (cells XD), .int .i64 ED]) rfl 91 ?_ (fun u => ?_) (fun D u hS => ?_) ?_; rotate_left 1; (focus (go_simp; (try with_reducible rfl); done)); (focus (refine (HWB.out _).mono ?_; rintro e u2 ⟨rfl, hb⟩; exact ⟨rfl, hS.below hb⟩)); simp only [Act.put, zqA, zqB, zqC]) | (refine wpDA_pure (v := ?_) rfl (fun u => ?_) ?_; rotate_left; (focus (go_simp; (try with_reducible rfl); done)); simp only [Act.put, zqA, zqB, zqC]))
 refine wpDA_nil ⟨rfl, rfl, fun wq hq => ?_⟩
 try simp only [Act.put, zqA, zqB, zqC]
 go_wp2_with fail
 exact bodyPost_ret (results_vec_tmp rfl _ _ (w.heap.size + 2) _ _ rfl rfl hq.this) rfl ⟨rfl, hq.kb.to_below hs.bel (by omega)⟩
end Go.Proofs.YtebpijlmeemfaaaGreatDoor
end
