/-
  vector.made, way by way.
-/
import Derived.Deep.Cut
import Derived.Test.YtcpfabkokgiepaaVcR
import Derived.Test.YtcpfabkokgiepaaVcN
import Derived.Test.YtcpfabkokgiepaaVcS
import Derived.Test.YtcpfabkokgiepaaVcOg
import Derived.Test.YtcpfabkokgiepaaWidV
import Derived.Test.YtcpfabkokgiepaaWidBA
import Derived.Test.YtcpfabkokgiepaaCmpC
import Derived.Test.YtcpfabkokgiepaaCmpT
set_option linter.unusedSimpArgs false
set_option linter.unusedVariables false
namespace Go.Proofs.Ytcpfabkokgiepaa
open Go.RowKit Pl

/-- The worlds of made: instruction, info, result, immediate; types; vectors. -/
structure MD (w : World) (J : Nat) (I F : Array Value) (X0 : Vec) (sI : Value) (ty : List Int) (vv : Value) (l : List Vec) (u : World) : Prop where
  bel : Below w.heap.size w u
  instr : u.heap[w.heap.size]? = some (.cells I 25 (0, 0))
  info : u.heap[w.heap.size + 1]? = some (.cells F 40 (0, 0))
  res : u.heap[w.heap.size + 2]? = some (.cells (cells 0) 45 (0, 0))
  imm : u.heap[J]? = some (.cells (cells X0) 45 (0, 0))
  jlt : w.heap.size + 2 < J
  tys : LView .i64 w sI ty
  vals : l.length = 0 ∨ VSl w vv l
theorem MD.below {w u u1 : World} {J : Nat} {I F : Array Value} {X0 : Vec} {sI : Value} {ty : List Int} {vv : Value} {l : List Vec} (h : MD w J I F X0 sI ty vv l u) (hb : Below u.heap.size u u1) : MD w J I F X0 sI ty vv l u1 :=
  ⟨h.bel.trans (hb.mono h.bel.size), blk_keep h.instr hb, blk_keep h.info hb, blk_keep h.res hb, blk_keep h.imm hb, h.jlt, h.tys, h.vals⟩
theorem rng_below {w u : World} {g o : Nat} {cs : List Value} (h : w.rangeAt g o cs) (hlt : g < w.heap.size) (hb : Below w.heap.size w u) : u.rangeAt g o cs := fun j v hj => by
  have := h j v hj
  unfold World.cell? at this ⊢
  rw [hb.block g hlt]
  exact this
theorem md_start {w u1 w3 : World} {I F : Array Value} {X0 : Vec} {sI : Value} {ty : List Int} {vv : Value} {l : List Vec} (x : Array Value) (hx : x = cells 0) (hT : LView .i64 w sI ty) (hV : l.length = 0 ∨ VSl w vv l)
    (hb : Below (((w.alloc (.cells I 25)).alloc (.cells F 40)).alloc (.cells x 45)).heap.size (((w.alloc (.cells I 25)).alloc (.cells F 40)).alloc (.cells x 45)) u1)
    {z : Obj} (hs : Sets (u1.alloc z) u1.heap.size X0 w3) : MD w u1.heap.size I F X0 sI ty vv l w3 := by
  subst hx
  have h0 := below_alloc3 w (.cells I 25) (.cells F 40) (.cells (cells 0) 45)
  have h1 : Below u1.heap.size u1 w3 := below_store (Below.refl _ _) (Nat.le_refl _) hs
  have hsz := hb.size
  simp at hsz
  refine ⟨(h0.trans (hb.mono h0.size)).trans (h1.mono (by omega)), ?_, ?_, ?_, hs.this, by omega, hT, hV⟩
  · exact blk_keep (blk_keep (heap_alloc3_0 _ _ _ _) hb) h1
  · exact blk_keep (blk_keep (heap_alloc3_1 _ _ _ _) hb) h1
  · exact blk_keep (blk_keep (heap_alloc3_2 _ _ _ _) hb) h1
theorem z16 : (#[.int .u8 0, .int .u8 0, .int .u8 0, .int .u8 0, .int .u8 0, .int .u8 0, .int .u8 0, .int .u8 0, .int .u8 0, .int .u8 0, .int .u8 0, .int .u8 0, .int .u8 0, .int .u8 0, .int .u8 0, .int .u8 0] : Array Value) = cells 0 := cells_zero

set_option maxHeartbeats 2000000 in
set_option maxRecDepth 100000 in
theorem made_v128 (op A B form lim : Int) (lo hi : Nat) (L sI sO vv : Value) (pl : Bool) (ty : List Int) (l : List Vec) (w : World) (ho : 64768 ≤ op ∧ op ≤ 65023) (hT : LView .i64 w sI ty) (hV : l.length = 0 ∨ VSl w vv l) (h1 : (form == 11) = true) :
    Calls Try.prog 33 #[.agg #[.int .i64 op, .int .i64 A, .int .i64 B, .int .u64 (lo : Nat), .int .u64 (hi : Nat), L], .agg #[.int .i64 form, .int .i64 lim, .bool pl, sI, sO], vv] w fun e w' => e = .returned (.tuple #[.agg (cells (joinV lo hi)), .int .i64 0]) ∧ Below w.heap.size w w' := by
  obtain ⟨ho1, ho2⟩ := ho
  have HT := Lib.hid hT
  have HV := Lib.hid hV
  clear hT hV
  go_enter Try.func33, Try.ntmps33
  go_upto_region 2 with (first | (go_at_call 62; refine (join_k lo hi _).mono ?_; rintro e u1 ⟨rfl, hb1⟩) | (with_reducible refine store_vec rfl _ _ rfl u1.heap.size _ rfl rfl 0 (heap_new_zero _) ?_; intro w3 g3))
  have hs : MD w u1.heap.size #[.int .i64 op, .int .i64 A, .int .i64 B, .int .u64 (lo : Nat), .int .u64 (hi : Nat), L] #[.int .i64 form, .int .i64 lim, .bool pl, sI, sO] (joinV lo hi) sI ty vv l w3 := md_start _ z16 HT.out HV.out hb1 g3
  clear hb1 g3
  obtain ⟨J, hJ⟩ : ∃ J, J = u1.heap.size := ⟨_, rfl⟩
  rw [← hJ] at hs ⊢
  clear hJ
  go_wp2_with (first | ((with_reducible refine load_w ?_ 3 isAgg_int _ rfl _ _ rfl _ _ hs.info _ rfl ?_); (focus rfl)) | (with_reducible refine load_vec rfl _ rfl _ rfl _ hs.imm ?_) | (with_reducible refine store_vec rfl _ _ rfl (w.heap.size + 2) _ rfl rfl 0 hs.res ?_; intro wq hq))
  exact bodyPost_ret (results_vec_tmp rfl _ _ (w.heap.size + 2) _ _ rfl rfl hq.this) rfl ⟨rfl, hs.bel.trans (hq.below.mono (by omega))⟩
theorem cell_b {w u : World} {g o : Nat} {v : Value} (h : w.cell? ⟨g, o, none⟩ = some v) (hlt : g < w.heap.size) (hb : Below w.heap.size w u) : u.cell? ⟨g, o, none⟩ = some v := by
  unfold World.cell? at h ⊢
  rw [hb.block g hlt]
  exact h
theorem repl_z (op A : Int) (v : Vec) (x : Nat) (w : World) (ho : 64768 ≤ op ∧ op ≤ 65023) : Calls Try.prog 26 #[.int .i64 op, .int .i64 A, .agg (cells v), .int .u64 (x : Nat)] w fun e w' => e = .returned (.tuple #[.agg (cells (replV (op - 64768) A v x).1), .int .i64 (replV (op - 64768) A v x).2]) ∧ Below w.heap.size w w' := by
  have := repl_k (op - 64768) A v x w (by omega)
  rwa [show (64768 : Int) + (op - 64768) = op by omega] at this
theorem ext_z (op A : Int) (v : Vec) (w : World) (ho : 64768 ≤ op ∧ op ≤ 65023) : Calls Try.prog 27 #[.int .i64 op, .int .i64 A, .agg (cells v)] w fun e w' => e = .returned (.tuple #[.int .u64 ((extV (op - 64768) A v).1 : Nat), .int .i64 (extV (op - 64768) A v).2]) ∧ Below w.heap.size w w' := by
  have := ext_k (op - 64768) A v w (by omega)
  rwa [show (64768 : Int) + (op - 64768) = op by omega] at this
theorem splat_z (op : Int) (x : Nat) (w : World) (ho : 64768 ≤ op ∧ op ≤ 65023) : Calls Try.prog 25 #[.int .i64 op, .int .u64 (x : Nat)] w fun e w' => e = .returned (.tuple #[.agg (cells (splatV (op - 64768) x).1), .int .i64 (splatV (op - 64768) x).2]) ∧ Below w.heap.size w w' := by
  have := splat_k (op - 64768) x w (by omega)
  rwa [show (64768 : Int) + (op - 64768) = op by omega] at this
theorem fcell {w : World} {g : Nat} {cs : Array Value} {T : TypeId} (h : w.heap[g]? = some (.cells cs T (0, 0))) (j : Nat) {v : Value} (hv : cs[j]? = some v) : w.cell? ⟨g, j, none⟩ = some v := by
  simp [World.cell?, h, hv]
set_option maxHeartbeats 4000000 in
set_option maxRecDepth 100000 in
theorem made_shuffle (op A B form lim : Int) (lo hi : Nat) (L sI sO vv : Value) (pl : Bool) (ty : List Int) (l : List Vec) (w : World) (ho : 64768 ≤ op ∧ op ≤ 65023) (hT : LView .i64 w sI ty) (hV : l.length = 0 ∨ VSl w vv l) (v0 : Vec) (hl0 : l[0]? = some v0) (v1 : Vec) (hl1 : l[1]? = some v1) (h1 : (form == 11) = false) (h2 : (form == 12) = true) :
    Calls Try.prog 33 #[.agg #[.int .i64 op, .int .i64 A, .int .i64 B, .int .u64 (lo : Nat), .int .u64 (hi : Nat), L], .agg #[.int .i64 form, .int .i64 lim, .bool pl, sI, sO], vv] w fun e w' => e = .returned (.tuple #[.agg (cells (shufV (joinV lo hi) v0 v1).1), .int .i64 (shufV (joinV lo hi) v0 v1).2]) ∧ Below w.heap.size w w' := by
  obtain ⟨ho1, ho2⟩ := ho
  have HT := Lib.hid hT
  have HV := Lib.hid hV
  clear hT hV
  go_enter Try.func33, Try.ntmps33
  go_upto_region 2 with (first | (go_at_call 62; refine (join_k lo hi _).mono ?_; rintro e u1 ⟨rfl, hb1⟩) | (with_reducible refine store_vec rfl _ _ rfl u1.heap.size _ rfl rfl 0 (heap_new_zero _) ?_; intro w3 g3))
  have hs : MD w u1.heap.size #[.int .i64 op, .int .i64 A, .int .i64 B, .int .u64 (lo : Nat), .int .u64 (hi : Nat), L] #[.int .i64 form, .int .i64 lim, .bool pl, sI, sO] (joinV lo hi) sI ty vv l w3 := md_start _ z16 HT.out HV.out hb1 g3
  clear hb1 g3
  obtain ⟨J, hJ⟩ : ∃ J, J = u1.heap.size := ⟨_, rfl⟩
  rw [← hJ] at hs ⊢
  clear hJ
  obtain ⟨g, c, rfl, hg, hvx⟩ := (HV.out.resolve_left (by have := (List.getElem?_eq_some_iff.1 hl0).1; omega)).ex
  have hv0 := hvx 0 v0 hl0
  have hn0 : 0 < l.length := (List.getElem?_eq_some_iff.1 hl0).1
  have hv1 := hvx 1 v1 hl1
  have hn1 : 1 < l.length := (List.getElem?_eq_some_iff.1 hl1).1
  clear hvx hl0 hl1
  have hB : ∀ {X : Vec} {D : Bool} {u : World}, S1 w3 (w.heap.size + 2) X D u → Below w.heap.size w u := fun hS => hS.kb.to_below hs.bel (by omega)
  go_wp2_with (first | ((with_reducible refine load_w ?_ 3 isAgg_int _ rfl _ _ rfl _ _ hs.info _ rfl ?_); (focus rfl)))
  refine region_set1 w3 (w.heap.size + 2) (shufV (joinV lo hi) v0 v1).1 11 10 [0, 1, 2, 3, 4, 5, 6, 7, 8, 9] (by kernel_rfl) rfl rfl _ _ rfl (St.start hs.res).drew ?_
  simp only [opsAt, List.getElem?_cons_zero, List.getElem?_cons_succ, List.drop_succ_cons, List.drop_zero]
  repeat (first | (refine do_loadA rfl _ rfl J rfl _ (fun D u hS => hS.kb.get hs.imm (by have := hs.jlt; omega)) ?_; simp only [Act.put, List.setIfInBounds_toArray, List.set_cons_zero, List.set_cons_succ]) | (refine wpDA_here rfl (fun D u hS => run_ixv _ _ rfl g _ c rfl 0 rfl (by omega)) ?_; simp only [Act.put, List.setIfInBounds_toArray, List.set_cons_zero, List.set_cons_succ]) | (refine wpDA_here rfl (fun D u hS => run_lvm _ rfl g (16 * 0) rfl v0 (rng_below hv0 hg (hB hS))) ?_; simp only [Act.put, List.setIfInBounds_toArray, List.set_cons_zero, List.set_cons_succ]) | (refine wpDA_here rfl (fun D u hS => run_ixv _ _ rfl g _ c rfl 1 rfl (by omega)) ?_; simp only [Act.put, List.setIfInBounds_toArray, List.set_cons_zero, List.set_cons_succ]) | (refine wpDA_here rfl (fun D u hS => run_lvm _ rfl g (16 * 1) rfl v1 (rng_below hv1 hg (hB hS))) ?_; simp only [Act.put, List.setIfInBounds_toArray, List.set_cons_zero, List.set_cons_succ]) | (refine wpDA_call (v := .tuple #[.agg (cells (shufV (joinV lo hi) v0 v1).1), .int .i64 (shufV (joinV lo hi) v0 v1).2]) rfl 29 ?_ (fun u => ?_) (fun D u hS => ?_) ?_; rotate_left 1; (focus (go_simp; (try with_reducible rfl); done)); (focus (refine (shuffle_k _ _ _ _).mono ?_; rintro e u2 ⟨rfl, hb⟩; exact ⟨rfl, hS.below hb⟩)); simp only [Act.put, List.setIfInBounds_toArray, List.set_cons_zero, List.set_cons_succ]) | (refine wpDA_pure (v := ?_) rfl (fun u => ?_) ?_; rotate_left; (focus (go_simp; (try with_reducible rfl); done)); simp only [Act.put, List.setIfInBounds_toArray, List.set_cons_zero, List.set_cons_succ]))
  refine wpDA_nil ⟨rfl, rfl, fun wq hq => ?_⟩
  try simp only [Act.put, List.setIfInBounds_toArray, List.set_cons_zero, List.set_cons_succ]
  go_wp2_with fail
  exact bodyPost_ret (results_vec_tmp rfl _ _ (w.heap.size + 2) _ _ rfl rfl hq.this) rfl ⟨rfl, hq.kb.to_below hs.bel (by omega)⟩
set_option maxHeartbeats 4000000 in
set_option maxRecDepth 100000 in
theorem made_replace (op A B form lim : Int) (lo hi : Nat) (L sI sO vv : Value) (pl : Bool) (ty : List Int) (l : List Vec) (w : World) (ho : 64768 ≤ op ∧ op ≤ 65023) (hT : LView .i64 w sI ty) (hV : l.length = 0 ∨ VSl w vv l) (v0 : Vec) (hl0 : l[0]? = some v0) (v1 : Vec) (hl1 : l[1]? = some v1) (h1 : (form == 11) = false) (h2 : (form == 12) = false) (h3 : (form == 13) = true) :
    Calls Try.prog 33 #[.agg #[.int .i64 op, .int .i64 A, .int .i64 B, .int .u64 (lo : Nat), .int .u64 (hi : Nat), L], .agg #[.int .i64 form, .int .i64 lim, .bool pl, sI, sO], vv] w fun e w' => e = .returned (.tuple #[.agg (cells (replV (op - 64768) A v0 (getN v1 64 0)).1), .int .i64 (replV (op - 64768) A v0 (getN v1 64 0)).2]) ∧ Below w.heap.size w w' := by
  have HRP := Lib.hid (fun W => repl_z op A v0 (getN v1 64 0) W ho)
  obtain ⟨ho1, ho2⟩ := ho
  have HT := Lib.hid hT
  have HV := Lib.hid hV
  clear hT hV
  go_enter Try.func33, Try.ntmps33
  go_upto_region 2 with (first | (go_at_call 62; refine (join_k lo hi _).mono ?_; rintro e u1 ⟨rfl, hb1⟩) | (with_reducible refine store_vec rfl _ _ rfl u1.heap.size _ rfl rfl 0 (heap_new_zero _) ?_; intro w3 g3))
  have hs : MD w u1.heap.size #[.int .i64 op, .int .i64 A, .int .i64 B, .int .u64 (lo : Nat), .int .u64 (hi : Nat), L] #[.int .i64 form, .int .i64 lim, .bool pl, sI, sO] (joinV lo hi) sI ty vv l w3 := md_start _ z16 HT.out HV.out hb1 g3
  clear hb1 g3
  obtain ⟨J, hJ⟩ : ∃ J, J = u1.heap.size := ⟨_, rfl⟩
  rw [← hJ] at hs ⊢
  clear hJ
  obtain ⟨g, c, rfl, hg, hvx⟩ := (HV.out.resolve_left (by have := (List.getElem?_eq_some_iff.1 hl0).1; omega)).ex
  have hv0 := hvx 0 v0 hl0
  have hn0 : 0 < l.length := (List.getElem?_eq_some_iff.1 hl0).1
  have hv1 := hvx 1 v1 hl1
  have hn1 : 1 < l.length := (List.getElem?_eq_some_iff.1 hl1).1
  clear hvx hl0 hl1
  have hB : ∀ {X : Vec} {D : Bool} {u : World}, S1 w3 (w.heap.size + 2) X D u → Below w.heap.size w u := fun hS => hS.kb.to_below hs.bel (by omega)
  go_wp2_with (first | ((with_reducible refine load_w ?_ 3 isAgg_int _ rfl _ _ rfl _ _ hs.info _ rfl ?_); (focus rfl)))
  refine region_set1 w3 (w.heap.size + 2) (replV (op - 64768) A v0 (getN v1 64 0)).1 15 14 [0, 1, 2, 3, 4, 5, 6, 7, 8, 9, 10, 11, 12, 13] (by kernel_rfl) rfl rfl _ _ rfl (St.start hs.res).drew ?_
  simp only [opsAt, List.getElem?_cons_zero, List.getElem?_cons_succ, List.drop_succ_cons, List.drop_zero]
  repeat (first | (refine wpDA_here rfl (fun D u hS => run_ixv _ _ rfl g _ c rfl 0 rfl (by omega)) ?_; simp only [Act.put, List.setIfInBounds_toArray, List.set_cons_zero, List.set_cons_succ]) | (refine wpDA_here rfl (fun D u hS => run_lvm _ rfl g (16 * 0) rfl v0 (rng_below hv0 hg (hB hS))) ?_; simp only [Act.put, List.setIfInBounds_toArray, List.set_cons_zero, List.set_cons_succ]) | (refine wpDA_here rfl (fun D u hS => run_ixv _ _ rfl g _ c rfl 1 rfl (by omega)) ?_; simp only [Act.put, List.setIfInBounds_toArray, List.set_cons_zero, List.set_cons_succ]) | (refine wpDA_here rfl (fun D u hS => run_lvm _ rfl g (16 * 1) rfl v1 (rng_below hv1 hg (hB hS))) ?_; simp only [Act.put, List.setIfInBounds_toArray, List.set_cons_zero, List.set_cons_succ]) | (refine wpDA_here rfl (fun D u hS => run_ldc _ isAgg_int _ rfl w.heap.size 0 rfl _ (fcell (hS.kb.get hs.instr (by omega)) 0 rfl)) ?_; simp only [Act.put, List.setIfInBounds_toArray, List.set_cons_zero, List.set_cons_succ]) | (refine wpDA_here rfl (fun D u hS => run_ldc _ isAgg_int _ rfl w.heap.size 1 rfl _ (fcell (hS.kb.get hs.instr (by omega)) 1 rfl)) ?_; simp only [Act.put, List.setIfInBounds_toArray, List.set_cons_zero, List.set_cons_succ]) | (refine wpDA_call (v := .int .u64 (getN v1 64 0 : Nat)) rfl 51 ?_ (fun u => ?_) (fun D u hS => ?_) ?_; rotate_left 1; (focus (go_simp; (try with_reducible rfl); done)); (focus (refine (get64z v1 0 0 _ rfl (by decide)).mono ?_; rintro e u2 ⟨rfl, hb⟩; exact ⟨rfl, hS.below hb⟩)); simp only [Act.put, List.setIfInBounds_toArray, List.set_cons_zero, List.set_cons_succ]) | (refine wpDA_call (v := .tuple #[.agg (cells (replV (op - 64768) A v0 (getN v1 64 0)).1), .int .i64 (replV (op - 64768) A v0 (getN v1 64 0)).2]) rfl 26 ?_ (fun u => ?_) (fun D u hS => ?_) ?_; rotate_left 1; (focus (go_simp; (try with_reducible rfl); done)); (focus (refine (HRP.out _).mono ?_; rintro e u2 ⟨rfl, hb⟩; exact ⟨rfl, hS.below hb⟩)); simp only [Act.put, List.setIfInBounds_toArray, List.set_cons_zero, List.set_cons_succ]) | (refine wpDA_pure (v := ?_) rfl (fun u => ?_) ?_; rotate_left; (focus (go_simp; (try with_reducible rfl); done)); simp only [Act.put, List.setIfInBounds_toArray, List.set_cons_zero, List.set_cons_succ]))
  refine wpDA_nil ⟨rfl, rfl, fun wq hq => ?_⟩
  try simp only [Act.put, List.setIfInBounds_toArray, List.set_cons_zero, List.set_cons_succ]
  go_wp2_with fail
  exact bodyPost_ret (results_vec_tmp rfl _ _ (w.heap.size + 2) _ _ rfl rfl hq.this) rfl ⟨rfl, hq.kb.to_below hs.bel (by omega)⟩
set_option maxHeartbeats 4000000 in
set_option maxRecDepth 100000 in
theorem made_swizzle (op A B form lim : Int) (lo hi : Nat) (L sI sO vv : Value) (pl : Bool) (ty : List Int) (l : List Vec) (w : World) (ho : 64768 ≤ op ∧ op ≤ 65023) (hT : LView .i64 w sI ty) (hV : l.length = 0 ∨ VSl w vv l) (v0 : Vec) (hl0 : l[0]? = some v0) (v1 : Vec) (hl1 : l[1]? = some v1) (h1 : (form == 11) = false) (h2 : (form == 12) = false) (h3 : (form == 13) = false) (h4 : (op == 64782) = true) :
    Calls Try.prog 33 #[.agg #[.int .i64 op, .int .i64 A, .int .i64 B, .int .u64 (lo : Nat), .int .u64 (hi : Nat), L], .agg #[.int .i64 form, .int .i64 lim, .bool pl, sI, sO], vv] w fun e w' => e = .returned (.tuple #[.agg (cells (swizV v0 v1)), .int .i64 0]) ∧ Below w.heap.size w w' := by
  obtain ⟨ho1, ho2⟩ := ho
  have HT := Lib.hid hT
  have HV := Lib.hid hV
  clear hT hV
  go_enter Try.func33, Try.ntmps33
  go_upto_region 2 with (first | (go_at_call 62; refine (join_k lo hi _).mono ?_; rintro e u1 ⟨rfl, hb1⟩) | (with_reducible refine store_vec rfl _ _ rfl u1.heap.size _ rfl rfl 0 (heap_new_zero _) ?_; intro w3 g3))
  have hs : MD w u1.heap.size #[.int .i64 op, .int .i64 A, .int .i64 B, .int .u64 (lo : Nat), .int .u64 (hi : Nat), L] #[.int .i64 form, .int .i64 lim, .bool pl, sI, sO] (joinV lo hi) sI ty vv l w3 := md_start _ z16 HT.out HV.out hb1 g3
  clear hb1 g3
  obtain ⟨J, hJ⟩ : ∃ J, J = u1.heap.size := ⟨_, rfl⟩
  rw [← hJ] at hs ⊢
  clear hJ
  obtain ⟨g, c, rfl, hg, hvx⟩ := (HV.out.resolve_left (by have := (List.getElem?_eq_some_iff.1 hl0).1; omega)).ex
  have hv0 := hvx 0 v0 hl0
  have hn0 : 0 < l.length := (List.getElem?_eq_some_iff.1 hl0).1
  have hv1 := hvx 1 v1 hl1
  have hn1 : 1 < l.length := (List.getElem?_eq_some_iff.1 hl1).1
  clear hvx hl0 hl1
  have hB : ∀ {X : Vec} {D : Bool} {u : World}, S1 w3 (w.heap.size + 2) X D u → Below w.heap.size w u := fun hS => hS.kb.to_below hs.bel (by omega)
  go_wp2_with (first | ((with_reducible refine load_w ?_ 3 isAgg_int _ rfl _ _ rfl _ _ hs.info _ rfl ?_); (focus rfl)) | ((with_reducible refine load_w ?_ 3 isAgg_int _ rfl _ _ rfl _ _ hs.instr _ rfl ?_); (focus rfl)))
  refine region_set1 w3 (w.heap.size + 2) (swizV v0 v1) 8 7 [0, 1, 2, 3, 4, 5, 6] (by kernel_rfl) rfl rfl _ _ rfl (St.start hs.res).drew ?_
  simp only [opsAt, List.getElem?_cons_zero, List.getElem?_cons_succ, List.drop_succ_cons, List.drop_zero]
  repeat (first | (refine wpDA_here rfl (fun D u hS => run_ixv _ _ rfl g _ c rfl 0 rfl (by omega)) ?_; simp only [Act.put, List.setIfInBounds_toArray, List.set_cons_zero, List.set_cons_succ]) | (refine wpDA_here rfl (fun D u hS => run_lvm _ rfl g (16 * 0) rfl v0 (rng_below hv0 hg (hB hS))) ?_; simp only [Act.put, List.setIfInBounds_toArray, List.set_cons_zero, List.set_cons_succ]) | (refine wpDA_here rfl (fun D u hS => run_ixv _ _ rfl g _ c rfl 1 rfl (by omega)) ?_; simp only [Act.put, List.setIfInBounds_toArray, List.set_cons_zero, List.set_cons_succ]) | (refine wpDA_here rfl (fun D u hS => run_lvm _ rfl g (16 * 1) rfl v1 (rng_below hv1 hg (hB hS))) ?_; simp only [Act.put, List.setIfInBounds_toArray, List.set_cons_zero, List.set_cons_succ]) | (refine wpDA_call (v := .agg (cells (swizV v0 v1))) rfl 30 ?_ (fun u => ?_) (fun D u hS => ?_) ?_; rotate_left 1; (focus (go_simp; (try with_reducible rfl); done)); (focus (refine (swizzle_k _ _ _).mono ?_; rintro e u2 ⟨rfl, hb⟩; exact ⟨rfl, hS.below hb⟩)); simp only [Act.put, List.setIfInBounds_toArray, List.set_cons_zero, List.set_cons_succ]) | (refine wpDA_pure (v := ?_) rfl (fun u => ?_) ?_; rotate_left; (focus (go_simp; (try with_reducible rfl); done)); simp only [Act.put, List.setIfInBounds_toArray, List.set_cons_zero, List.set_cons_succ]))
  refine wpDA_nil ⟨rfl, rfl, fun wq hq => ?_⟩
  try simp only [Act.put, List.setIfInBounds_toArray, List.set_cons_zero, List.set_cons_succ]
  go_wp2_with fail
  exact bodyPost_ret (results_vec_tmp rfl _ _ (w.heap.size + 2) _ _ rfl rfl hq.this) rfl ⟨rfl, hq.kb.to_below hs.bel (by omega)⟩
set_option maxHeartbeats 4000000 in
set_option maxRecDepth 100000 in
theorem made_splat (op A B form lim : Int) (lo hi : Nat) (L sI sO vv : Value) (pl : Bool) (ty : List Int) (l : List Vec) (w : World) (ho : 64768 ≤ op ∧ op ≤ 65023) (hT : LView .i64 w sI ty) (hV : l.length = 0 ∨ VSl w vv l) (v0 : Vec) (hl0 : l[0]? = some v0) (h1 : (form == 11) = false) (h2 : (form == 12) = false) (h3 : (form == 13) = false) (h4 : (op == 64782) = false) (t0 : Int) (ht0 : ty[0]? = some t0) (h5 : (t0 == 123) = false) :
    Calls Try.prog 33 #[.agg #[.int .i64 op, .int .i64 A, .int .i64 B, .int .u64 (lo : Nat), .int .u64 (hi : Nat), L], .agg #[.int .i64 form, .int .i64 lim, .bool pl, sI, sO], vv] w fun e w' => e = .returned (.tuple #[.agg (cells (splatV (op - 64768) (getN v0 64 0)).1), .int .i64 (splatV (op - 64768) (getN v0 64 0)).2]) ∧ Below w.heap.size w w' := by
  have HRP := Lib.hid (fun W => splat_z op (getN v0 64 0) W ho)
  obtain ⟨ho1, ho2⟩ := ho
  have HT := Lib.hid hT
  have HV := Lib.hid hV
  clear hT hV
  go_enter Try.func33, Try.ntmps33
  go_upto_region 2 with (first | (go_at_call 62; refine (join_k lo hi _).mono ?_; rintro e u1 ⟨rfl, hb1⟩) | (with_reducible refine store_vec rfl _ _ rfl u1.heap.size _ rfl rfl 0 (heap_new_zero _) ?_; intro w3 g3))
  have hs : MD w u1.heap.size #[.int .i64 op, .int .i64 A, .int .i64 B, .int .u64 (lo : Nat), .int .u64 (hi : Nat), L] #[.int .i64 form, .int .i64 lim, .bool pl, sI, sO] (joinV lo hi) sI ty vv l w3 := md_start _ z16 HT.out HV.out hb1 g3
  clear hb1 g3
  obtain ⟨J, hJ⟩ : ∃ J, J = u1.heap.size := ⟨_, rfl⟩
  rw [← hJ] at hs ⊢
  clear hJ
  obtain ⟨g, c, rfl, hg, hvx⟩ := (HV.out.resolve_left (by have := (List.getElem?_eq_some_iff.1 hl0).1; omega)).ex
  have hv0 := hvx 0 v0 hl0
  have hn0 : 0 < l.length := (List.getElem?_eq_some_iff.1 hl0).1
  clear hvx hl0
  obtain ⟨tb, toff, tc, te, htc, htb, htx⟩ := HT.out.get 0 (List.getElem?_eq_some_iff.1 ht0).1
  have hty0 := htx 0 t0 ht0
  have htl := (List.getElem?_eq_some_iff.1 ht0).1
  subst te
  clear ht0
  have hB : ∀ {X : Vec} {D : Bool} {u : World}, S1 w3 (w.heap.size + 2) X D u → Below w.heap.size w u := fun hS => hS.kb.to_below hs.bel (by omega)
  have hc0 := cell_b hty0 htb hs.bel
  go_wp2_with (first | ((with_reducible refine load_w ?_ 3 isAgg_int _ rfl _ _ rfl _ _ hs.info _ rfl ?_); (focus rfl)) | ((with_reducible refine load_w ?_ 3 isAgg_int _ rfl _ _ rfl _ _ hs.instr _ rfl ?_); (focus rfl)) | ((with_reducible refine load_w ?_ 23 isAgg_slint _ rfl _ _ rfl _ _ hs.info _ rfl ?_); (focus rfl)) | (with_reducible refine ix1 rfl 23 size_si under_si _ _ rfl tb toff _ _ rfl _ rfl 0 rfl htl ?_) | (with_reducible refine ld1 rfl 3 isAgg_int _ rfl _ rfl _ hc0 ?_))
  refine region_set1 w3 (w.heap.size + 2) (splatV (op - 64768) (getN v0 64 0)).1 10 9 [0, 1, 2, 3, 4, 5, 6, 7, 8] (by kernel_rfl) rfl rfl _ _ rfl (St.start hs.res).drew ?_
  simp only [opsAt, List.getElem?_cons_zero, List.getElem?_cons_succ, List.drop_succ_cons, List.drop_zero]
  repeat (first | (refine wpDA_here rfl (fun D u hS => run_ixv _ _ rfl g _ c rfl 0 rfl (by omega)) ?_; simp only [Act.put, List.setIfInBounds_toArray, List.set_cons_zero, List.set_cons_succ]) | (refine wpDA_here rfl (fun D u hS => run_lvm _ rfl g (16 * 0) rfl v0 (rng_below hv0 hg (hB hS))) ?_; simp only [Act.put, List.setIfInBounds_toArray, List.set_cons_zero, List.set_cons_succ]) | (refine wpDA_here rfl (fun D u hS => run_ldc _ isAgg_int _ rfl w.heap.size 0 rfl _ (fcell (hS.kb.get hs.instr (by omega)) 0 rfl)) ?_; simp only [Act.put, List.setIfInBounds_toArray, List.set_cons_zero, List.set_cons_succ]) | (refine wpDA_call (v := .int .u64 (getN v0 64 0 : Nat)) rfl 51 ?_ (fun u => ?_) (fun D u hS => ?_) ?_; rotate_left 1; (focus (go_simp; (try with_reducible rfl); done)); (focus (refine (get64z v0 0 0 _ rfl (by decide)).mono ?_; rintro e u2 ⟨rfl, hb⟩; exact ⟨rfl, hS.below hb⟩)); simp only [Act.put, List.setIfInBounds_toArray, List.set_cons_zero, List.set_cons_succ]) | (refine wpDA_call (v := .tuple #[.agg (cells (splatV (op - 64768) (getN v0 64 0)).1), .int .i64 (splatV (op - 64768) (getN v0 64 0)).2]) rfl 25 ?_ (fun u => ?_) (fun D u hS => ?_) ?_; rotate_left 1; (focus (go_simp; (try with_reducible rfl); done)); (focus (refine (HRP.out _).mono ?_; rintro e u2 ⟨rfl, hb⟩; exact ⟨rfl, hS.below hb⟩)); simp only [Act.put, List.setIfInBounds_toArray, List.set_cons_zero, List.set_cons_succ]) | (refine wpDA_pure (v := ?_) rfl (fun u => ?_) ?_; rotate_left; (focus (go_simp; (try with_reducible rfl); done)); simp only [Act.put, List.setIfInBounds_toArray, List.set_cons_zero, List.set_cons_succ]))
  refine wpDA_nil ⟨rfl, rfl, fun wq hq => ?_⟩
  try simp only [Act.put, List.setIfInBounds_toArray, List.set_cons_zero, List.set_cons_succ]
  go_wp2_with fail
  exact bodyPost_ret (results_vec_tmp rfl _ _ (w.heap.size + 2) _ _ rfl rfl hq.this) rfl ⟨rfl, hq.kb.to_below hs.bel (by omega)⟩
theorem wrap_u32 (n : Nat) (h : n < 4294967296) : IntKind.u32.wrap (n : Int) = (n : Int) := by
  show (n : Int) % 2 ^ 32 = n
  omega
theorem getn32 (v : Vec) (n : Nat) (w : World) (h : getN v 32 0 = n) : Calls Try.prog 51 #[.agg (cells v), .int .i64 32, .int .i64 0] w fun e w' => e = .returned (.int .u64 (n : Nat)) ∧ Below w.heap.size w w' := h ▸ get32z v 0 0 w rfl (by decide)
end Go.Proofs.Ytcpfabkokgiepaa
