/-
  Texts VcMd.
-/
import Derived.Test.YtcpfabkokgiepaaQ09
import Derived.Test.YtcpfabkokgiepaaQ11
import Derived.Test.YtcpfabkokgiepaaQ20
import Derived.Test.YtcpfabkokgiepaaQ22
import Derived.Test.YtcpfabkokgiepaaQ25
import Derived.Test.YtcpfabkokgiepaaQ26
import Derived.Test.YtcpfabkokgiepaaQ27
import Derived.Deep.Cut
set_option linter.unusedSimpArgs false
set_option linter.unusedVariables false
set_option maxHeartbeats 8000000
open Pl
namespace Go.Proofs.Ytcpfabkokgiepaa
open Go.RowKit Pl
structure MD (w : World) (J : Nat) (I F : Array Value) (X0 : Vec) (sI : Value) (ty : List Int) (vv : Value) (l : List Vec) (u : World) : Prop where
 bel : Below w.heap.size w u
 instr : u.heap[w.heap.size]? = some (.cells I 25 (0, 0))
 info : u.heap[w.heap.size + 1]? = some (.cells F 40 (0, 0))
 res : u.heap[w.heap.size + 2]? = some (.cells (mY 0) 45 (0, 0))
 imm : u.heap[J]? = some (.cells (mY X0) 45 (0, 0))
 jlt : w.heap.size + 2 < J
 tys : LView .i64 w sI ty
 vals : l.length = 0 ∨ VSl w vv l
theorem MD.below {w u u1 : World} {J : Nat} {I F : Array Value} {X0 : Vec} {sI : Value} {ty : List Int} {vv : Value} {l : List Vec} (h : MD w J I F X0 sI ty vv l u) (hb : Below u.heap.size u u1) : MD w J I F X0 sI ty vv l u1 :=
 ⟨h.bel.trans (hb.mono h.bel.size), mV h.instr hb, mV h.info hb, mV h.res hb, mV h.imm hb, h.jlt, h.tys, h.vals⟩
theorem tS {w u : World} {g o : Nat} {cs : List Value} (h : w.rangeAt g o cs) (hlt : g < w.heap.size) (hb : Below w.heap.size w u) : u.rangeAt g o cs := fun j v hj => by
 have := h j v hj
 unfold World.cell? at this ⊢
 rw [hb.block g hlt]
 exact this
theorem s3 {w u1 w3 : World} {I F : Array Value} {X0 : Vec} {sI : Value} {ty : List Int} {vv : Value} {l : List Vec} (x : Array Value) (hx : x = mY 0) (hT : LView .i64 w sI ty) (hV : l.length = 0 ∨ VSl w vv l)
 (hb : Below (((w.alloc (.cells I 25)).alloc (.cells F 40)).alloc (.cells x 45)).heap.size (((w.alloc (.cells I 25)).alloc (.cells F 40)).alloc (.cells x 45)) u1)
 {z : Obj} (hs : Sets (u1.alloc z) u1.heap.size X0 w3) : MD w u1.heap.size I F X0 sI ty vv l w3 := by
 subst hx
 have h0 := pL w (.cells I 25) (.cells F 40) (.cells (mY 0) 45)
 have h1 : Below u1.heap.size u1 w3 := tH (Below.refl _ _) (Nat.le_refl _) hs
 have hsz := hb.size
 simp at hsz
 refine ⟨(h0.trans (hb.mono h0.size)).trans (h1.mono (by omega)), ?_, ?_, ?_, hs.this, by omega, hT, hV⟩
 ·exact mV (mV (pB _ _ _ _) hb) h1
 ·exact mV (mV (pC _ _ _ _) hb) h1
 ·exact mV (mV (pK _ _ _ _) hb) h1
theorem z16 : (#[.int .u8 0, .int .u8 0, .int .u8 0, .int .u8 0, .int .u8 0, .int .u8 0, .int .u8 0, .int .u8 0, .int .u8 0, .int .u8 0, .int .u8 0, .int .u8 0, .int .u8 0, .int .u8 0, .int .u8 0, .int .u8 0] : Array Value) = mY 0 := mU
set_option maxRecDepth 100000 in
theorem made_v128 (op A B form lim : Int) (lo hi : Nat) (L sI sO vv : Value) (pl : Bool) (ty : List Int) (l : List Vec) (w : World) (ho : 64768 ≤ op ∧ op ≤ 65023) (hT : LView .i64 w sI ty) (hV : l.length = 0 ∨ VSl w vv l) (h1 : (form == 11) = true) :
 Calls Try.prog 33 #[.agg #[.int .i64 op, .int .i64 A, .int .i64 B, .int .u64 (lo : Nat), .int .u64 (hi : Nat), L], .agg #[.int .i64 form, .int .i64 lim, .bool pl, sI, sO], vv] w fun e w' => e = .returned (.tuple #[.agg (mY (tQ lo hi)), .int .i64 0]) ∧ Below w.heap.size w w' := by
 obtain ⟨ho1, ho2⟩ := ho
 have HT := Lib.hid hT
 have HV := Lib.hid hV
 clear hT hV
 go_enter Try.func33, Try.ntmps33
 go_upto_region 2 with (first | (go_at_call 62; refine (sB lo hi _).mono ?_; rintro e u1 ⟨rfl, hb1⟩) | (with_reducible refine mK rfl _ _ rfl u1.heap.size _ rfl rfl 0 (mC _) ?_; intro w3 g3))
 have hs : MD w u1.heap.size #[.int .i64 op, .int .i64 A, .int .i64 B, .int .u64 (lo : Nat), .int .u64 (hi : Nat), L] #[.int .i64 form, .int .i64 lim, .bool pl, sI, sO] (tQ lo hi) sI ty vv l w3 := s3 _ z16 HT.out HV.out hb1 g3
 clear hb1 g3
 obtain ⟨J, hJ⟩ : ∃ J, J = u1.heap.size := ⟨_, rfl⟩
 rw [← hJ] at hs ⊢
 clear hJ
 go_wp2_with (first | ((with_reducible refine t8 ?_ 3 mM _ rfl _ _ rfl _ _ hs.info _ rfl ?_); (focus rfl)) | (with_reducible refine mG rfl _ rfl _ rfl _ hs.imm ?_) | (with_reducible refine mK rfl _ _ rfl (w.heap.size + 2) _ rfl rfl 0 hs.res ?_; intro wq hq))
 exact bodyPost_ret (mS rfl _ _ (w.heap.size + 2) _ _ rfl rfl hq.this) rfl ⟨rfl, hs.bel.trans (hq.below.mono (by omega))⟩
theorem tJ {w u : World} {g o : Nat} {v : Value} (h : w.cell? ⟨g, o, none⟩ = some v) (hlt : g < w.heap.size) (hb : Below w.heap.size w u) : u.cell? ⟨g, o, none⟩ = some v := by
 unfold World.cell? at h ⊢
 rw [hb.block g hlt]
 exact h
theorem repl_z (op A : Int) (v : Vec) (x : Nat) (w : World) (ho : 64768 ≤ op ∧ op ≤ 65023) : Calls Try.prog 26 #[.int .i64 op, .int .i64 A, .agg (mY v), .int .u64 (x : Nat)] w fun e w' => e = .returned (.tuple #[.agg (mY (v7 (op - 64768) A v x).1), .int .i64 (v7 (op - 64768) A v x).2]) ∧ Below w.heap.size w w' := by
 have := repl_k (op - 64768) A v x w (by omega)
 exact kX
theorem ext_z (op A : Int) (v : Vec) (w : World) (ho : 64768 ≤ op ∧ op ≤ 65023) : Calls Try.prog 27 #[.int .i64 op, .int .i64 A, .agg (mY v)] w fun e w' => e = .returned (.tuple #[.int .u64 ((sS (op - 64768) A v).1 : Nat), .int .i64 (sS (op - 64768) A v).2]) ∧ Below w.heap.size w w' := by
 have := ext_k (op - 64768) A v w (by omega)
 exact kX
theorem splat_z (op : Int) (x : Nat) (w : World) (ho : 64768 ≤ op ∧ op ≤ 65023) : Calls Try.prog 25 #[.int .i64 op, .int .u64 (x : Nat)] w fun e w' => e = .returned (.tuple #[.agg (mY (vK (op - 64768) x).1), .int .i64 (vK (op - 64768) x).2]) ∧ Below w.heap.size w w' := by
 have := splat_k (op - 64768) x w (by omega)
 exact kX
theorem eQ {w : World} {g : Nat} {cs : Array Value} {T : TypeId} (h : w.heap[g]? = some (.cells cs T (0, 0))) (j : Nat) {v : Value} (hv : cs[j]? = some v) : w.cell? ⟨g, j, none⟩ = some v := by
 simp [World.cell?, h, hv]
set_option maxRecDepth 100000 in
theorem made_shuffle (op A B form lim : Int) (lo hi : Nat) (L sI sO vv : Value) (pl : Bool) (ty : List Int) (l : List Vec) (w : World) (ho : 64768 ≤ op ∧ op ≤ 65023) (hT : LView .i64 w sI ty) (hV : l.length = 0 ∨ VSl w vv l) (v0 : Vec) (hl0 : l[0]? = some v0) (v1 : Vec) (hl1 : l[1]? = some v1) (h1 : (form == 11) = false) (h2 : (form == 12) = true) :
 Calls Try.prog 33 #[.agg #[.int .i64 op, .int .i64 A, .int .i64 B, .int .u64 (lo : Nat), .int .u64 (hi : Nat), L], .agg #[.int .i64 form, .int .i64 lim, .bool pl, sI, sO], vv] w fun e w' => e = .returned (.tuple #[.agg (mY (rC (tQ lo hi) v0 v1).1), .int .i64 (rC (tQ lo hi) v0 v1).2]) ∧ Below w.heap.size w w' := by
 obtain ⟨ho1, ho2⟩ := ho
 have HT := Lib.hid hT
 have HV := Lib.hid hV
 clear hT hV
 go_enter Try.func33, Try.ntmps33
 go_upto_region 2 with (first | (go_at_call 62; refine (sB lo hi _).mono ?_; rintro e u1 ⟨rfl, hb1⟩) | (with_reducible refine mK rfl _ _ rfl u1.heap.size _ rfl rfl 0 (mC _) ?_; intro w3 g3))
 have hs : MD w u1.heap.size #[.int .i64 op, .int .i64 A, .int .i64 B, .int .u64 (lo : Nat), .int .u64 (hi : Nat), L] #[.int .i64 form, .int .i64 lim, .bool pl, sI, sO] (tQ lo hi) sI ty vv l w3 := s3 _ z16 HT.out HV.out hb1 g3
 clear hb1 g3
 obtain ⟨J, hJ⟩ : ∃ J, J = u1.heap.size := ⟨_, rfl⟩
 rw [← hJ] at hs ⊢
 clear hJ
 obtain ⟨g, c, rfl, hg, hvx⟩ := (HV.out.resolve_left (by have := (List.getElem?_eq_some_iff.1 hl0).1; omega)).ex
 have hv0 := hvx 0 v0 hl0
 have hn0 : 0 < l.length := (List.getElem?_eq_some_iff.1 hl0).1
 have hv1 := hvx 1 v1 hl1
 have hn1 : 1 < l.length := (List.getElem?_eq_some_iff.1 hl1).1
 clear hvx hl0 hl1
 have hB : ∀ {X : Vec} {D : Bool} {u : World}, S1 w3 (w.heap.size + 2) X D u → Below w.heap.size w u := fun hS => hS.kb.to_below hs.bel (by omega)
 go_wp2_with (first | ((with_reducible refine t8 ?_ 3 mM _ rfl _ _ rfl _ _ hs.info _ rfl ?_); (focus rfl)))
 refine sG w3 (w.heap.size + 2) (rC (tQ lo hi) v0 v1).1 11 10 [0, 1, 2, 3, 4, 5, 6, 7, 8, 9] (by kernel_rfl) rfl rfl _ _ rfl (St.start hs.res).drew ?_
 simp only [vW, List.getElem?_cons_zero, List.getElem?_cons_succ, List.drop_succ_cons, List.drop_zero]
 repeat (first | (refine zV rfl _ rfl J rfl _ (fun D u hS => hS.kb.get hs.imm (by have := hs.jlt; omega)) ?_) | (refine zY rfl (fun D u hS => pS _ _ rfl g _ c rfl 0 rfl (by omega)) ?_) | (refine zY rfl (fun D u hS => pT _ rfl g (16 * 0) rfl v0 (tS hv0 hg (hB hS))) ?_) | (refine zY rfl (fun D u hS => pS _ _ rfl g _ c rfl 1 rfl (by omega)) ?_) | (refine zY rfl (fun D u hS => pT _ rfl g (16 * 1) rfl v1 (tS hv1 hg (hB hS))) ?_) | (refine zJ (.tuple #[.agg (mY (rC (tQ lo hi) v0 v1).1), .int .i64 (rC (tQ lo hi) v0 v1).2]) 29 (c := fun _ u hS => by exact shuffle_k _ _ _ _) (r := ?_)) | (refine zX ?_))
 refine pG ⟨rfl, rfl, fun wq hq => ?_⟩
 try simp only [Act.put, z5, z6, z7]
 go_wp2_with fail
 exact bodyPost_ret (mS rfl _ _ (w.heap.size + 2) _ _ rfl rfl hq.this) rfl ⟨rfl, hq.kb.to_below hs.bel (by omega)⟩
set_option maxRecDepth 100000 in
theorem made_replace (op A B form lim : Int) (lo hi : Nat) (L sI sO vv : Value) (pl : Bool) (ty : List Int) (l : List Vec) (w : World) (ho : 64768 ≤ op ∧ op ≤ 65023) (hT : LView .i64 w sI ty) (hV : l.length = 0 ∨ VSl w vv l) (v0 : Vec) (hl0 : l[0]? = some v0) (v1 : Vec) (hl1 : l[1]? = some v1) (h1 : (form == 11) = false) (h2 : (form == 12) = false) (h3 : (form == 13) = true) :
 Calls Try.prog 33 #[.agg #[.int .i64 op, .int .i64 A, .int .i64 B, .int .u64 (lo : Nat), .int .u64 (hi : Nat), L], .agg #[.int .i64 form, .int .i64 lim, .bool pl, sI, sO], vv] w fun e w' => e = .returned (.tuple #[.agg (mY (v7 (op - 64768) A v0 (mT v1 64 0)).1), .int .i64 (v7 (op - 64768) A v0 (mT v1 64 0)).2]) ∧ Below w.heap.size w w' := by
 have HRP := Lib.hid (fun W => repl_z op A v0 (mT v1 64 0) W ho)
 obtain ⟨ho1, ho2⟩ := ho
 have HT := Lib.hid hT
 have HV := Lib.hid hV
 clear hT hV
 go_enter Try.func33, Try.ntmps33
 go_upto_region 2 with (first | (go_at_call 62; refine (sB lo hi _).mono ?_; rintro e u1 ⟨rfl, hb1⟩) | (with_reducible refine mK rfl _ _ rfl u1.heap.size _ rfl rfl 0 (mC _) ?_; intro w3 g3))
 have hs : MD w u1.heap.size #[.int .i64 op, .int .i64 A, .int .i64 B, .int .u64 (lo : Nat), .int .u64 (hi : Nat), L] #[.int .i64 form, .int .i64 lim, .bool pl, sI, sO] (tQ lo hi) sI ty vv l w3 := s3 _ z16 HT.out HV.out hb1 g3
 clear hb1 g3
 obtain ⟨J, hJ⟩ : ∃ J, J = u1.heap.size := ⟨_, rfl⟩
 rw [← hJ] at hs ⊢
 clear hJ
 obtain ⟨g, c, rfl, hg, hvx⟩ := (HV.out.resolve_left (by have := (List.getElem?_eq_some_iff.1 hl0).1; omega)).ex
 have hv0 := hvx 0 v0 hl0
 have hn0 : 0 < l.length := (List.getElem?_eq_some_iff.1 hl0).1
 have hv1 := hvx 1 v1 hl1
 have hn1 : 1 < l.length := (List.getElem?_eq_some_iff.1 hl1).1
 clear hvx hl0 hl1
 have hB : ∀ {X : Vec} {D : Bool} {u : World}, S1 w3 (w.heap.size + 2) X D u → Below w.heap.size w u := fun hS => hS.kb.to_below hs.bel (by omega)
 go_wp2_with (first | ((with_reducible refine t8 ?_ 3 mM _ rfl _ _ rfl _ _ hs.info _ rfl ?_); (focus rfl)))
 refine sG w3 (w.heap.size + 2) (v7 (op - 64768) A v0 (mT v1 64 0)).1 15 14 [0, 1, 2, 3, 4, 5, 6, 7, 8, 9, 10, 11, 12, 13] (by kernel_rfl) rfl rfl _ _ rfl (St.start hs.res).drew ?_
 simp only [vW, List.getElem?_cons_zero, List.getElem?_cons_succ, List.drop_succ_cons, List.drop_zero]
 repeat (first | (refine zY rfl (fun D u hS => pS _ _ rfl g _ c rfl 0 rfl (by omega)) ?_) | (refine zY rfl (fun D u hS => pT _ rfl g (16 * 0) rfl v0 (tS hv0 hg (hB hS))) ?_) | (refine zY rfl (fun D u hS => pS _ _ rfl g _ c rfl 1 rfl (by omega)) ?_) | (refine zY rfl (fun D u hS => pT _ rfl g (16 * 1) rfl v1 (tS hv1 hg (hB hS))) ?_) | (refine zY rfl (fun D u hS => pD _ mM _ rfl w.heap.size 0 rfl _ (eQ (hS.kb.get hs.instr (by omega)) 0 rfl)) ?_) | (refine zY rfl (fun D u hS => pD _ mM _ rfl w.heap.size 1 rfl _ (eQ (hS.kb.get hs.instr (by omega)) 1 rfl)) ?_) | (refine zJ (.int .u64 (mT v1 64 0 : Nat)) 51 (c := fun _ u hS => by exact dL v1 0 0 _ rfl (by decide)) (r := ?_)) | (refine zJ (.tuple #[.agg (mY (v7 (op - 64768) A v0 (mT v1 64 0)).1), .int .i64 (v7 (op - 64768) A v0 (mT v1 64 0)).2]) 26 (c := fun _ u hS => by exact HRP.out _) (r := ?_)) | (refine zX ?_))
 refine pG ⟨rfl, rfl, fun wq hq => ?_⟩
 try simp only [Act.put, z5, z6, z7]
 go_wp2_with fail
 exact bodyPost_ret (mS rfl _ _ (w.heap.size + 2) _ _ rfl rfl hq.this) rfl ⟨rfl, hq.kb.to_below hs.bel (by omega)⟩
set_option maxRecDepth 100000 in
theorem made_swizzle (op A B form lim : Int) (lo hi : Nat) (L sI sO vv : Value) (pl : Bool) (ty : List Int) (l : List Vec) (w : World) (ho : 64768 ≤ op ∧ op ≤ 65023) (hT : LView .i64 w sI ty) (hV : l.length = 0 ∨ VSl w vv l) (v0 : Vec) (hl0 : l[0]? = some v0) (v1 : Vec) (hl1 : l[1]? = some v1) (h1 : (form == 11) = false) (h2 : (form == 12) = false) (h3 : (form == 13) = false) (h4 : (op == 64782) = true) :
 Calls Try.prog 33 #[.agg #[.int .i64 op, .int .i64 A, .int .i64 B, .int .u64 (lo : Nat), .int .u64 (hi : Nat), L], .agg #[.int .i64 form, .int .i64 lim, .bool pl, sI, sO], vv] w fun e w' => e = .returned (.tuple #[.agg (mY (swizV v0 v1)), .int .i64 0]) ∧ Below w.heap.size w w' := by
 obtain ⟨ho1, ho2⟩ := ho
 have HT := Lib.hid hT
 have HV := Lib.hid hV
 clear hT hV
 go_enter Try.func33, Try.ntmps33
 go_upto_region 2 with (first | (go_at_call 62; refine (sB lo hi _).mono ?_; rintro e u1 ⟨rfl, hb1⟩) | (with_reducible refine mK rfl _ _ rfl u1.heap.size _ rfl rfl 0 (mC _) ?_; intro w3 g3))
 have hs : MD w u1.heap.size #[.int .i64 op, .int .i64 A, .int .i64 B, .int .u64 (lo : Nat), .int .u64 (hi : Nat), L] #[.int .i64 form, .int .i64 lim, .bool pl, sI, sO] (tQ lo hi) sI ty vv l w3 := s3 _ z16 HT.out HV.out hb1 g3
 clear hb1 g3
 obtain ⟨J, hJ⟩ : ∃ J, J = u1.heap.size := ⟨_, rfl⟩
 rw [← hJ] at hs ⊢
 clear hJ
 obtain ⟨g, c, rfl, hg, hvx⟩ := (HV.out.resolve_left (by have := (List.getElem?_eq_some_iff.1 hl0).1; omega)).ex
 have hv0 := hvx 0 v0 hl0
 have hn0 : 0 < l.length := (List.getElem?_eq_some_iff.1 hl0).1
 have hv1 := hvx 1 v1 hl1
 have hn1 : 1 < l.length := (List.getElem?_eq_some_iff.1 hl1).1
 clear hvx hl0 hl1
 have hB : ∀ {X : Vec} {D : Bool} {u : World}, S1 w3 (w.heap.size + 2) X D u → Below w.heap.size w u := fun hS => hS.kb.to_below hs.bel (by omega)
 go_wp2_with (first | ((with_reducible refine t8 ?_ 3 mM _ rfl _ _ rfl _ _ hs.info _ rfl ?_); (focus rfl)) | ((with_reducible refine t8 ?_ 3 mM _ rfl _ _ rfl _ _ hs.instr _ rfl ?_); (focus rfl)))
 refine sG w3 (w.heap.size + 2) (swizV v0 v1) 8 7 [0, 1, 2, 3, 4, 5, 6] (by kernel_rfl) rfl rfl _ _ rfl (St.start hs.res).drew ?_
 simp only [vW, List.getElem?_cons_zero, List.getElem?_cons_succ, List.drop_succ_cons, List.drop_zero]
 repeat (first | (refine zY rfl (fun D u hS => pS _ _ rfl g _ c rfl 0 rfl (by omega)) ?_) | (refine zY rfl (fun D u hS => pT _ rfl g (16 * 0) rfl v0 (tS hv0 hg (hB hS))) ?_) | (refine zY rfl (fun D u hS => pS _ _ rfl g _ c rfl 1 rfl (by omega)) ?_) | (refine zY rfl (fun D u hS => pT _ rfl g (16 * 1) rfl v1 (tS hv1 hg (hB hS))) ?_) | (refine zJ (.agg (mY (swizV v0 v1))) 30 (c := fun _ u hS => by exact swizzle_k _ _ _) (r := ?_)) | (refine zX ?_))
 refine pG ⟨rfl, rfl, fun wq hq => ?_⟩
 try simp only [Act.put, z5, z6, z7]
 go_wp2_with fail
 exact bodyPost_ret (mS rfl _ _ (w.heap.size + 2) _ _ rfl rfl hq.this) rfl ⟨rfl, hq.kb.to_below hs.bel (by omega)⟩
set_option maxRecDepth 100000 in
theorem made_splat (op A B form lim : Int) (lo hi : Nat) (L sI sO vv : Value) (pl : Bool) (ty : List Int) (l : List Vec) (w : World) (ho : 64768 ≤ op ∧ op ≤ 65023) (hT : LView .i64 w sI ty) (hV : l.length = 0 ∨ VSl w vv l) (v0 : Vec) (hl0 : l[0]? = some v0) (h1 : (form == 11) = false) (h2 : (form == 12) = false) (h3 : (form == 13) = false) (h4 : (op == 64782) = false) (t0 : Int) (ht0 : ty[0]? = some t0) (h5 : (t0 == 123) = false) :
 Calls Try.prog 33 #[.agg #[.int .i64 op, .int .i64 A, .int .i64 B, .int .u64 (lo : Nat), .int .u64 (hi : Nat), L], .agg #[.int .i64 form, .int .i64 lim, .bool pl, sI, sO], vv] w fun e w' => e = .returned (.tuple #[.agg (mY (vK (op - 64768) (mT v0 64 0)).1), .int .i64 (vK (op - 64768) (mT v0 64 0)).2]) ∧ Below w.heap.size w w' := by
 have HRP := Lib.hid (fun W => splat_z op (mT v0 64 0) W ho)
 obtain ⟨ho1, ho2⟩ := ho
 have HT := Lib.hid hT
 have HV := Lib.hid hV
 clear hT hV
 go_enter Try.func33, Try.ntmps33
 go_upto_region 2 with (first | (go_at_call 62; refine (sB lo hi _).mono ?_; rintro e u1 ⟨rfl, hb1⟩) | (with_reducible refine mK rfl _ _ rfl u1.heap.size _ rfl rfl 0 (mC _) ?_; intro w3 g3))
 have hs : MD w u1.heap.size #[.int .i64 op, .int .i64 A, .int .i64 B, .int .u64 (lo : Nat), .int .u64 (hi : Nat), L] #[.int .i64 form, .int .i64 lim, .bool pl, sI, sO] (tQ lo hi) sI ty vv l w3 := s3 _ z16 HT.out HV.out hb1 g3
 clear hb1 g3
 obtain ⟨J, hJ⟩ : ∃ J, J = u1.heap.size := ⟨_, rfl⟩
 rw [← hJ] at hs ⊢
 clear hJ
 obtain ⟨g, c, rfl, hg, hvx⟩ := (HV.out.resolve_left (by have := (List.getElem?_eq_some_iff.1 hl0).1; omega)).ex
 have hv0 := hvx 0 v0 hl0
 have hn0 : 0 < l.length := (List.getElem?_eq_some_iff.1 hl0).1
 clear hvx hl0
 obtain ⟨tb, toff, tc, te, htc, htb, htx⟩ := HT.out.get 0 (List.getElem?_eq_some_iff.1 ht0).1
 have hty0 := htx 0 t0 ht0
 have htl := (List.getElem?_eq_some_iff.1 ht0).1
 subst te
 clear ht0
 have hB : ∀ {X : Vec} {D : Bool} {u : World}, S1 w3 (w.heap.size + 2) X D u → Below w.heap.size w u := fun hS => hS.kb.to_below hs.bel (by omega)
 have hc0 := tJ hty0 htb hs.bel
 go_wp2_with (first | ((with_reducible refine t8 ?_ 3 mM _ rfl _ _ rfl _ _ hs.info _ rfl ?_); (focus rfl)) | ((with_reducible refine t8 ?_ 3 mM _ rfl _ _ rfl _ _ hs.instr _ rfl ?_); (focus rfl)) | ((with_reducible refine t8 ?_ 23 tP _ rfl _ _ rfl _ _ hs.info _ rfl ?_); (focus rfl)) | (with_reducible refine ix1 rfl 23 tA tV _ _ rfl tb toff _ _ rfl _ rfl 0 rfl htl ?_) | (with_reducible refine ld1 rfl 3 mM _ rfl _ rfl _ hc0 ?_))
 refine sG w3 (w.heap.size + 2) (vK (op - 64768) (mT v0 64 0)).1 10 9 [0, 1, 2, 3, 4, 5, 6, 7, 8] (by kernel_rfl) rfl rfl _ _ rfl (St.start hs.res).drew ?_
 simp only [vW, List.getElem?_cons_zero, List.getElem?_cons_succ, List.drop_succ_cons, List.drop_zero]
 repeat (first | (refine zY rfl (fun D u hS => pS _ _ rfl g _ c rfl 0 rfl (by omega)) ?_) | (refine zY rfl (fun D u hS => pT _ rfl g (16 * 0) rfl v0 (tS hv0 hg (hB hS))) ?_) | (refine zY rfl (fun D u hS => pD _ mM _ rfl w.heap.size 0 rfl _ (eQ (hS.kb.get hs.instr (by omega)) 0 rfl)) ?_) | (refine zJ (.int .u64 (mT v0 64 0 : Nat)) 51 (c := fun _ u hS => by exact dL v0 0 0 _ rfl (by decide)) (r := ?_)) | (refine zJ (.tuple #[.agg (mY (vK (op - 64768) (mT v0 64 0)).1), .int .i64 (vK (op - 64768) (mT v0 64 0)).2]) 25 (c := fun _ u hS => by exact HRP.out _) (r := ?_)) | (refine zX ?_))
 refine pG ⟨rfl, rfl, fun wq hq => ?_⟩
 try simp only [Act.put, z5, z6, z7]
 go_wp2_with fail
 exact bodyPost_ret (mS rfl _ _ (w.heap.size + 2) _ _ rfl rfl hq.this) rfl ⟨rfl, hq.kb.to_below hs.bel (by omega)⟩
theorem wrap_u32 (n : Nat) (h : n < 4294967296) : IntKind.u32.wrap (n : Int) = (n : Int) := by
 show (n : Int) % 2 ^ 32 = n
 omega
theorem getn32 (v : Vec) (n : Nat) (w : World) (h : mT v 32 0 = n) : Calls Try.prog 51 #[.agg (mY v), .int .i64 32, .int .i64 0] w fun e w' => e = .returned (.int .u64 (n : Nat)) ∧ Below w.heap.size w w' := h ▸ eH v 0 0 w rfl (by decide)
end Go.Proofs.Ytcpfabkokgiepaa
