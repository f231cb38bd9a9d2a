/-
  Texts VcMe.
-/
import Derived.Test.YtcpfabkokgiepaaQ28
set_option linter.unusedSimpArgs false
set_option linter.unusedVariables false
set_option maxHeartbeats 8000000
open Pl
namespace Go.Proofs.Ytcpfabkokgiepaa
open Go.RowKit Pl
set_option maxRecDepth 100000 in
theorem made_bits (op A B form lim : Int) (lo hi : Nat) (L sI sO vv : Value) (pl : Bool) (ty : List Int) (l : List Vec) (w : World) (ho : 64768 ≤ op ∧ op ≤ 65023) (hT : LView .i64 w sI ty) (hV : l.length = 0 ∨ VSl w vv l) (v0 : Vec) (hl0 : l[0]? = some v0) (h1 : (form == 11) = false) (h2 : (form == 12) = false) (h3 : (form == 13) = false) (h4 : (op == 64782) = false) (t0 : Int) (ht0 : ty[0]? = some t0) (h5 : (t0 == 123) = true) (XB : Vec) (EB : Int) (HBT : ∀ W, Below w.heap.size w W → Calls Try.prog 19 #[.int .i64 op, vv] W fun e w' => e = .returned (.tuple #[.agg (mY XB), .int .i64 EB]) ∧ Below W.heap.size W w') (hE : (EB == 0) = true) :
 Calls Try.prog 33 #[.agg #[.int .i64 op, .int .i64 A, .int .i64 B, .int .u64 (lo : Nat), .int .u64 (hi : Nat), L], .agg #[.int .i64 form, .int .i64 lim, .bool pl, sI, sO], vv] w fun e w' => e = .returned (.tuple #[.agg (mY XB), .int .i64 0]) ∧ Below w.heap.size w w' := by
 have HBT := Lib.hid HBT
 obtain ⟨ho1, ho2⟩ := ho
 have HT := Lib.hid hT
 have HV := Lib.hid hV
 clear hT hV
 go_enter Try.func33, Try.ntmps33
 go_upto_region 2 with (first | (go_at_call 62; refine (sB lo hi _).mono ?_; rintro e u1 ⟨rfl, hb1⟩) | (with_reducible refine mK rfl _ _ rfl u1.heap.size _ rfl rfl 0 (mC _) ?_; intro w3 g3))
 have hs : MD w u1.heap.size #[.int .i64 op, .int .i64 A, .int .i64 B, .int .u64 (lo : Nat), .int .u64 (hi : Nat), L] #[.int .i64 form, .int .i64 lim, .bool pl, sI, sO] (tQ lo hi) sI ty vv l w3 := s3 _ z16 HT.out HV.out hb1 g3
 clear hb1 g3
 obtain ⟨J, hJ⟩ : ∃ J, J = u1.heap.size := ⟨_, rfl⟩
 rw [← hJ] at hs ⊢
 clear hJ
 obtain ⟨g, c, rfl, hg, hvx⟩ := (HV.out.resolve_left (by have := (List.getElem?_eq_some_iff.1 hl0).1; omega)).ex
 have hv0 := hvx 0 v0 hl0
 have hn0 : 0 < l.length := (List.getElem?_eq_some_iff.1 hl0).1
 clear hvx hl0
 obtain ⟨tb, toff, tc, te, htc, htb, htx⟩ := HT.out.get 0 (List.getElem?_eq_some_iff.1 ht0).1
 have hty0 := htx 0 t0 ht0
 have htl := (List.getElem?_eq_some_iff.1 ht0).1
 subst te
 clear ht0
 have hc0 := tJ hty0 htb hs.bel
 go_wp2_with (first | ((with_reducible refine t8 ?_ 3 mM _ rfl _ _ rfl _ _ hs.info _ rfl ?_); (focus rfl)) | ((with_reducible refine t8 ?_ 3 mM _ rfl _ _ rfl _ _ hs.instr _ rfl ?_); (focus rfl)) | ((with_reducible refine t8 ?_ 23 tP _ rfl _ _ rfl _ _ hs.info _ rfl ?_); (focus rfl)) | (with_reducible refine ix1 rfl 23 tA tV _ _ rfl tb toff _ _ rfl _ rfl 0 rfl htl ?_) | (with_reducible refine ld1 rfl 3 mM _ rfl _ rfl _ hc0 ?_) | (go_at_call 19; refine (HBT.out _ hs.bel).mono ?_; rintro e u4 ⟨rfl, hb4⟩; replace hs := hs.below hb4; clear hb4) | (with_reducible refine mK rfl _ _ rfl u4.heap.size _ rfl rfl 0 (mC _) ?_; intro w5 g5; replace hs := hs.below (tH (Below.refl _ _) (Nat.le_refl _) g5); have hx5 := g5.this; clear g5) | (with_reducible refine mG rfl _ rfl _ rfl _ hx5 ?_) | (with_reducible refine mK rfl _ _ rfl (w.heap.size + 2) _ rfl rfl 0 hs.res ?_; intro wq hq))
 exact bodyPost_ret (mS rfl _ _ (w.heap.size + 2) _ _ rfl rfl hq.this) rfl ⟨rfl, hs.bel.trans (hq.below.mono (by omega))⟩
set_option maxRecDepth 100000 in
theorem made_un (op A B form lim : Int) (lo hi : Nat) (L sI sO vv : Value) (pl : Bool) (ty : List Int) (l : List Vec) (w : World) (ho : 64768 ≤ op ∧ op ≤ 65023) (hT : LView .i64 w sI ty) (hV : l.length = 0 ∨ VSl w vv l) (v0 : Vec) (hl0 : l[0]? = some v0) (h1 : (form == 11) = false) (h2 : (form == 12) = false) (h3 : (form == 13) = false) (h4 : (op == 64782) = false) (t0 : Int) (ht0 : ty[0]? = some t0) (h5 : (t0 == 123) = true) (XB : Vec) (EB : Int) (HBT : ∀ W, Below w.heap.size w W → Calls Try.prog 19 #[.int .i64 op, vv] W fun e w' => e = .returned (.tuple #[.agg (mY XB), .int .i64 EB]) ∧ Below W.heap.size W w') (hE : (EB == 0) = false) (hl : ((l.length : Int) == 1) = true) (XU : Vec) (EU : Int) (HUN : ∀ W, Calls Try.prog 17 #[.int .i64 op, .agg (mY v0)] W fun e w' => e = .returned (.tuple #[.agg (mY XU), .int .i64 EU]) ∧ Below W.heap.size W w') (hE2 : (EU == 0) = true) :
 Calls Try.prog 33 #[.agg #[.int .i64 op, .int .i64 A, .int .i64 B, .int .u64 (lo : Nat), .int .u64 (hi : Nat), L], .agg #[.int .i64 form, .int .i64 lim, .bool pl, sI, sO], vv] w fun e w' => e = .returned (.tuple #[.agg (mY XU), .int .i64 0]) ∧ Below w.heap.size w w' := by
 have HBT := Lib.hid HBT
 have HUN := Lib.hid HUN
 obtain ⟨ho1, ho2⟩ := ho
 have HT := Lib.hid hT
 have HV := Lib.hid hV
 clear hT hV
 go_enter Try.func33, Try.ntmps33
 go_upto_region 2 with (first | (go_at_call 62; refine (sB lo hi _).mono ?_; rintro e u1 ⟨rfl, hb1⟩) | (with_reducible refine mK rfl _ _ rfl u1.heap.size _ rfl rfl 0 (mC _) ?_; intro w3 g3))
 have hs : MD w u1.heap.size #[.int .i64 op, .int .i64 A, .int .i64 B, .int .u64 (lo : Nat), .int .u64 (hi : Nat), L] #[.int .i64 form, .int .i64 lim, .bool pl, sI, sO] (tQ lo hi) sI ty vv l w3 := s3 _ z16 HT.out HV.out hb1 g3
 clear hb1 g3
 obtain ⟨J, hJ⟩ : ∃ J, J = u1.heap.size := ⟨_, rfl⟩
 rw [← hJ] at hs ⊢
 clear hJ
 obtain ⟨g, c, rfl, hg, hvx⟩ := (HV.out.resolve_left (by have := (List.getElem?_eq_some_iff.1 hl0).1; omega)).ex
 have hv0 := hvx 0 v0 hl0
 have hn0 : 0 < l.length := (List.getElem?_eq_some_iff.1 hl0).1
 clear hvx hl0
 obtain ⟨tb, toff, tc, te, htc, htb, htx⟩ := HT.out.get 0 (List.getElem?_eq_some_iff.1 ht0).1
 have hty0 := htx 0 t0 ht0
 have htl := (List.getElem?_eq_some_iff.1 ht0).1
 subst te
 clear ht0
 have hc0 := tJ hty0 htb hs.bel
 go_wp2_with (first | ((with_reducible refine t8 ?_ 3 mM _ rfl _ _ rfl _ _ hs.info _ rfl ?_); (focus rfl)) | ((with_reducible refine t8 ?_ 3 mM _ rfl _ _ rfl _ _ hs.instr _ rfl ?_); (focus rfl)) | ((with_reducible refine t8 ?_ 23 tP _ rfl _ _ rfl _ _ hs.info _ rfl ?_); (focus rfl)) | (with_reducible refine ix1 rfl 23 tA tV _ _ rfl tb toff _ _ rfl _ rfl 0 rfl htl ?_) | (with_reducible refine ld1 rfl 3 mM _ rfl _ rfl _ hc0 ?_) | (go_at_call 19; refine (HBT.out _ hs.bel).mono ?_; rintro e u4 ⟨rfl, hb4⟩; replace hs := hs.below hb4; clear hb4) | (with_reducible refine mK rfl _ _ rfl u4.heap.size _ rfl rfl 0 (mC _) ?_; intro w5 g5; replace hs := hs.below (tH (Below.refl _ _) (Nat.le_refl _) g5); have hx5 := g5.this; clear g5))
 refine sU w5 [] XU 11 9 10 [0, 1, 2, 3, 4, 5, 6, 7, 8] (by kernel_rfl) rfl rfl rfl rfl rfl _ _ rfl rfl (N1.start XU (Below.refl _ _) (fun q hq => by cases hq)).drew ?_
 simp only [vW, List.getElem?_cons_zero, List.getElem?_cons_succ, List.drop_succ_cons, List.drop_zero]
 repeat (first | (refine zY rfl (fun D u hS => pS _ _ rfl g _ c rfl 0 rfl (by omega)) ?_) | (refine zY rfl (fun D u hS => pT _ rfl g (16 * 0) rfl v0 (tS hv0 hg (hs.bel.trans (hS.bel.mono hs.bel.size)))) ?_) | (refine zY rfl (fun D u hS => pD _ mM _ rfl w.heap.size 0 rfl _ (eQ (mV hs.instr hS.bel) 0 rfl)) ?_) | (refine zJ (.tuple #[.agg (mY XU), .int .i64 EU]) 17 (c := fun _ u hS => by exact HUN.out _) (r := ?_)) | (refine zX ?_))
 refine pG (fun a1 => ⟨rfl, rfl, fun wa1 hx => ?_⟩)
 unfold ptr
 try simp only [Act.put, z5, z6, z7]
 have ha1 := (hx.new a1 true rfl).1
 simp only [cond_true] at ha1
 replace hs := hs.below hx.bel
 clear hx
 go_wp2_with (first | (with_reducible refine mG rfl _ rfl _ rfl _ ha1 ?_) | (with_reducible refine mK rfl _ _ rfl (w.heap.size + 2) _ rfl rfl 0 hs.res ?_; intro wq hq))
 exact bodyPost_ret (mS rfl _ _ (w.heap.size + 2) _ _ rfl rfl hq.this) rfl ⟨rfl, hs.bel.trans (hq.below.mono (by omega))⟩
set_option maxRecDepth 100000 in
theorem made_wun (op A B form lim : Int) (lo hi : Nat) (L sI sO vv : Value) (pl : Bool) (ty : List Int) (l : List Vec) (w : World) (ho : 64768 ≤ op ∧ op ≤ 65023) (hT : LView .i64 w sI ty) (hV : l.length = 0 ∨ VSl w vv l) (v0 : Vec) (hl0 : l[0]? = some v0) (h1 : (form == 11) = false) (h2 : (form == 12) = false) (h3 : (form == 13) = false) (h4 : (op == 64782) = false) (t0 : Int) (ht0 : ty[0]? = some t0) (h5 : (t0 == 123) = true) (XB : Vec) (EB : Int) (HBT : ∀ W, Below w.heap.size w W → Calls Try.prog 19 #[.int .i64 op, vv] W fun e w' => e = .returned (.tuple #[.agg (mY XB), .int .i64 EB]) ∧ Below W.heap.size W w') (hE : (EB == 0) = false) (hl : ((l.length : Int) == 1) = true) (XU : Vec) (EU : Int) (HUN : ∀ W, Calls Try.prog 17 #[.int .i64 op, .agg (mY v0)] W fun e w' => e = .returned (.tuple #[.agg (mY XU), .int .i64 EU]) ∧ Below W.heap.size W w') (hE2 : (EU == 0) = false) (XW : Vec) (EW : Int) (HWU : ∀ W, Calls Try.prog 18 #[.int .i64 op, .agg (mY v0)] W fun e w' => e = .returned (.tuple #[.agg (mY XW), .int .i64 EW]) ∧ Below W.heap.size W w') :
 Calls Try.prog 33 #[.agg #[.int .i64 op, .int .i64 A, .int .i64 B, .int .u64 (lo : Nat), .int .u64 (hi : Nat), L], .agg #[.int .i64 form, .int .i64 lim, .bool pl, sI, sO], vv] w fun e w' => e = .returned (.tuple #[.agg (mY XW), .int .i64 EW]) ∧ Below w.heap.size w w' := by
 have HBT := Lib.hid HBT
 have HUN := Lib.hid HUN
 have HWU := Lib.hid HWU
 obtain ⟨ho1, ho2⟩ := ho
 have HT := Lib.hid hT
 have HV := Lib.hid hV
 clear hT hV
 go_enter Try.func33, Try.ntmps33
 go_upto_region 2 with (first | (go_at_call 62; refine (sB lo hi _).mono ?_; rintro e u1 ⟨rfl, hb1⟩) | (with_reducible refine mK rfl _ _ rfl u1.heap.size _ rfl rfl 0 (mC _) ?_; intro w3 g3))
 have hs : MD w u1.heap.size #[.int .i64 op, .int .i64 A, .int .i64 B, .int .u64 (lo : Nat), .int .u64 (hi : Nat), L] #[.int .i64 form, .int .i64 lim, .bool pl, sI, sO] (tQ lo hi) sI ty vv l w3 := s3 _ z16 HT.out HV.out hb1 g3
 clear hb1 g3
 obtain ⟨J, hJ⟩ : ∃ J, J = u1.heap.size := ⟨_, rfl⟩
 rw [← hJ] at hs ⊢
 clear hJ
 obtain ⟨g, c, rfl, hg, hvx⟩ := (HV.out.resolve_left (by have := (List.getElem?_eq_some_iff.1 hl0).1; omega)).ex
 have hv0 := hvx 0 v0 hl0
 have hn0 : 0 < l.length := (List.getElem?_eq_some_iff.1 hl0).1
 clear hvx hl0
 obtain ⟨tb, toff, tc, te, htc, htb, htx⟩ := HT.out.get 0 (List.getElem?_eq_some_iff.1 ht0).1
 have hty0 := htx 0 t0 ht0
 have htl := (List.getElem?_eq_some_iff.1 ht0).1
 subst te
 clear ht0
 have hc0 := tJ hty0 htb hs.bel
 go_wp2_with (first | ((with_reducible refine t8 ?_ 3 mM _ rfl _ _ rfl _ _ hs.info _ rfl ?_); (focus rfl)) | ((with_reducible refine t8 ?_ 3 mM _ rfl _ _ rfl _ _ hs.instr _ rfl ?_); (focus rfl)) | ((with_reducible refine t8 ?_ 23 tP _ rfl _ _ rfl _ _ hs.info _ rfl ?_); (focus rfl)) | (with_reducible refine ix1 rfl 23 tA tV _ _ rfl tb toff _ _ rfl _ rfl 0 rfl htl ?_) | (with_reducible refine ld1 rfl 3 mM _ rfl _ rfl _ hc0 ?_) | (go_at_call 19; refine (HBT.out _ hs.bel).mono ?_; rintro e u4 ⟨rfl, hb4⟩; replace hs := hs.below hb4; clear hb4) | (with_reducible refine mK rfl _ _ rfl u4.heap.size _ rfl rfl 0 (mC _) ?_; intro w5 g5; replace hs := hs.below (tH (Below.refl _ _) (Nat.le_refl _) g5); have hx5 := g5.this; clear g5))
 refine sU w5 [] XU 11 9 10 [0, 1, 2, 3, 4, 5, 6, 7, 8] (by kernel_rfl) rfl rfl rfl rfl rfl _ _ rfl rfl (N1.start XU (Below.refl _ _) (fun q hq => by cases hq)).drew ?_
 simp only [vW, List.getElem?_cons_zero, List.getElem?_cons_succ, List.drop_succ_cons, List.drop_zero]
 repeat (first | (refine zY rfl (fun D u hS => pS _ _ rfl g _ c rfl 0 rfl (by omega)) ?_) | (refine zY rfl (fun D u hS => pT _ rfl g (16 * 0) rfl v0 (tS hv0 hg (hs.bel.trans (hS.bel.mono hs.bel.size)))) ?_) | (refine zY rfl (fun D u hS => pD _ mM _ rfl w.heap.size 0 rfl _ (eQ (mV hs.instr hS.bel) 0 rfl)) ?_) | (refine zJ (.tuple #[.agg (mY XU), .int .i64 EU]) 17 (c := fun _ u hS => by exact HUN.out _) (r := ?_)) | (refine zX ?_))
 refine pG (fun a1 => ⟨rfl, rfl, fun wa1 hx => ?_⟩)
 unfold ptr
 try simp only [Act.put, z5, z6, z7]
 have ha1 := (hx.new a1 true rfl).1
 simp only [cond_true] at ha1
 replace hs := hs.below hx.bel
 clear hx
 go_wp2_with fail
 have hB : ∀ {X : Vec} {D : Bool} {u : World}, S1 wa1 (w.heap.size + 2) X D u → Below w.heap.size w u := fun hS => hS.kb.to_below hs.bel (by omega)
 refine sG wa1 (w.heap.size + 2) XW 9 8 [0, 1, 2, 3, 4, 5, 6, 7] (by kernel_rfl) rfl rfl _ _ rfl (St.start hs.res).drew ?_
 simp only [vW, List.getElem?_cons_zero, List.getElem?_cons_succ, List.drop_succ_cons, List.drop_zero]
 repeat (first | (refine zY rfl (fun D u hS => pS _ _ rfl g _ c rfl 0 rfl (by omega)) ?_) | (refine zY rfl (fun D u hS => pT _ rfl g (16 * 0) rfl v0 (tS hv0 hg (hB hS))) ?_) | (refine zY rfl (fun D u hS => pD _ mM _ rfl w.heap.size 0 rfl _ (eQ (hS.kb.get hs.instr (by omega)) 0 rfl)) ?_) | (refine zJ (.tuple #[.agg (mY XW), .int .i64 EW]) 18 (c := fun _ u hS => by exact HWU.out _) (r := ?_)) | (refine zX ?_))
 refine pG ⟨rfl, rfl, fun wq hq => ?_⟩
 try simp only [Act.put, z5, z6, z7]
 go_wp2_with fail
 exact bodyPost_ret (mS rfl _ _ (w.heap.size + 2) _ _ rfl rfl hq.this) rfl ⟨rfl, hq.kb.to_below hs.bel (by omega)⟩
set_option maxRecDepth 100000 in
theorem made_shift (op A B form lim : Int) (lo hi : Nat) (L sI sO vv : Value) (pl : Bool) (ty : List Int) (l : List Vec) (w : World) (ho : 64768 ≤ op ∧ op ≤ 65023) (hT : LView .i64 w sI ty) (hV : l.length = 0 ∨ VSl w vv l) (v0 : Vec) (hl0 : l[0]? = some v0) (v1 : Vec) (hl1 : l[1]? = some v1) (h1 : (form == 11) = false) (h2 : (form == 12) = false) (h3 : (form == 13) = false) (h4 : (op == 64782) = false) (t0 : Int) (ht0 : ty[0]? = some t0) (h5 : (t0 == 123) = true) (XB : Vec) (EB : Int) (HBT : ∀ W, Below w.heap.size w W → Calls Try.prog 19 #[.int .i64 op, vv] W fun e w' => e = .returned (.tuple #[.agg (mY XB), .int .i64 EB]) ∧ Below W.heap.size W w') (hE : (EB == 0) = false) (hl : ((l.length : Int) == 1) = false) (t1 : Int) (ht1 : ty[1]? = some t1) (h6 : (t1 == 127) = true) (XS : Vec) (ES : Int) (n : Nat) (hn : mT v1 32 0 = n) (hn2 : n < 4294967296) (HSH : ∀ W, Calls Try.prog 24 #[.int .i64 op, .agg (mY v0), .int .u32 (n : Int)] W fun e w' => e = .returned (.tuple #[.agg (mY XS), .int .i64 ES]) ∧ Below W.heap.size W w') :
 Calls Try.prog 33 #[.agg #[.int .i64 op, .int .i64 A, .int .i64 B, .int .u64 (lo : Nat), .int .u64 (hi : Nat), L], .agg #[.int .i64 form, .int .i64 lim, .bool pl, sI, sO], vv] w fun e w' => e = .returned (.tuple #[.agg (mY XS), .int .i64 ES]) ∧ Below w.heap.size w w' := by
 have HBT := Lib.hid HBT
 have HSH := Lib.hid HSH
 have HNN := Lib.hid hn
 have HN2 := Lib.hid hn2
 clear hn hn2
 obtain ⟨ho1, ho2⟩ := ho
 have HT := Lib.hid hT
 have HV := Lib.hid hV
 clear hT hV
 go_enter Try.func33, Try.ntmps33
 go_upto_region 2 with (first | (go_at_call 62; refine (sB lo hi _).mono ?_; rintro e u1 ⟨rfl, hb1⟩) | (with_reducible refine mK rfl _ _ rfl u1.heap.size _ rfl rfl 0 (mC _) ?_; intro w3 g3))
 have hs : MD w u1.heap.size #[.int .i64 op, .int .i64 A, .int .i64 B, .int .u64 (lo : Nat), .int .u64 (hi : Nat), L] #[.int .i64 form, .int .i64 lim, .bool pl, sI, sO] (tQ lo hi) sI ty vv l w3 := s3 _ z16 HT.out HV.out hb1 g3
 clear hb1 g3
 obtain ⟨J, hJ⟩ : ∃ J, J = u1.heap.size := ⟨_, rfl⟩
 rw [← hJ] at hs ⊢
 clear hJ
 obtain ⟨g, c, rfl, hg, hvx⟩ := (HV.out.resolve_left (by have := (List.getElem?_eq_some_iff.1 hl0).1; omega)).ex
 have hv0 := hvx 0 v0 hl0
 have hn0 : 0 < l.length := (List.getElem?_eq_some_iff.1 hl0).1
 have hv1 := hvx 1 v1 hl1
 have hn1 : 1 < l.length := (List.getElem?_eq_some_iff.1 hl1).1
 clear hvx hl0 hl1
 obtain ⟨tb, toff, tc, te, htc, htb, htx⟩ := HT.out.get 0 (List.getElem?_eq_some_iff.1 ht0).1
 have hty0 := htx 0 t0 ht0
 have htl := (List.getElem?_eq_some_iff.1 ht0).1
 have hty1 := tJ (htx 1 t1 ht1) htb (Below.refl _ _)
 have htl1 := (List.getElem?_eq_some_iff.1 ht1).1
 clear ht1
 subst te
 clear ht0
 have hc0 := tJ hty0 htb hs.bel
 go_wp2_with (first | ((with_reducible refine t8 ?_ 3 mM _ rfl _ _ rfl _ _ hs.info _ rfl ?_); (focus rfl)) | ((with_reducible refine t8 ?_ 3 mM _ rfl _ _ rfl _ _ hs.instr _ rfl ?_); (focus rfl)) | ((with_reducible refine t8 ?_ 23 tP _ rfl _ _ rfl _ _ hs.info _ rfl ?_); (focus rfl)) | (with_reducible refine ix1 rfl 23 tA tV _ _ rfl tb toff _ _ rfl _ rfl 0 rfl htl ?_) | (with_reducible refine ld1 rfl 3 mM _ rfl _ rfl _ hc0 ?_) | (go_at_call 19; refine (HBT.out _ hs.bel).mono ?_; rintro e u4 ⟨rfl, hb4⟩; replace hs := hs.below hb4; clear hb4) | (with_reducible refine mK rfl _ _ rfl u4.heap.size _ rfl rfl 0 (mC _) ?_; intro w5 g5; replace hs := hs.below (tH (Below.refl _ _) (Nat.le_refl _) g5); have hx5 := g5.this; clear g5) | (with_reducible refine ix1 rfl 23 tA tV _ _ rfl tb toff _ _ rfl _ rfl 1 rfl htl1 ?_) | (with_reducible refine ld1 rfl 3 mM _ rfl _ rfl _ (tJ hty1 htb hs.bel) ?_))
 have e32 : IntKind.u32.wrap (n : Int) = (n : Int) := wrap_u32 n HN2.out
 have hB : ∀ {X : Vec} {D : Bool} {u : World}, S1 w5 (w.heap.size + 2) X D u → Below w.heap.size w u := fun hS => hS.kb.to_below hs.bel (by omega)
 refine sG w5 (w.heap.size + 2) XS 14 13 [0, 1, 2, 3, 4, 5, 6, 7, 8, 9, 10, 11, 12] (by kernel_rfl) rfl rfl _ _ rfl (St.start hs.res).drew ?_
 simp only [vW, List.getElem?_cons_zero, List.getElem?_cons_succ, List.drop_succ_cons, List.drop_zero]
 repeat (first | (refine zY rfl (fun D u hS => pS _ _ rfl g _ c rfl 0 rfl (by omega)) ?_) | (refine zY rfl (fun D u hS => pT _ rfl g (16 * 0) rfl v0 (tS hv0 hg (hB hS))) ?_) | (refine zY rfl (fun D u hS => pS _ _ rfl g _ c rfl 1 rfl (by omega)) ?_) | (refine zY rfl (fun D u hS => pT _ rfl g (16 * 1) rfl v1 (tS hv1 hg (hB hS))) ?_) | (refine zY rfl (fun D u hS => pD _ mM _ rfl w.heap.size 0 rfl _ (eQ (hS.kb.get hs.instr (by omega)) 0 rfl)) ?_) | (refine zJ (.int .u64 (n : Nat)) 51 (c := fun _ u hS => by exact getn32 v1 n _ HNN.out) (r := ?_)) | (refine zJ (.tuple #[.agg (mY XS), .int .i64 ES]) 24 (c := fun _ u hS => by exact HSH.out _) (r := ?_)) | (refine zX ?_))
 refine pG ⟨rfl, rfl, fun wq hq => ?_⟩
 try simp only [Act.put, z5, z6, z7]
 go_wp2_with fail
 exact bodyPost_ret (mS rfl _ _ (w.heap.size + 2) _ _ rfl rfl hq.this) rfl ⟨rfl, hq.kb.to_below hs.bel (by omega)⟩
set_option maxRecDepth 100000 in
theorem made_bin (op A B form lim : Int) (lo hi : Nat) (L sI sO vv : Value) (pl : Bool) (ty : List Int) (l : List Vec) (w : World) (ho : 64768 ≤ op ∧ op ≤ 65023) (hT : LView .i64 w sI ty) (hV : l.length = 0 ∨ VSl w vv l) (v0 : Vec) (hl0 : l[0]? = some v0) (v1 : Vec) (hl1 : l[1]? = some v1) (h1 : (form == 11) = false) (h2 : (form == 12) = false) (h3 : (form == 13) = false) (h4 : (op == 64782) = false) (t0 : Int) (ht0 : ty[0]? = some t0) (h5 : (t0 == 123) = true) (XB : Vec) (EB : Int) (HBT : ∀ W, Below w.heap.size w W → Calls Try.prog 19 #[.int .i64 op, vv] W fun e w' => e = .returned (.tuple #[.agg (mY XB), .int .i64 EB]) ∧ Below W.heap.size W w') (hE : (EB == 0) = false) (hl : ((l.length : Int) == 1) = false) (t1 : Int) (ht1 : ty[1]? = some t1) (h6 : (t1 == 127) = false) (XN : Vec) (EN : Int) (HBN : ∀ W, Calls Try.prog 21 #[.int .i64 op, .agg (mY v0), .agg (mY v1)] W fun e w' => e = .returned (.tuple #[.agg (mY XN), .int .i64 EN]) ∧ Below W.heap.size W w') (hE3 : (EN == 0) = true) :
 Calls Try.prog 33 #[.agg #[.int .i64 op, .int .i64 A, .int .i64 B, .int .u64 (lo : Nat), .int .u64 (hi : Nat), L], .agg #[.int .i64 form, .int .i64 lim, .bool pl, sI, sO], vv] w fun e w' => e = .returned (.tuple #[.agg (mY XN), .int .i64 0]) ∧ Below w.heap.size w w' := by
 have HBT := Lib.hid HBT
 have HBN := Lib.hid HBN
 obtain ⟨ho1, ho2⟩ := ho
 have HT := Lib.hid hT
 have HV := Lib.hid hV
 clear hT hV
 go_enter Try.func33, Try.ntmps33
 go_upto_region 2 with (first | (go_at_call 62; refine (sB lo hi _).mono ?_; rintro e u1 ⟨rfl, hb1⟩) | (with_reducible refine mK rfl _ _ rfl u1.heap.size _ rfl rfl 0 (mC _) ?_; intro w3 g3))
 have hs : MD w u1.heap.size #[.int .i64 op, .int .i64 A, .int .i64 B, .int .u64 (lo : Nat), .int .u64 (hi : Nat), L] #[.int .i64 form, .int .i64 lim, .bool pl, sI, sO] (tQ lo hi) sI ty vv l w3 := s3 _ z16 HT.out HV.out hb1 g3
 clear hb1 g3
 obtain ⟨J, hJ⟩ : ∃ J, J = u1.heap.size := ⟨_, rfl⟩
 rw [← hJ] at hs ⊢
 clear hJ
 obtain ⟨g, c, rfl, hg, hvx⟩ := (HV.out.resolve_left (by have := (List.getElem?_eq_some_iff.1 hl0).1; omega)).ex
 have hv0 := hvx 0 v0 hl0
 have hn0 : 0 < l.length := (List.getElem?_eq_some_iff.1 hl0).1
 have hv1 := hvx 1 v1 hl1
 have hn1 : 1 < l.length := (List.getElem?_eq_some_iff.1 hl1).1
 clear hvx hl0 hl1
 obtain ⟨tb, toff, tc, te, htc, htb, htx⟩ := HT.out.get 0 (List.getElem?_eq_some_iff.1 ht0).1
 have hty0 := htx 0 t0 ht0
 have htl := (List.getElem?_eq_some_iff.1 ht0).1
 have hty1 := tJ (htx 1 t1 ht1) htb (Below.refl _ _)
 have htl1 := (List.getElem?_eq_some_iff.1 ht1).1
 clear ht1
 subst te
 clear ht0
 have hc0 := tJ hty0 htb hs.bel
 go_wp2_with (first | ((with_reducible refine t8 ?_ 3 mM _ rfl _ _ rfl _ _ hs.info _ rfl ?_); (focus rfl)) | ((with_reducible refine t8 ?_ 3 mM _ rfl _ _ rfl _ _ hs.instr _ rfl ?_); (focus rfl)) | ((with_reducible refine t8 ?_ 23 tP _ rfl _ _ rfl _ _ hs.info _ rfl ?_); (focus rfl)) | (with_reducible refine ix1 rfl 23 tA tV _ _ rfl tb toff _ _ rfl _ rfl 0 rfl htl ?_) | (with_reducible refine ld1 rfl 3 mM _ rfl _ rfl _ hc0 ?_) | (go_at_call 19; refine (HBT.out _ hs.bel).mono ?_; rintro e u4 ⟨rfl, hb4⟩; replace hs := hs.below hb4; clear hb4) | (with_reducible refine mK rfl _ _ rfl u4.heap.size _ rfl rfl 0 (mC _) ?_; intro w5 g5; replace hs := hs.below (tH (Below.refl _ _) (Nat.le_refl _) g5); have hx5 := g5.this; clear g5) | (with_reducible refine ix1 rfl 23 tA tV _ _ rfl tb toff _ _ rfl _ rfl 1 rfl htl1 ?_) | (with_reducible refine ld1 rfl 3 mM _ rfl _ rfl _ (tJ hty1 htb hs.bel) ?_))
 refine sU w5 [] XN 14 12 13 [0, 1, 2, 3, 4, 5, 6, 7, 8, 9, 10, 11] (by kernel_rfl) rfl rfl rfl rfl rfl _ _ rfl rfl (N1.start XN (Below.refl _ _) (fun q hq => by cases hq)).drew ?_
 simp only [vW, List.getElem?_cons_zero, List.getElem?_cons_succ, List.drop_succ_cons, List.drop_zero]
 repeat (first | (refine zY rfl (fun D u hS => pS _ _ rfl g _ c rfl 0 rfl (by omega)) ?_) | (refine zY rfl (fun D u hS => pT _ rfl g (16 * 0) rfl v0 (tS hv0 hg (hs.bel.trans (hS.bel.mono hs.bel.size)))) ?_) | (refine zY rfl (fun D u hS => pS _ _ rfl g _ c rfl 1 rfl (by omega)) ?_) | (refine zY rfl (fun D u hS => pT _ rfl g (16 * 1) rfl v1 (tS hv1 hg (hs.bel.trans (hS.bel.mono hs.bel.size)))) ?_) | (refine zY rfl (fun D u hS => pD _ mM _ rfl w.heap.size 0 rfl _ (eQ (mV hs.instr hS.bel) 0 rfl)) ?_) | (refine zJ (.tuple #[.agg (mY XN), .int .i64 EN]) 21 (c := fun _ u hS => by exact HBN.out _) (r := ?_)) | (refine zX ?_))
 refine pG (fun a1 => ⟨rfl, rfl, fun wa1 hx => ?_⟩)
 unfold ptr
 try simp only [Act.put, z5, z6, z7]
 have ha1 := (hx.new a1 true rfl).1
 simp only [cond_true] at ha1
 replace hs := hs.below hx.bel
 clear hx
 go_wp2_with (first | (with_reducible refine mG rfl _ rfl _ rfl _ ha1 ?_) | (with_reducible refine mK rfl _ _ rfl (w.heap.size + 2) _ rfl rfl 0 hs.res ?_; intro wq hq))
 exact bodyPost_ret (mS rfl _ _ (w.heap.size + 2) _ _ rfl rfl hq.this) rfl ⟨rfl, hs.bel.trans (hq.below.mono (by omega))⟩
set_option maxRecDepth 100000 in
theorem made_cmp (op A B form lim : Int) (lo hi : Nat) (L sI sO vv : Value) (pl : Bool) (ty : List Int) (l : List Vec) (w : World) (ho : 64768 ≤ op ∧ op ≤ 65023) (hT : LView .i64 w sI ty) (hV : l.length = 0 ∨ VSl w vv l) (v0 : Vec) (hl0 : l[0]? = some v0) (v1 : Vec) (hl1 : l[1]? = some v1) (h1 : (form == 11) = false) (h2 : (form == 12) = false) (h3 : (form == 13) = false) (h4 : (op == 64782) = false) (t0 : Int) (ht0 : ty[0]? = some t0) (h5 : (t0 == 123) = true) (XB : Vec) (EB : Int) (HBT : ∀ W, Below w.heap.size w W → Calls Try.prog 19 #[.int .i64 op, vv] W fun e w' => e = .returned (.tuple #[.agg (mY XB), .int .i64 EB]) ∧ Below W.heap.size W w') (hE : (EB == 0) = false) (hl : ((l.length : Int) == 1) = false) (t1 : Int) (ht1 : ty[1]? = some t1) (h6 : (t1 == 127) = false) (XN : Vec) (EN : Int) (HBN : ∀ W, Calls Try.prog 21 #[.int .i64 op, .agg (mY v0), .agg (mY v1)] W fun e w' => e = .returned (.tuple #[.agg (mY XN), .int .i64 EN]) ∧ Below W.heap.size W w') (hE3 : (EN == 0) = false) (XC : Vec) (EC : Int) (HCM : ∀ W, Calls Try.prog 23 #[.int .i64 op, .agg (mY v0), .agg (mY v1)] W fun e w' => e = .returned (.tuple #[.agg (mY XC), .int .i64 EC]) ∧ Below W.heap.size W w') (hE4 : (EC == 0) = true) :
 Calls Try.prog 33 #[.agg #[.int .i64 op, .int .i64 A, .int .i64 B, .int .u64 (lo : Nat), .int .u64 (hi : Nat), L], .agg #[.int .i64 form, .int .i64 lim, .bool pl, sI, sO], vv] w fun e w' => e = .returned (.tuple #[.agg (mY XC), .int .i64 0]) ∧ Below w.heap.size w w' := by
 have HBT := Lib.hid HBT
 have HBN := Lib.hid HBN
 have HCM := Lib.hid HCM
 obtain ⟨ho1, ho2⟩ := ho
 have HT := Lib.hid hT
 have HV := Lib.hid hV
 clear hT hV
 go_enter Try.func33, Try.ntmps33
 go_upto_region 2 with (first | (go_at_call 62; refine (sB lo hi _).mono ?_; rintro e u1 ⟨rfl, hb1⟩) | (with_reducible refine mK rfl _ _ rfl u1.heap.size _ rfl rfl 0 (mC _) ?_; intro w3 g3))
 have hs : MD w u1.heap.size #[.int .i64 op, .int .i64 A, .int .i64 B, .int .u64 (lo : Nat), .int .u64 (hi : Nat), L] #[.int .i64 form, .int .i64 lim, .bool pl, sI, sO] (tQ lo hi) sI ty vv l w3 := s3 _ z16 HT.out HV.out hb1 g3
 clear hb1 g3
 obtain ⟨J, hJ⟩ : ∃ J, J = u1.heap.size := ⟨_, rfl⟩
 rw [← hJ] at hs ⊢
 clear hJ
 obtain ⟨g, c, rfl, hg, hvx⟩ := (HV.out.resolve_left (by have := (List.getElem?_eq_some_iff.1 hl0).1; omega)).ex
 have hv0 := hvx 0 v0 hl0
 have hn0 : 0 < l.length := (List.getElem?_eq_some_iff.1 hl0).1
 have hv1 := hvx 1 v1 hl1
 have hn1 : 1 < l.length := (List.getElem?_eq_some_iff.1 hl1).1
 clear hvx hl0 hl1
 obtain ⟨tb, toff, tc, te, htc, htb, htx⟩ := HT.out.get 0 (List.getElem?_eq_some_iff.1 ht0).1
 have hty0 := htx 0 t0 ht0
 have htl := (List.getElem?_eq_some_iff.1 ht0).1
 have hty1 := tJ (htx 1 t1 ht1) htb (Below.refl _ _)
 have htl1 := (List.getElem?_eq_some_iff.1 ht1).1
 clear ht1
 subst te
 clear ht0
 have hc0 := tJ hty0 htb hs.bel
 go_wp2_with (first | ((with_reducible refine t8 ?_ 3 mM _ rfl _ _ rfl _ _ hs.info _ rfl ?_); (focus rfl)) | ((with_reducible refine t8 ?_ 3 mM _ rfl _ _ rfl _ _ hs.instr _ rfl ?_); (focus rfl)) | ((with_reducible refine t8 ?_ 23 tP _ rfl _ _ rfl _ _ hs.info _ rfl ?_); (focus rfl)) | (with_reducible refine ix1 rfl 23 tA tV _ _ rfl tb toff _ _ rfl _ rfl 0 rfl htl ?_) | (with_reducible refine ld1 rfl 3 mM _ rfl _ rfl _ hc0 ?_) | (go_at_call 19; refine (HBT.out _ hs.bel).mono ?_; rintro e u4 ⟨rfl, hb4⟩; replace hs := hs.below hb4; clear hb4) | (with_reducible refine mK rfl _ _ rfl u4.heap.size _ rfl rfl 0 (mC _) ?_; intro w5 g5; replace hs := hs.below (tH (Below.refl _ _) (Nat.le_refl _) g5); have hx5 := g5.this; clear g5) | (with_reducible refine ix1 rfl 23 tA tV _ _ rfl tb toff _ _ rfl _ rfl 1 rfl htl1 ?_) | (with_reducible refine ld1 rfl 3 mM _ rfl _ rfl _ (tJ hty1 htb hs.bel) ?_))
 refine sU w5 [] XN 14 12 13 [0, 1, 2, 3, 4, 5, 6, 7, 8, 9, 10, 11] (by kernel_rfl) rfl rfl rfl rfl rfl _ _ rfl rfl (N1.start XN (Below.refl _ _) (fun q hq => by cases hq)).drew ?_
 simp only [vW, List.getElem?_cons_zero, List.getElem?_cons_succ, List.drop_succ_cons, List.drop_zero]
 repeat (first | (refine zY rfl (fun D u hS => pS _ _ rfl g _ c rfl 0 rfl (by omega)) ?_) | (refine zY rfl (fun D u hS => pT _ rfl g (16 * 0) rfl v0 (tS hv0 hg (hs.bel.trans (hS.bel.mono hs.bel.size)))) ?_) | (refine zY rfl (fun D u hS => pS _ _ rfl g _ c rfl 1 rfl (by omega)) ?_) | (refine zY rfl (fun D u hS => pT _ rfl g (16 * 1) rfl v1 (tS hv1 hg (hs.bel.trans (hS.bel.mono hs.bel.size)))) ?_) | (refine zY rfl (fun D u hS => pD _ mM _ rfl w.heap.size 0 rfl _ (eQ (mV hs.instr hS.bel) 0 rfl)) ?_) | (refine zJ (.tuple #[.agg (mY XN), .int .i64 EN]) 21 (c := fun _ u hS => by exact HBN.out _) (r := ?_)) | (refine zX ?_))
 refine pG (fun a1 => ⟨rfl, rfl, fun wa1 hx => ?_⟩)
 unfold ptr
 try simp only [Act.put, z5, z6, z7]
 have ha1 := (hx.new a1 true rfl).1
 simp only [cond_true] at ha1
 replace hs := hs.below hx.bel
 clear hx
 go_wp2_with fail
 refine sU wa1 [] XC 14 12 13 [0, 1, 2, 3, 4, 5, 6, 7, 8, 9, 10, 11] (by kernel_rfl) rfl rfl rfl rfl rfl _ _ rfl rfl (N1.start XC (Below.refl _ _) (fun q hq => by cases hq)).drew ?_
 simp only [vW, List.getElem?_cons_zero, List.getElem?_cons_succ, List.drop_succ_cons, List.drop_zero]
 repeat (first | (refine zY rfl (fun D u hS => pS _ _ rfl g _ c rfl 0 rfl (by omega)) ?_) | (refine zY rfl (fun D u hS => pT _ rfl g (16 * 0) rfl v0 (tS hv0 hg (hs.bel.trans (hS.bel.mono hs.bel.size)))) ?_) | (refine zY rfl (fun D u hS => pS _ _ rfl g _ c rfl 1 rfl (by omega)) ?_) | (refine zY rfl (fun D u hS => pT _ rfl g (16 * 1) rfl v1 (tS hv1 hg (hs.bel.trans (hS.bel.mono hs.bel.size)))) ?_) | (refine zY rfl (fun D u hS => pD _ mM _ rfl w.heap.size 0 rfl _ (eQ (mV hs.instr hS.bel) 0 rfl)) ?_) | (refine zJ (.tuple #[.agg (mY XC), .int .i64 EC]) 23 (c := fun _ u hS => by exact HCM.out _) (r := ?_)) | (refine zX ?_))
 refine pG (fun a2 => ⟨rfl, rfl, fun wa2 hx => ?_⟩)
 unfold ptr
 try simp only [Act.put, z5, z6, z7]
 have ha2 := (hx.new a2 true rfl).1
 simp only [cond_true] at ha2
 replace hs := hs.below hx.bel
 clear hx
 go_wp2_with (first | (with_reducible refine mG rfl _ rfl _ rfl _ ha2 ?_) | (with_reducible refine mK rfl _ _ rfl (w.heap.size + 2) _ rfl rfl 0 hs.res ?_; intro wq hq))
 exact bodyPost_ret (mS rfl _ _ (w.heap.size + 2) _ _ rfl rfl hq.this) rfl ⟨rfl, hs.bel.trans (hq.below.mono (by omega))⟩
set_option maxRecDepth 100000 in
theorem made_wbin (op A B form lim : Int) (lo hi : Nat) (L sI sO vv : Value) (pl : Bool) (ty : List Int) (l : List Vec) (w : World) (ho : 64768 ≤ op ∧ op ≤ 65023) (hT : LView .i64 w sI ty) (hV : l.length = 0 ∨ VSl w vv l) (v0 : Vec) (hl0 : l[0]? = some v0) (v1 : Vec) (hl1 : l[1]? = some v1) (h1 : (form == 11) = false) (h2 : (form == 12) = false) (h3 : (form == 13) = false) (h4 : (op == 64782) = false) (t0 : Int) (ht0 : ty[0]? = some t0) (h5 : (t0 == 123) = true) (XB : Vec) (EB : Int) (HBT : ∀ W, Below w.heap.size w W → Calls Try.prog 19 #[.int .i64 op, vv] W fun e w' => e = .returned (.tuple #[.agg (mY XB), .int .i64 EB]) ∧ Below W.heap.size W w') (hE : (EB == 0) = false) (hl : ((l.length : Int) == 1) = false) (t1 : Int) (ht1 : ty[1]? = some t1) (h6 : (t1 == 127) = false) (XN : Vec) (EN : Int) (HBN : ∀ W, Calls Try.prog 21 #[.int .i64 op, .agg (mY v0), .agg (mY v1)] W fun e w' => e = .returned (.tuple #[.agg (mY XN), .int .i64 EN]) ∧ Below W.heap.size W w') (hE3 : (EN == 0) = false) (XC : Vec) (EC : Int) (HCM : ∀ W, Calls Try.prog 23 #[.int .i64 op, .agg (mY v0), .agg (mY v1)] W fun e w' => e = .returned (.tuple #[.agg (mY XC), .int .i64 EC]) ∧ Below W.heap.size W w') (hE4 : (EC == 0) = false) (XD : Vec) (ED : Int) (HWB : ∀ W, Calls Try.prog 22 #[.int .i64 op, .agg (mY v0), .agg (mY v1)] W fun e w' => e = .returned (.tuple #[.agg (mY XD), .int .i64 ED]) ∧ Below W.heap.size W w') :
 Calls Try.prog 33 #[.agg #[.int .i64 op, .int .i64 A, .int .i64 B, .int .u64 (lo : Nat), .int .u64 (hi : Nat), L], .agg #[.int .i64 form, .int .i64 lim, .bool pl, sI, sO], vv] w fun e w' => e = .returned (.tuple #[.agg (mY XD), .int .i64 ED]) ∧ Below w.heap.size w w' := by
 have HBT := Lib.hid HBT
 have HBN := Lib.hid HBN
 have HCM := Lib.hid HCM
 have HWB := Lib.hid HWB
 obtain ⟨ho1, ho2⟩ := ho
 have HT := Lib.hid hT
 have HV := Lib.hid hV
 clear hT hV
 go_enter Try.func33, Try.ntmps33
 go_upto_region 2 with (first | (go_at_call 62; refine (sB lo hi _).mono ?_; rintro e u1 ⟨rfl, hb1⟩) | (with_reducible refine mK rfl _ _ rfl u1.heap.size _ rfl rfl 0 (mC _) ?_; intro w3 g3))
 have hs : MD w u1.heap.size #[.int .i64 op, .int .i64 A, .int .i64 B, .int .u64 (lo : Nat), .int .u64 (hi : Nat), L] #[.int .i64 form, .int .i64 lim, .bool pl, sI, sO] (tQ lo hi) sI ty vv l w3 := s3 _ z16 HT.out HV.out hb1 g3
 clear hb1 g3
 obtain ⟨J, hJ⟩ : ∃ J, J = u1.heap.size := ⟨_, rfl⟩
 rw [← hJ] at hs ⊢
 clear hJ
 obtain ⟨g, c, rfl, hg, hvx⟩ := (HV.out.resolve_left (by have := (List.getElem?_eq_some_iff.1 hl0).1; omega)).ex
 have hv0 := hvx 0 v0 hl0
 have hn0 : 0 < l.length := (List.getElem?_eq_some_iff.1 hl0).1
 have hv1 := hvx 1 v1 hl1
 have hn1 : 1 < l.length := (List.getElem?_eq_some_iff.1 hl1).1
 clear hvx hl0 hl1
 obtain ⟨tb, toff, tc, te, htc, htb, htx⟩ := HT.out.get 0 (List.getElem?_eq_some_iff.1 ht0).1
 have hty0 := htx 0 t0 ht0
 have htl := (List.getElem?_eq_some_iff.1 ht0).1
 have hty1 := tJ (htx 1 t1 ht1) htb (Below.refl _ _)
 have htl1 := (List.getElem?_eq_some_iff.1 ht1).1
 clear ht1
 subst te
 clear ht0
 have hc0 := tJ hty0 htb hs.bel
 go_wp2_with (first | ((with_reducible refine t8 ?_ 3 mM _ rfl _ _ rfl _ _ hs.info _ rfl ?_); (focus rfl)) | ((with_reducible refine t8 ?_ 3 mM _ rfl _ _ rfl _ _ hs.instr _ rfl ?_); (focus rfl)) | ((with_reducible refine t8 ?_ 23 tP _ rfl _ _ rfl _ _ hs.info _ rfl ?_); (focus rfl)) | (with_reducible refine ix1 rfl 23 tA tV _ _ rfl tb toff _ _ rfl _ rfl 0 rfl htl ?_) | (with_reducible refine ld1 rfl 3 mM _ rfl _ rfl _ hc0 ?_) | (go_at_call 19; refine (HBT.out _ hs.bel).mono ?_; rintro e u4 ⟨rfl, hb4⟩; replace hs := hs.below hb4; clear hb4) | (with_reducible refine mK rfl _ _ rfl u4.heap.size _ rfl rfl 0 (mC _) ?_; intro w5 g5; replace hs := hs.below (tH (Below.refl _ _) (Nat.le_refl _) g5); have hx5 := g5.this; clear g5) | (with_reducible refine ix1 rfl 23 tA tV _ _ rfl tb toff _ _ rfl _ rfl 1 rfl htl1 ?_) | (with_reducible refine ld1 rfl 3 mM _ rfl _ rfl _ (tJ hty1 htb hs.bel) ?_))
 refine sU w5 [] XN 14 12 13 [0, 1, 2, 3, 4, 5, 6, 7, 8, 9, 10, 11] (by kernel_rfl) rfl rfl rfl rfl rfl _ _ rfl rfl (N1.start XN (Below.refl _ _) (fun q hq => by cases hq)).drew ?_
 simp only [vW, List.getElem?_cons_zero, List.getElem?_cons_succ, List.drop_succ_cons, List.drop_zero]
 repeat (first | (refine zY rfl (fun D u hS => pS _ _ rfl g _ c rfl 0 rfl (by omega)) ?_) | (refine zY rfl (fun D u hS => pT _ rfl g (16 * 0) rfl v0 (tS hv0 hg (hs.bel.trans (hS.bel.mono hs.bel.size)))) ?_) | (refine zY rfl (fun D u hS => pS _ _ rfl g _ c rfl 1 rfl (by omega)) ?_) | (refine zY rfl (fun D u hS => pT _ rfl g (16 * 1) rfl v1 (tS hv1 hg (hs.bel.trans (hS.bel.mono hs.bel.size)))) ?_) | (refine zY rfl (fun D u hS => pD _ mM _ rfl w.heap.size 0 rfl _ (eQ (mV hs.instr hS.bel) 0 rfl)) ?_) | (refine zJ (.tuple #[.agg (mY XN), .int .i64 EN]) 21 (c := fun _ u hS => by exact HBN.out _) (r := ?_)) | (refine zX ?_))
 refine pG (fun a1 => ⟨rfl, rfl, fun wa1 hx => ?_⟩)
 unfold ptr
 try simp only [Act.put, z5, z6, z7]
 have ha1 := (hx.new a1 true rfl).1
 simp only [cond_true] at ha1
 replace hs := hs.below hx.bel
 clear hx
 go_wp2_with fail
 refine sU wa1 [] XC 14 12 13 [0, 1, 2, 3, 4, 5, 6, 7, 8, 9, 10, 11] (by kernel_rfl) rfl rfl rfl rfl rfl _ _ rfl rfl (N1.start XC (Below.refl _ _) (fun q hq => by cases hq)).drew ?_
 simp only [vW, List.getElem?_cons_zero, List.getElem?_cons_succ, List.drop_succ_cons, List.drop_zero]
 repeat (first | (refine zY rfl (fun D u hS => pS _ _ rfl g _ c rfl 0 rfl (by omega)) ?_) | (refine zY rfl (fun D u hS => pT _ rfl g (16 * 0) rfl v0 (tS hv0 hg (hs.bel.trans (hS.bel.mono hs.bel.size)))) ?_) | (refine zY rfl (fun D u hS => pS _ _ rfl g _ c rfl 1 rfl (by omega)) ?_) | (refine zY rfl (fun D u hS => pT _ rfl g (16 * 1) rfl v1 (tS hv1 hg (hs.bel.trans (hS.bel.mono hs.bel.size)))) ?_) | (refine zY rfl (fun D u hS => pD _ mM _ rfl w.heap.size 0 rfl _ (eQ (mV hs.instr hS.bel) 0 rfl)) ?_) | (refine zJ (.tuple #[.agg (mY XC), .int .i64 EC]) 23 (c := fun _ u hS => by exact HCM.out _) (r := ?_)) | (refine zX ?_))
 refine pG (fun a2 => ⟨rfl, rfl, fun wa2 hx => ?_⟩)
 unfold ptr
 try simp only [Act.put, z5, z6, z7]
 have ha2 := (hx.new a2 true rfl).1
 simp only [cond_true] at ha2
 replace hs := hs.below hx.bel
 clear hx
 go_wp2_with fail
 have hB : ∀ {X : Vec} {D : Bool} {u : World}, S1 wa2 (w.heap.size + 2) X D u → Below w.heap.size w u := fun hS => hS.kb.to_below hs.bel (by omega)
 refine sG wa2 (w.heap.size + 2) XD 12 11 [0, 1, 2, 3, 4, 5, 6, 7, 8, 9, 10] (by kernel_rfl) rfl rfl _ _ rfl (St.start hs.res).drew ?_
 simp only [vW, List.getElem?_cons_zero, List.getElem?_cons_succ, List.drop_succ_cons, List.drop_zero]
 repeat (first | (refine zY rfl (fun D u hS => pS _ _ rfl g _ c rfl 0 rfl (by omega)) ?_) | (refine zY rfl (fun D u hS => pT _ rfl g (16 * 0) rfl v0 (tS hv0 hg (hB hS))) ?_) | (refine zY rfl (fun D u hS => pS _ _ rfl g _ c rfl 1 rfl (by omega)) ?_) | (refine zY rfl (fun D u hS => pT _ rfl g (16 * 1) rfl v1 (tS hv1 hg (hB hS))) ?_) | (refine zY rfl (fun D u hS => pD _ mM _ rfl w.heap.size 0 rfl _ (eQ (hS.kb.get hs.instr (by omega)) 0 rfl)) ?_) | (refine zJ (.tuple #[.agg (mY XD), .int .i64 ED]) 22 (c := fun _ u hS => by exact HWB.out _) (r := ?_)) | (refine zX ?_))
 refine pG ⟨rfl, rfl, fun wq hq => ?_⟩
 try simp only [Act.put, z5, z6, z7]
 go_wp2_with fail
 exact bodyPost_ret (mS rfl _ _ (w.heap.size + 2) _ _ rfl rfl hq.this) rfl ⟨rfl, hq.kb.to_below hs.bel (by omega)⟩
end Go.Proofs.Ytcpfabkokgiepaa
