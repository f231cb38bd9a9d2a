/-
  plaitlaw10.right: kinds 1, 2, 3, 7, and others.
-/
import Derived.Test.YtlcndenbnokcjaaScB
set_option linter.unusedSimpArgs false
set_option linter.unusedVariables false
namespace Go.Proofs.Ytlcndenbnokcjaa
open Go.RowKit Pl

set_option maxRecDepth 100000 in
set_option maxHeartbeats 4000000 in
theorem right_1 (a b : Option MObj) (y : OpR) (w : World) (h : Pr w a b) (ok : y.Ok) (hk : y.kind = 1) :
    Calls Try.prog 23 #[ptrO a, ptrO b, .agg y.row] w fun e w' => e = .returned (.bool true) ∧ ∃ a1 b1, Turned w w' a b a1 b1 := by
  obtain ⟨W, hW⟩ : ∃ W, W = w.alloc (.cells y.row 50) := ⟨_, rfl⟩
  have bx : Bx W w.heap.size y := hW ▸ Bx.new w y
  have hbw : Below w.heap.size w W := hW ▸ (Below.refl _ _).alloc (Nat.le_refl _) _
  have hp := h.below hbw
  obtain ⟨na, nb⟩ := h.off (Nat.le_refl w.heap.size)
  obtain ⟨V, R, R', hl, CA, CB⟩ := grow_pair a b h.like y.N ok.N
  have CA := Lib.hid CA
  have CB := Lib.hid CB
  go_enter Try.func23, Try.ntmps23
  go_upto_region 1 with fail
  rw [← hW]
  have c0 := bx.c0
  rw [hk] at c0
  have HW := Lib.hid hW
  clear hW
  go_wp2_with fail
  refine region_plan (RS W w.heap.size y a b R R') (stepR 3 7) (fun _ _ => .int .u32 V) 0 9 [3, 7] [8] [([0, 1, 2, 4, 5, 6], 3), ([], 7)] (by kernel_rfl) (by kernel_rfl) (RS.start bx) ?_
  simp only [planE, opsAt, List.getElem?_cons_zero, List.getElem?_cons_succ, List.drop_succ_cons, List.drop_zero]
  repeat (first | (with_reducible refine wpDA_here rfl (fun D u hS => run_ldc _ isAgg_u32 _ rfl w.heap.size 2 rfl (.int .u32 y.N) hS.row.c2) ?_; simp only [Act.put, List.setIfInBounds_toArray, List.set_cons_zero, List.set_cons_succ]) | (refine wpDA_pure (v := ?_) rfl (fun u => ?_) ?_; rotate_left; (focus (go_simp; (try with_reducible rfl); done)); simp only [Act.put, List.setIfInBounds_toArray, List.set_cons_zero, List.set_cons_succ]))
  refine wpDA_nil ⟨_, rfl, ⟨rfl, fun u hS => ⟨u, .inr ⟨18, ?_, ?_, ?_⟩⟩⟩, ?_⟩
  rotate_left 1
  focus (go_simp; (try with_reducible rfl); done)
  · refine (CA.out u (hS.ma hp)).mono ?_
    rintro e u2 ⟨rfl, a1, g1, g2⟩
    exact ⟨1, .inl ⟨rfl, rfl, rfl⟩, hS.one na g1 g2, rfl⟩
  intro D' hst
  obtain rfl : D' = 1 := by rcases hst with ⟨_, _, e⟩ | ⟨e, _⟩; exact e; exact absurd e (by decide)
  clear hst
  simp only [Act.put, List.setIfInBounds_toArray, List.set_cons_zero, List.set_cons_succ]
  (try simp only [planE, opsAt, List.getElem?_cons_zero, List.getElem?_cons_succ, List.drop_succ_cons, List.drop_zero])
  refine wpDA_nil ⟨_, rfl, ⟨rfl, fun u hS => ⟨u, .inr ⟨45, ?_, ?_, ?_⟩⟩⟩, ?_⟩
  rotate_left 1
  focus (go_simp; (try with_reducible rfl); done)
  · refine (CB.out u (hS.mb hp)).mono ?_
    rintro e u2 ⟨rfl, b1, g1, g2⟩
    exact ⟨2, .inr ⟨rfl, rfl, rfl⟩, hS.two nb g1 g2, rfl⟩
  intro D' hst
  obtain rfl : D' = 2 := by rcases hst with ⟨e, _⟩ | ⟨_, _, e⟩; exact absurd e (by decide); exact e
  clear hst
  simp only [Act.put, List.setIfInBounds_toArray, List.set_cons_zero, List.set_cons_succ]
  (try simp only [planE, opsAt, List.getElem?_cons_zero, List.getElem?_cons_succ, List.drop_succ_cons, List.drop_zero])
  repeat (refine wpDA_pure (v := ?_) rfl (fun u => ?_) ?_; rotate_left; (focus (go_simp; (try with_reducible rfl); done)); simp only [Act.put, List.setIfInBounds_toArray, List.set_cons_zero, List.set_cons_succ])
  refine wpDA_nil (fun u hS => ?_)
  have ht := (hS.turned hp (by exact hl))
  clear hS
  go_wp2_with fail
  go_ret
  obtain ⟨a2, b2, ht⟩ := ht
  exact ⟨rfl, a2, b2, ht.pre hbw⟩

set_option maxRecDepth 100000 in
set_option maxHeartbeats 4000000 in
theorem right_3 (a b : Option MObj) (y : OpR) (w : World) (h : Pr w a b) (ok : y.Ok) (hk : y.kind = 3) :
    Calls Try.prog 23 #[ptrO a, ptrO b, .agg y.row] w fun e w' => e = .returned (.bool true) ∧ ∃ a1 b1, Turned w w' a b a1 b1 := by
  obtain ⟨W, hW⟩ : ∃ W, W = w.alloc (.cells y.row 50) := ⟨_, rfl⟩
  have bx : Bx W w.heap.size y := hW ▸ Bx.new w y
  have hbw : Below w.heap.size w W := hW ▸ (Below.refl _ _).alloc (Nat.le_refl _) _
  have hp := h.below hbw
  obtain ⟨na, nb⟩ := h.off (Nat.le_refl w.heap.size)
  obtain ⟨V, a1, b1, hl, CA, CB⟩ := store_pair a b h.like y.at_ y.len y.X ok.at_ ok.len ok.X
  have CA := Lib.hid CA
  have CB := Lib.hid CB
  go_enter Try.func23, Try.ntmps23
  go_upto_region 1 with fail
  rw [← hW]
  have c0 := bx.c0
  rw [hk] at c0
  have HW := Lib.hid hW
  clear hW
  go_wp2_with fail
  refine region_plan (RS W w.heap.size y a b (fun x => x = a1) (fun x => x = b1)) (stepR 7 15) (fun _ _ => .int .i64 V) 0 17 [7, 15] [16] [([0, 1, 2, 3, 4, 5, 6, 8, 9, 10, 11, 12, 13, 14], 7), ([], 15)] (by kernel_rfl) (by kernel_rfl) (RS.start bx) ?_
  simp only [planE, opsAt, List.getElem?_cons_zero, List.getElem?_cons_succ, List.drop_succ_cons, List.drop_zero]
  repeat (first | (with_reducible refine wpDA_here rfl (fun D u hS => run_ldc _ isAgg_u64 _ rfl w.heap.size 3 rfl (.int .u64 y.at_) hS.row.c3) ?_; simp only [Act.put, List.setIfInBounds_toArray, List.set_cons_zero, List.set_cons_succ]) | (with_reducible refine wpDA_here rfl (fun D u hS => run_ldc _ isAgg_int _ rfl w.heap.size 5 rfl (.int .i64 y.len) hS.row.c5) ?_; simp only [Act.put, List.setIfInBounds_toArray, List.set_cons_zero, List.set_cons_succ]) | (with_reducible refine wpDA_here rfl (fun D u hS => run_ldc _ isAgg_u64 _ rfl w.heap.size 4 rfl (.int .u64 y.X) hS.row.c4) ?_; simp only [Act.put, List.setIfInBounds_toArray, List.set_cons_zero, List.set_cons_succ]) | (refine wpDA_pure (v := ?_) rfl (fun u => ?_) ?_; rotate_left; (focus (go_simp; (try with_reducible rfl); done)); simp only [Act.put, List.setIfInBounds_toArray, List.set_cons_zero, List.set_cons_succ]))
  refine wpDA_nil ⟨_, rfl, ⟨rfl, fun u hS => ⟨u, .inr ⟨17, ?_, ?_, ?_⟩⟩⟩, ?_⟩
  rotate_left 1
  focus (go_simp; (try with_reducible rfl); done)
  · refine (CA.out u (hS.ma hp)).mono ?_
    rintro e u2 ⟨rfl, g1⟩
    exact ⟨1, .inl ⟨rfl, rfl, rfl⟩, hS.one na g1 rfl, rfl⟩
  intro D' hst
  obtain rfl : D' = 1 := by rcases hst with ⟨_, _, e⟩ | ⟨e, _⟩; exact e; exact absurd e (by decide)
  clear hst
  simp only [Act.put, List.setIfInBounds_toArray, List.set_cons_zero, List.set_cons_succ]
  (try simp only [planE, opsAt, List.getElem?_cons_zero, List.getElem?_cons_succ, List.drop_succ_cons, List.drop_zero])
  refine wpDA_nil ⟨_, rfl, ⟨rfl, fun u hS => ⟨u, .inr ⟨47, ?_, ?_, ?_⟩⟩⟩, ?_⟩
  rotate_left 1
  focus (go_simp; (try with_reducible rfl); done)
  · refine (CB.out u (hS.mb hp)).mono ?_
    rintro e u2 ⟨rfl, g1⟩
    exact ⟨2, .inr ⟨rfl, rfl, rfl⟩, hS.two nb g1 rfl, rfl⟩
  intro D' hst
  obtain rfl : D' = 2 := by rcases hst with ⟨e, _⟩ | ⟨_, _, e⟩; exact absurd e (by decide); exact e
  clear hst
  simp only [Act.put, List.setIfInBounds_toArray, List.set_cons_zero, List.set_cons_succ]
  (try simp only [planE, opsAt, List.getElem?_cons_zero, List.getElem?_cons_succ, List.drop_succ_cons, List.drop_zero])
  repeat (refine wpDA_pure (v := ?_) rfl (fun u => ?_) ?_; rotate_left; (focus (go_simp; (try with_reducible rfl); done)); simp only [Act.put, List.setIfInBounds_toArray, List.set_cons_zero, List.set_cons_succ])
  refine wpDA_nil (fun u hS => ?_)
  have ht := (hS.turned hp (by rintro _ _ rfl rfl; exact hl))
  clear hS
  go_wp2_with fail
  go_ret
  obtain ⟨a2, b2, ht⟩ := ht
  exact ⟨rfl, a2, b2, ht.pre hbw⟩

set_option maxRecDepth 100000 in
set_option maxHeartbeats 4000000 in
theorem right_2 (a b : Option MObj) (y : OpR) (w : World) (h : Pr w a b) (ok : y.Ok) (hk : y.kind = 2) :
    Calls Try.prog 23 #[ptrO a, ptrO b, .agg y.row] w fun e w' => e = .returned (.bool true) ∧ ∃ a1 b1, Turned w w' a b a1 b1 := by
  obtain ⟨W, hW⟩ : ∃ W, W = w.alloc (.cells y.row 50) := ⟨_, rfl⟩
  have bx : Bx W w.heap.size y := hW ▸ Bx.new w y
  have hbw : Below w.heap.size w W := hW ▸ (Below.refl _ _).alloc (Nat.le_refl _) _
  have hp := h.below hbw
  obtain ⟨na, nb⟩ := h.off (Nat.le_refl w.heap.size)
  obtain ⟨X, E, CA, CB⟩ := load_pair a b h.like y.at_ y.len ok.at_ ok.len
  have CA := Lib.hid (CA W hp.ha)
  have CB := Lib.hid (CB W hp.hb)
  go_enter Try.func23, Try.ntmps23
  go_upto_region 1 with fail
  rw [← hW]
  have c0 := bx.c0
  rw [hk] at c0
  have HW := Lib.hid hW
  clear hW
  have c3 := bx.c3
  have c5 := bx.c5
  go_wp2_with (first | (go_at_call 19; (with_reducible refine (CA.out).mono ?_); rintro e u ⟨rfl, rfl⟩) | (go_at_call 46; (with_reducible refine (CB.out).mono ?_); rintro e u ⟨rfl, rfl⟩))
  go_ret
  exact ⟨rfl, a, b, Turned.of_below h hbw⟩

set_option maxRecDepth 100000 in
set_option maxHeartbeats 4000000 in
theorem right_7 (a b : Option MObj) (y : OpR) (w : World) (h : Pr w a b) (ok : y.Ok) (hk : y.kind = 7) :
    Calls Try.prog 23 #[ptrO a, ptrO b, .agg y.row] w fun e w' => e = .returned (.bool true) ∧ ∃ a1 b1, Turned w w' a b a1 b1 := by
  obtain ⟨W, hW⟩ : ∃ W, W = w.alloc (.cells y.row 50) := ⟨_, rfl⟩
  have bx : Bx W w.heap.size y := hW ▸ Bx.new w y
  have hbw : Below w.heap.size w W := hW ▸ (Below.refl _ _).alloc (Nat.le_refl _) _
  have hp := h.below hbw
  obtain ⟨na, nb⟩ := h.off (Nat.le_refl w.heap.size)
  obtain ⟨V, CA, CB⟩ := pages_pair a b h.like
  have CA := Lib.hid (CA W hp.ha)
  have CB := Lib.hid (CB W hp.hb)
  go_enter Try.func23, Try.ntmps23
  go_upto_region 1 with fail
  rw [← hW]
  have c0 := bx.c0
  rw [hk] at c0
  have HW := Lib.hid hW
  clear hW
  go_wp2_with (first | (go_at_call 15; (with_reducible refine (CA.out).mono ?_); rintro e u ⟨rfl, rfl⟩) | (go_at_call 16; (with_reducible refine (CB.out).mono ?_); rintro e u ⟨rfl, rfl⟩))
  go_ret
  exact ⟨rfl, a, b, Turned.of_below h hbw⟩

set_option maxRecDepth 100000 in
set_option maxHeartbeats 4000000 in
theorem right_0 (a b : Option MObj) (y : OpR) (w : World) (h : Pr w a b) (ok : y.Ok) (h1 : y.kind ≠ 1) (h2 : y.kind ≠ 2) (h3 : y.kind ≠ 3) (h4 : y.kind ≠ 4) (h5 : y.kind ≠ 5) (h7 : y.kind ≠ 7) :
    Calls Try.prog 23 #[ptrO a, ptrO b, .agg y.row] w fun e w' => e = .returned (.bool true) ∧ ∃ a1 b1, Turned w w' a b a1 b1 := by
  obtain ⟨W, hW⟩ : ∃ W, W = w.alloc (.cells y.row 50) := ⟨_, rfl⟩
  have bx : Bx W w.heap.size y := hW ▸ Bx.new w y
  have hbw : Below w.heap.size w W := hW ▸ (Below.refl _ _).alloc (Nat.le_refl _) _
  have hp := h.below hbw
  obtain ⟨na, nb⟩ := h.off (Nat.le_refl w.heap.size)
  go_enter Try.func23, Try.ntmps23
  go_upto_region 1 with fail
  rw [← hW]
  have c0 := bx.c0
  have HW := Lib.hid hW
  clear hW
  obtain ⟨K, hK⟩ : ∃ K, K = y.kind := ⟨_, rfl⟩
  rw [← hK] at c0 h1 h2 h3 h4 h5 h7
  clear hK
  go_wp2
  go_ret
  exact ⟨rfl, a, b, Turned.of_below h hbw⟩

end Go.Proofs.Ytlcndenbnokcjaa
