/-
  The walk of plaitlaw10.MemoryScripts.
-/
import Derived.Test.YtlcndenbnokcjaaScW
import Derived.Deep.MidRow
import Derived.Deep.Cut
set_option linter.unusedSimpArgs false
set_option linter.unusedVariables false
namespace Go.Proofs.Ytlcndenbnokcjaa
open Go.RowKit Pl

theorem setRow_alloc (w : World) (z cells : Array Value) (T : TypeId) : (w.alloc (.cells z T)).setRow w.heap.size cells = w.alloc (.cells cells T) := by
  unfold World.setRow World.alloc
  simp only
  congr 1
  apply Array.ext
  · simp
  · intro i h1 h2
    simp only [Array.getElem_modify, Array.getElem_push]
    by_cases h : i < w.heap.size
    · simp [h, show w.heap.size ≠ i by omega]
    · have : i = w.heap.size := by simp at h2; omega
      subst this
      simp

section
variable {ops : Array Oper} {rest : List Oper} {o : Oper} {a : Act} {w : World} {Q : Exit → Act → World → Prop}
theorem store_new (hgd : o.guard = none) (T : TypeId) (x y : Operand) (ho : o.op = .store T x y) (z cells : Array Value) (hx : a.eval x = .pointer (some ⟨w.heap.size, 0, none⟩)) (hy : a.eval y = .agg cells)
    (hi : (Try.prog.info? T).map (·.size) = some cells.size) (hold : z.size = cells.size) (h1 : cells.all (·.oneCell') = true)
    (h : wpList Try.prog ops Q rest (a.put o.dst undef) (w.alloc (.cells cells T))) : wpList Try.prog ops Q (o :: rest) a (w.alloc (.cells z T)) := by
  refine wpList_store_row hgd T x y ho w.heap.size cells hx hy T z (heap_alloc_new w _) hi hold h1 ?_
  rw [setRow_alloc]
  exact h
end
theorem size_H (a b c : Value) : (Try.prog.info? 46).map (·.size) = some #[a, b, c].size := by kernel_rfl
theorem size_V (a b c : Value) : (Try.prog.info? 47).map (·.size) = some #[a, b, c].size := by kernel_rfl
theorem size_O (y : OpR) : (Try.prog.info? 50).map (·.size) = some y.row.size := by kernel_rfl
theorem size_OL (y : OpR) : (Try.prog.info? 50).map (·.size) = some y.row.toList.length := by kernel_rfl
theorem all_O (y : OpR) : y.row.all (·.oneCell') = true := by kernel_rfl
theorem zero_O (y : OpR) : (#[.int .i64 0, .int .i64 0, .int .u32 0, .int .u64 0, .int .u64 0, .int .i64 0, .int .i64 0, .slice none 0 0] : Array Value).size = y.row.size := rfl
theorem under_O : ∃ fs, Try.prog.underlying 50 = some (.struct fs) := ⟨_, rfl⟩
def headP (o : Option MObj) : Option Addr := o.map fun x => ⟨x.p, 0, none⟩
theorem ptrO_eq (o : Option MObj) : ptrO o = .pointer (headP o) := by cases o <;> rfl
theorem like_nil {a b : Option MObj} (h : alike a b) : ∃ B : Bool, (headP a).isNone = B ∧ (headP b).isNone = B := by
  cases a with
  | none =>
    cases b with
    | none => exact ⟨true, rfl, rfl⟩
    | some r => exact h.elim
  | some m =>
    cases b with
    | none => exact h.elim
    | some r => exact ⟨false, rfl, rfl⟩
structure PBox (u : World) (b : Nat) (l m : Int) (s : Value) : Prop where
  row : u.heap[b]? = some (.cells #[.int .i64 l, .int .i64 m, s] 45 (0, 0))
theorem PBox.below {u u1 : World} {b : Nat} {l m : Int} {s : Value} (h : PBox u b l m s) (k : Below u.heap.size u u1) : PBox u1 b l m s := ⟨blk_keep h.row k⟩
theorem PBox.c0 {u : World} {b : Nat} {l m : Int} {s : Value} (h : PBox u b l m s) : u.cell? ⟨b, 0, none⟩ = some (.int .i64 l) := by rw [cell_of_row u b 0 _ _ _ h.row]; rfl
theorem PBox.c1 {u : World} {b : Nat} {l m : Int} {s : Value} (h : PBox u b l m s) : u.cell? ⟨b, 1, none⟩ = some (.int .i64 m) := by rw [cell_of_row u b 1 _ _ _ h.row]; rfl
theorem PBox.c2 {u : World} {b : Nat} {l m : Int} {s : Value} (h : PBox u b l m s) : u.cell? ⟨b, 2, none⟩ = some s := by rw [cell_of_row u b 2 _ _ _ h.row]; rfl
theorem like_one {o r : MObj} {u u1 v v1 : World} (f : Fresh u u1 o 86 (65536 * 1) (fun _ => 0) (-1)) (g : Fresh v v1 r 88 (65536 * 1) (fun _ => 0) (-1)) : alike (some (withβ o (fun _ => 0))) (some (withβ r (fun _ => 0))) :=
  ⟨f.hT, g.hT, g.hn.trans f.hn.symm, rfl, g.hmost.trans f.hmost.symm⟩

def A3 (x y : Option MObj) : Nat → Option MObj := fun k => if k = 0 then x else if k = 1 then y else none
theorem New1.iv {u u1 : World} {o : Option MObj} (h : New1 u u1 o) : ∀ j, hasO o j → u.heap.size ≤ j ∧ j < u1.heap.size := fun j hj => ⟨h.new j hj, h.mem.lt hj⟩
theorem SL.start {W u0 u1 u2 u3 u4 : World} {a b : Option MObj} {oc od : MObj} (hb0 : Below W.heap.size W u0) (na : New1 u0 u1 a) (nb : New1 u1 u2 b) (nc : New1 u2 u3 (some oc)) (nd : New1 u3 u4 (some od)) (lab : alike a b) (lcd : alike (some oc) (some od)) :
    SL W u4.heap.size (u4.heap.size + 1) (A3 a (some oc)) (A3 b (some od)) ((u4.alloc (.cells #[.pointer (headP a), .pointer (some ⟨oc.p, 0, none⟩), .pointer none] 46)).alloc (.cells #[.pointer (headP b), .pointer (some ⟨od.p, 0, none⟩), .pointer none] 47)) := by
  have ia := na.iv
  have ib := nb.iv
  have ic := nc.iv
  have id := nd.iv
  have z0 := hb0.size
  have z1 := na.bel.size
  have z2 := nb.bel.size
  have z3 := nc.bel.size
  have z4 := nd.bel.size
  rw [← ptrO_eq a, ← ptrO_eq b]
  generalize hX : Obj.cells #[ptrO a, .pointer (some ⟨oc.p, 0, none⟩), .pointer none] 46 = X
  generalize hY : Obj.cells #[ptrO b, .pointer (some ⟨od.p, 0, none⟩), .pointer none] 47 = Y
  have hall : Below u4.heap.size u4 ((u4.alloc X).alloc Y) := ((Below.refl _ _).alloc (Nat.le_refl _) _).alloc (by simp) _
  have m4 : Below u3.heap.size u3 ((u4.alloc X).alloc Y) := Below.trans nd.bel (hall.mono z4)
  have m3 : Below u2.heap.size u2 ((u4.alloc X).alloc Y) := Below.trans nc.bel (m4.mono z3)
  have m2 : Below u1.heap.size u1 ((u4.alloc X).alloc Y) := Below.trans nb.bel (m3.mono z2)
  have m1 : Below u0.heap.size u0 ((u4.alloc X).alloc Y) := Below.trans na.bel (m2.mono z1)
  have p0 : Pr ((u4.alloc X).alloc Y) a b := ⟨na.mem.below m2, nb.mem.below m3, lab, fun j h1 h2 => by have := ia j h1; have := ib j h2; omega⟩
  have p1 : Pr ((u4.alloc X).alloc Y) (some oc) (some od) := ⟨nc.mem.below m4, nd.mem.below hall, lcd, fun j h1 h2 => by have := ic j h1; have := id j h2; omega⟩
  have p2 : Pr ((u4.alloc X).alloc Y) none none := ⟨MemO.none _, MemO.none _, trivial, fun j ⟨_, e, _⟩ => by cases e⟩
  have no : ∀ j, ¬ (hasO none j) := fun j ⟨_, e, _⟩ => by cases e
  have cs : ∀ k j, k < 3 → hasO (A3 a (some oc) k) j ∨ hasO (A3 b (some od) k) j → (k = 0 ∧ u0.heap.size ≤ j ∧ j < u2.heap.size) ∨ (k = 1 ∧ u2.heap.size ≤ j ∧ j < u4.heap.size) := fun k j hk hj => by
    rcases k with _ | _ | _ | k
    · refine .inl ⟨rfl, ?_⟩
      rcases hj with hj | hj
      · have := ia j hj; omega
      · have := ib j hj; omega
    · refine .inr ⟨rfl, ?_⟩
      rcases hj with hj | hj
      · have := ic j hj; omega
      · have := id j hj; omega
    · rcases hj with hj | hj
      · exact (no j hj).elim
      · exact (no j hj).elim
    · omega
  refine ⟨Below.trans hb0 (m1.mono z0), ?_, ?_, by omega, by omega, by omega, fun k hk => ?_, fun k j hk hj => ?_, fun i j hi hj hij k h1 h2 => ?_⟩
  · have := blk_keep (heap_alloc_new u4 X) ((Below.refl _ _).alloc (Nat.le_refl _) Y)
    rw [this, ← hX]
    rfl
  · have := heap_alloc_new (u4.alloc X) Y
    rw [show (u4.alloc X).heap.size = u4.heap.size + 1 by simp] at this
    rw [this, ← hY]
    rfl
  · rcases k with _ | _ | _ | k
    · exact p0
    · exact p1
    · exact p2
    · omega
  · rcases cs k j hk hj with h | h <;> exact ⟨by omega, by omega, by omega⟩
  · rcases cs i k hi h1 with h | h <;> rcases cs j k hj h2 with g | g <;> omega
theorem ix_op {ops : Array Oper} {rest : List Oper} {o : Oper} {a : Act} {w : World} {Q : Exit → Act → World → Prop} (hgd : o.guard = none) (x i : Operand) (ho : o.op = .indexAddr 43 x i) (b off n c : Nat) (hx : a.eval x = .slice (some ⟨b, off, none⟩) n c) (z : Int) (hi : a.eval i = .int .i64 z) (k : Nat) (hz : z = k) (hk : k < n)
    (h : wpList Try.prog ops Q rest (a.put o.dst (.pointer (some ⟨b, off + 8 * k, none⟩))) w) : wpList Try.prog ops Q (o :: rest) a w := by
  have hs : ∀ u, (sizeOf (Try.prog.elem 43)).run Try.prog u = .ok 8 u := fun u => by kernel_rfl
  have hu : Try.prog.underlying 43 = some (.slice (Try.prog.elem 43)) := by kernel_rfl
  have h2 : (0 ≤ z ∧ z < (n : Int)) := by omega
  refine wpList_plain hgd fun K hK => ?_
  unfold Oper.wp execOp
  simp only [ho, hx, hi, Sem.run_bind, run_indexAt_slice (h := hu)]
  rw [if_pos h2, hs]
  subst hz
  rw [Nat.mul_comm] at h
  have := hK _ _ h
  simpa [Go.Addr.add_mid, go_sem] using this
theorem load_op {ops : Array Oper} {rest : List Oper} {o : Oper} {a : Act} {w : World} {Q : Exit → Act → World → Prop} (hgd : o.guard = none) (x : Operand) (ho : o.op = .load 50 x) (b i : Nat) (hx : a.eval x = .pointer (some ⟨b, i, none⟩)) (y : OpR) (hy : w.rangeAt b i y.row.toList)
    (h : wpList Try.prog ops Q rest (a.put o.dst (.agg y.row)) w) : wpList Try.prog ops Q (o :: rest) a w := by
  obtain ⟨fs, hf⟩ := under_O
  exact wpList_load_mid hgd 50 x ho b i hx y.row.toList _ hy hf rfl (size_OL y) h

theorem k_of (x : Int) : ∃ K : Nat, K < 3 ∧ wrap64 ((IntKind.u64.wrap x).tmod 3) = (K : Int) := by
  have h0 : 0 ≤ IntKind.u64.wrap x := by
    have : IntKind.u64.wrap x = x % 18446744073709551616 := by simp [IntKind.wrap, IntKind.bits, IntKind.signed]
    rw [this]; omega
  rw [Int.tmod_eq_emod_of_nonneg h0]
  obtain h | h | h : IntKind.u64.wrap x % 3 = 0 ∨ IntKind.u64.wrap x % 3 = 1 ∨ IntKind.u64.wrap x % 3 = 2 := by omega
  · exact ⟨0, by decide, by rw [h]; (first | decide | simp [wrap64])⟩
  · exact ⟨1, by decide, by rw [h]; (first | decide | simp [wrap64])⟩
  · exact ⟨2, by decide, by rw [h]; (first | decide | simp [wrap64])⟩
theorem isAgg_pm (w : World) : (isAgg 23).run Try.prog w = .ok false w := by kernel_rfl
theorem isAgg_pr (w : World) : (isAgg 27).run Try.prog w = .ok false w := by kernel_rfl
theorem run_lop {o : Oper} {a : Act} {w : World} (x : Operand) (ho : o.op = .load 50 x) (b : Nat) (hx : a.eval x = .pointer (some ⟨b, 0, none⟩)) (y : OpR) (h : Bx w b y) :
    (execOp a.eval o).run Try.prog w = .ok (.value (.agg y.row)) w := by
  obtain ⟨fs, hf⟩ := under_O
  have hr : w.rangeAt b 0 y.row.toList := fun j v hj => by rw [Nat.zero_add, cell_of_row w b j _ _ _ h.row]; simpa using hj
  unfold execOp
  simp only [ho, hx, Instr.loadAt, Instr.sureAddr, Sem.run_bind, Sem.run_pure, Result.andThen_ok, run_loadVar_mid w b 0 50 _ _ hr hf rfl (size_OL y)]
/-- The round in which right is called. -/
structure RQ (wz : World) (H V O : Nat) (y : OpR) (A B : Nat → Option MObj) (k : Nat) (D : Nat) (u : World) : Prop where
  hA : u.cell? ⟨H, k, none⟩ = some (ptrO (A k))
  hB : u.cell? ⟨V, k, none⟩ = some (ptrO (B k))
  bx : Bx u O y
  s0 : D = 0 → Below wz.heap.size wz u
  s1 : D = 1 → ∃ a1 b1, Turned wz u (A k) (B k) a1 b1
theorem RQ.start {w0 wz : World} {H V O : Nat} {y : OpR} {A B : Nat → Option MObj} {k : Nat} (hs : SL w0 H V A B wz) (bx : Bx wz O y) (hk : k < 3) : RQ wz H V O y A B k 0 wz.drew :=
  ⟨(hs.below (Below.refl _ _).drew).cellA hk, (hs.below (Below.refl _ _).drew).cellB hk, bx.below (Below.refl _ _).drew, fun _ => (Below.refl _ _).drew, fun e => by cases e⟩
theorem RQ.step {w0 wz u u1 : World} {H V O : Nat} {y : OpR} {A B : Nat → Option MObj} {k : Nat} {a1 b1 : Option MObj} (h : RQ wz H V O y A B k 0 u) (hs : SL w0 H V A B wz) (hk : k < 3) (hO : ∀ k, k < 3 → ¬ hasO (A k) O ∧ ¬ hasO (B k) O) (t : Turned u u1 (A k) (B k) a1 b1) : RQ wz H V O y A B k 1 u1 := by
  have hn := fun j hj => hs.new k j hk hj
  have hH : u.heap[H]? = some (.cells (row3 A) 46 (0, 0)) := blk_keep hs.hv (h.s0 rfl)
  have hV : u.heap[V]? = some (.cells (row3 B) 47 (0, 0)) := blk_keep hs.wt (h.s0 rfl)
  refine ⟨?_, ?_, h.bx.keep t.keep (fun e => e.elim (hO k hk).1 (hO k hk).2), fun e => (by cases e), fun _ => ⟨a1, b1, t.pre (h.s0 rfl)⟩⟩
  · rw [cell_of_row u1 H k _ _ _ (t.keep.get hH (fun e => (hn H e).2.1 rfl))]; exact row3_get A hk
  · rw [cell_of_row u1 V k _ _ _ (t.keep.get hV (fun e => (hn V e).2.2 rfl))]; exact row3_get B hk

set_option maxRecDepth 100000 in
set_option maxHeartbeats 16000000 in
theorem scripts_walk (l m : Int) (ad : Option Addr) (n c : Nat) (f : Nat → OpR) (w : World) (hl : -9223372036854775808 ≤ l ∧ l ≤ 9223372036854775807) (hm : -9223372036854775808 ≤ m ∧ m ≤ 9223372036854775807) (hn : n ≤ 9223372036854775807)
    (ho : n = 0 ∨ ∃ b off, ad = some ⟨b, off, none⟩ ∧ OView w b off n f) :
    Calls Try.prog 6 #[.agg #[.int .i64 l, .int .i64 m, .slice ad n c]] w fun e w' => e = .returned (.bool true) ∧ Below w.heap.size w w' := by
  obtain ⟨W, hW⟩ : ∃ W, W = w.alloc (.cells #[.int .i64 l, .int .i64 m, .slice ad n c] 45) := ⟨_, rfl⟩
  have pb : PBox W w.heap.size l m (.slice ad n c) := ⟨by rw [hW]; exact heap_alloc_new _ _⟩
  have hbw : Below w.heap.size w W := hW ▸ (Below.refl _ _).alloc (Nat.le_refl _) _
  have hbs : w.heap.size < W.heap.size := block_lt pb.row
  obtain ⟨EE, R, R', hal, NA, NB⟩ := new_pair l m hl hm
  have NC := Lib.hid (fun u => new_ok 1 (-1) u (by decide) (.inl rfl))
  have ND := Lib.hid (fun u => rnew_ok 1 (-1) u (by decide) (.inl rfl))
  replace NA := Lib.hid NA
  replace NB := Lib.hid NB
  have HO := Lib.hid ho
  clear hl hm ho
  go_enter Try.func6, Try.ntmps6
  go_upto_region 1 with fail
  rw [← hW]
  have HW := Lib.hid hW
  clear hW
  go_wp2_with fail
  refine (awake10 _).mono ?_
  rintro e u0 ⟨rfl, hb0⟩
  have pb0 := pb.below hb0
  have c0 := pb0.c0
  have c1 := pb0.c1
  go_wp2_with fail
  refine (NA.out u0).mono ?_
  rintro e u1 ⟨a, rfl, na, ra⟩
  have pb1 := pb0.below na.bel
  replace c0 := pb1.c0
  replace c1 := pb1.c1
  go_wp2_with fail
  refine (NB.out u1).mono ?_
  rintro e u2 ⟨b, rfl, nb, rb⟩
  have lab := hal a b ra rb
  go_wp2_with fail
  refine (NC.out u2).mono ?_
  rintro e u3 ⟨oc, rfl, fc⟩
  go_wp2_with fail
  refine (ND.out u3).mono ?_
  rintro e u4 ⟨od, rfl, fd⟩
  obtain ⟨Bn, n1, n2⟩ := like_nil lab
  rw [ptrO_eq a, ptrO_eq b]
  clear NA NB NC ND c0 c1
  go_upto_region 9 with fail
  clear n1 n2
  go_wp2_with (first | (with_reducible refine store_new rfl 46 _ _ rfl _ #[.pointer (headP a), .pointer (some ⟨oc.p, 0, none⟩), .pointer none] rfl rfl (size_H _ _ _) rfl rfl ?_) | (with_reducible refine store_new rfl 47 _ _ rfl _ #[.pointer (headP b), .pointer (some ⟨od.p, 0, none⟩), .pointer none] rfl rfl (size_V _ _ _) rfl rfl ?_))
  have hs := SL.start hb0 na nb (New1.fresh fc) (New1.fresh fd) lab (like_one fc fd)
  rw [show (withβ oc (fun _ => 0)).p = oc.p from rfl, show (withβ od (fun _ => 0)).p = od.p from rfl] at hs
  generalize A3 a (some (withβ oc (fun _ => 0))) = A0 at hs
  generalize A3 b (some (withβ od (fun _ => 0))) = B0 at hs
  generalize ((u4.alloc (Obj.cells #[Value.pointer (headP a), Value.pointer (some ⟨oc.p, 0, none⟩), Value.pointer none] 46)).alloc (Obj.cells #[Value.pointer (headP b), Value.pointer (some ⟨od.p, 0, none⟩), Value.pointer none] 47)) = w6 at hs ⊢
  generalize hV : u4.heap.size + 1 = V at hs ⊢
  generalize hH : u4.heap.size = H at hs ⊢
  clear hH hV fd fc lab rb ra nb na pb0 pb1 hb0 hal
  go_loopw [13] (fun iv wr => ∃ (I : Nat) (A B : Nat → Option MObj), I ≤ n ∧ iv = .int .i64 (I : Int) ∧ SL W H V A B wr) (fun iv _ => n - (intOf iv).toNat)
  case atStart => exact ⟨0, A0, B0, Nat.zero_le _, rfl, hs⟩
  case round =>
    clear hs A0 B0
    obtain ⟨I, A, B, hI, rfl, hs⟩ := hrel
    have pr := pb.below hs.bel
    have c2 := pr.c2
    by_cases hlt : I < n
    · obtain ⟨bb, off, rfl, hov⟩ := HO.out.resolve_left (by omega)
      have hO := hov.below (hbw.trans (hs.bel.mono hbw.size))
      obtain ⟨y, hy⟩ : ∃ y, y = f I := ⟨_, rfl⟩
      have ry := hO.row I hlt
      have ok := hO.ok I hlt
      have dy := hov.dat I hlt
      have ny := hO.nil I hlt
      have oy := hov.off hlt
      rw [← hy] at ry ok dy ny oy
      clear hO hov hy HO
      go_upto_region 14 with fail
      go_upto_region 15 with (first | (with_reducible refine ix_op rfl _ _ rfl bb off n c rfl _ rfl I rfl hlt ?_) | (with_reducible refine load_op rfl _ rfl bb (off + 8 * I) rfl y ry ?_) | (with_reducible refine store_new rfl 50 _ _ rfl _ y.row rfl rfl (size_O y) (zero_O y) (all_O y) ?_))
      have hbx : W.heap.size ≤ wr.heap.size := hs.bel.size
      obtain ⟨wz, hz⟩ : ∃ wz, wz = wr.alloc (.cells y.row 50) := ⟨_, rfl⟩
      have bx : Bx wz wr.heap.size y := hz ▸ Bx.new wr y
      have bzz : Below wr.heap.size wr wz := hz ▸ (Below.refl _ _).alloc (Nat.le_refl _) _
      have pr2 := pr.below bzz
      have hsr := hs
      replace hs := hs.below bzz
      rw [← hz]
      have hbO : ∀ k, k < 3 → ¬ hasO (A k) wr.heap.size ∧ ¬ hasO (B k) wr.heap.size := fun k hk => (hsr.pr k hk).off (Nat.le_refl _)
      generalize wr.heap.size = O at bx hbx hbO ⊢
      clear hz bzz pr c2 ry hsr
      obtain ⟨K, hK3, hK⟩ := k_of y.on
      have c0 := bx.c0
      have c1 := bx.c1
      have hOO : O < wz.heap.size := block_lt bx.row
      have hlen : (y.kind == 6) = decide (y.kind = 6) := rfl
      clear hlen
      by_cases h6 : y.kind = 6
      · rw [h6] at c0
        go_upto_region 17 with fail
        rw [hK]
        clear hK c0 c1
        obtain ⟨S, S', hal, CA, CB⟩ := clone_pair (A ((K + 1) % 3)) (B ((K + 1) % 3)) (hs.pr _ (Nat.mod_lt _ (by decide))).like
        replace CA := Lib.hid CA
        replace CB := Lib.hid CB
        obtain rfl | rfl | rfl : K = 0 ∨ K = 1 ∨ K = 2 := by omega
        · have ca := hs.cellA (k := 1) (by decide)
          have cb := hs.cellB (k := 1) (by decide)
          have prl := hs.pr 1 (by decide)
          go_wp2_with fail
          refine (CA.out wz prl.ha).mono ?_
          rintro e u1 ⟨a1, rfl, na, ra⟩
          rw [ptrO_eq a1]
          have hs1 := hs.below na.bel
          have ck := hs1.cellA (k := 0) (by decide)
          have fk := frozen_of_row u1 H 0 _ _ hs1.hv
          go_upto_region 18 with fail
          obtain ⟨w2, hw2⟩ : ∃ w2, w2 = u1.setCell ⟨H, 0, none⟩ (.pointer (headP a1)) := ⟨_, rfl⟩
          rw [← hw2]
          have kp : Keep (fun j => j = H) wz w2 := hw2 ▸ Keep.setCell (S := fun j => j = H) (Keep.of_below na.bel) (.inl rfl) _
          have hv2 := kp.get hs.wt (fun e => hs.HV e.symm)
          have cb2 : w2.cell? ⟨V, 1, none⟩ = some (ptrO (B 1)) := by rw [cell_of_row w2 V 1 _ _ _ hv2]; exact row3_get B (by decide)
          have pb2 : MemO w2 (B 1) := prl.hb.keep kp (fun j e hh => by subst e; exact (hs.new 1 _ (by decide) (.inr hh)).2.1 rfl)
          clear ca cb ck fk
          have HW2 := Lib.hid hw2
          clear hw2
          go_wp2_with fail
          refine (CB.out w2 pb2).mono ?_
          rintro e u3 ⟨b1, rfl, nb, rb⟩
          rw [ptrO_eq b1]
          have hv3 := blk_keep hv2 nb.bel
          have ck : u3.cell? ⟨V, 0, none⟩ = some (ptrO (B 0)) := by rw [cell_of_row u3 V 0 _ _ _ hv3]; exact row3_get B (by decide)
          have fk := frozen_of_row u3 V 0 _ _ hv3
          clear cb2 pb2 hv2
          go_upto_region 19 with fail
          have lab := hal a1 b1 ra rb
          have hsf := hs.fill 0 (by decide) na (by rw [ptrO_eq a1, ← HW2.out]; exact nb) lab
          rw [ptrO_eq b1] at hsf
          obtain ⟨w4, hw4⟩ : ∃ w4, w4 = u3.setCell ⟨V, 0, none⟩ (.pointer (headP b1)) := ⟨_, rfl⟩
          rw [← hw4] at hsf ⊢
          clear hw4 ck fk hv3 HW2 kp hs1 na nb ra rb
          obtain ⟨Bn, n1, n2⟩ := like_nil lab
          have ca := hsf.cellA (k := 0) (by decide)
          have cb := hsf.cellB (k := 0) (by decide)
          rw [updM_same, ptrO_eq] at ca cb
          go_region
          go_wp2_with fail
          refine ⟨?_, ?_⟩
          · exact ⟨I + 1, _, _, by omega, by go_num, hsf.below (Below.refl _ _).drew⟩
          · simp [intOf] <;> omega
        · have ca := hs.cellA (k := 2) (by decide)
          have cb := hs.cellB (k := 2) (by decide)
          have prl := hs.pr 2 (by decide)
          go_wp2_with fail
          refine (CA.out wz prl.ha).mono ?_
          rintro e u1 ⟨a1, rfl, na, ra⟩
          rw [ptrO_eq a1]
          have hs1 := hs.below na.bel
          have ck := hs1.cellA (k := 1) (by decide)
          have fk := frozen_of_row u1 H 1 _ _ hs1.hv
          go_upto_region 18 with fail
          obtain ⟨w2, hw2⟩ : ∃ w2, w2 = u1.setCell ⟨H, 1, none⟩ (.pointer (headP a1)) := ⟨_, rfl⟩
          rw [← hw2]
          have kp : Keep (fun j => j = H) wz w2 := hw2 ▸ Keep.setCell (S := fun j => j = H) (Keep.of_below na.bel) (.inl rfl) _
          have hv2 := kp.get hs.wt (fun e => hs.HV e.symm)
          have cb2 : w2.cell? ⟨V, 2, none⟩ = some (ptrO (B 2)) := by rw [cell_of_row w2 V 2 _ _ _ hv2]; exact row3_get B (by decide)
          have pb2 : MemO w2 (B 2) := prl.hb.keep kp (fun j e hh => by subst e; exact (hs.new 2 _ (by decide) (.inr hh)).2.1 rfl)
          clear ca cb ck fk
          have HW2 := Lib.hid hw2
          clear hw2
          go_wp2_with fail
          refine (CB.out w2 pb2).mono ?_
          rintro e u3 ⟨b1, rfl, nb, rb⟩
          rw [ptrO_eq b1]
          have hv3 := blk_keep hv2 nb.bel
          have ck : u3.cell? ⟨V, 1, none⟩ = some (ptrO (B 1)) := by rw [cell_of_row u3 V 1 _ _ _ hv3]; exact row3_get B (by decide)
          have fk := frozen_of_row u3 V 1 _ _ hv3
          clear cb2 pb2 hv2
          go_upto_region 19 with fail
          have lab := hal a1 b1 ra rb
          have hsf := hs.fill 1 (by decide) na (by rw [ptrO_eq a1, ← HW2.out]; exact nb) lab
          rw [ptrO_eq b1] at hsf
          obtain ⟨w4, hw4⟩ : ∃ w4, w4 = u3.setCell ⟨V, 1, none⟩ (.pointer (headP b1)) := ⟨_, rfl⟩
          rw [← hw4] at hsf ⊢
          clear hw4 ck fk hv3 HW2 kp hs1 na nb ra rb
          obtain ⟨Bn, n1, n2⟩ := like_nil lab
          have ca := hsf.cellA (k := 1) (by decide)
          have cb := hsf.cellB (k := 1) (by decide)
          rw [updM_same, ptrO_eq] at ca cb
          go_region
          go_wp2_with fail
          refine ⟨?_, ?_⟩
          · exact ⟨I + 1, _, _, by omega, by go_num, hsf.below (Below.refl _ _).drew⟩
          · simp [intOf] <;> omega
        · have ca := hs.cellA (k := 0) (by decide)
          have cb := hs.cellB (k := 0) (by decide)
          have prl := hs.pr 0 (by decide)
          go_wp2_with fail
          refine (CA.out wz prl.ha).mono ?_
          rintro e u1 ⟨a1, rfl, na, ra⟩
          rw [ptrO_eq a1]
          have hs1 := hs.below na.bel
          have ck := hs1.cellA (k := 2) (by decide)
          have fk := frozen_of_row u1 H 2 _ _ hs1.hv
          go_upto_region 18 with fail
          obtain ⟨w2, hw2⟩ : ∃ w2, w2 = u1.setCell ⟨H, 2, none⟩ (.pointer (headP a1)) := ⟨_, rfl⟩
          rw [← hw2]
          have kp : Keep (fun j => j = H) wz w2 := hw2 ▸ Keep.setCell (S := fun j => j = H) (Keep.of_below na.bel) (.inl rfl) _
          have hv2 := kp.get hs.wt (fun e => hs.HV e.symm)
          have cb2 : w2.cell? ⟨V, 0, none⟩ = some (ptrO (B 0)) := by rw [cell_of_row w2 V 0 _ _ _ hv2]; exact row3_get B (by decide)
          have pb2 : MemO w2 (B 0) := prl.hb.keep kp (fun j e hh => by subst e; exact (hs.new 0 _ (by decide) (.inr hh)).2.1 rfl)
          clear ca cb ck fk
          have HW2 := Lib.hid hw2
          clear hw2
          go_wp2_with fail
          refine (CB.out w2 pb2).mono ?_
          rintro e u3 ⟨b1, rfl, nb, rb⟩
          rw [ptrO_eq b1]
          have hv3 := blk_keep hv2 nb.bel
          have ck : u3.cell? ⟨V, 2, none⟩ = some (ptrO (B 2)) := by rw [cell_of_row u3 V 2 _ _ _ hv3]; exact row3_get B (by decide)
          have fk := frozen_of_row u3 V 2 _ _ hv3
          clear cb2 pb2 hv2
          go_upto_region 19 with fail
          have lab := hal a1 b1 ra rb
          have hsf := hs.fill 2 (by decide) na (by rw [ptrO_eq a1, ← HW2.out]; exact nb) lab
          rw [ptrO_eq b1] at hsf
          obtain ⟨w4, hw4⟩ : ∃ w4, w4 = u3.setCell ⟨V, 2, none⟩ (.pointer (headP b1)) := ⟨_, rfl⟩
          rw [← hw4] at hsf ⊢
          clear hw4 ck fk hv3 HW2 kp hs1 na nb ra rb
          obtain ⟨Bn, n1, n2⟩ := like_nil lab
          have ca := hsf.cellA (k := 2) (by decide)
          have cb := hsf.cellB (k := 2) (by decide)
          rw [updM_same, ptrO_eq] at ca cb
          go_region
          go_wp2_with fail
          refine ⟨?_, ?_⟩
          · exact ⟨I + 1, _, _, by omega, by go_num, hsf.below (Below.refl _ _).drew⟩
          · simp [intOf] <;> omega
      · have h6b : (y.kind == 6) = false := by simpa using h6
        obtain ⟨yk, hyk⟩ : ∃ yk, yk = y.kind := ⟨_, rfl⟩
        rw [← hyk] at c0 h6 h6b
        clear hyk
        have dyz := dy.below (hbw.trans (hs.bel.mono hbw.size))
        have hoff : ∀ k, k < 3 → 0 < y.dm → ∀ g, y.ad = some g → ¬ hasO (A k) g.block ∧ ¬ hasO (B k) g.block := fun k hk h0 g e => by
          have h1 := oy h0 e
          refine ⟨fun hh => ?_, fun hh => ?_⟩
          · have := (hs.new k _ hk (.inl hh)).1; have := hbw.size; omega
          · have := (hs.new k _ hk (.inr hh)).1; have := hbw.size; omega
        go_upto_region 21 with fail
        rw [hK]
        clear hK c0 c1 h6 h6b
        have hbo : ∀ k, k < 3 → ¬ hasO (A k) O ∧ ¬ hasO (B k) O := hbO
        obtain rfl | rfl | rfl : K = 0 ∨ K = 1 ∨ K = 2 := by omega
        · have HR := Lib.hid (fun u (hh : Below wz.heap.size wz u) => right_any (A 0) (B 0) y u ((hs.pr 0 (by decide)).below hh) ok (dyz.below hh) (fun h0 g e => hoff 0 (by decide) h0 g e) ny)
          go_wp2_with fail
          refine region_plan (RQ wz H V O y A B 0) (fun i D D' => i = 7 ∧ D = 0 ∧ D' = 1) (fun _ _ => .bool true) 0 8 [7] [] [([0, 1, 2, 3, 4, 5, 6], 7)] (by kernel_rfl) (by kernel_rfl) (RQ.start hs bx (by decide)) ?_
          simp only [planE, opsAt, List.getElem?_cons_zero, List.getElem?_cons_succ, List.drop_succ_cons, List.drop_zero]
          repeat (first | (with_reducible refine wpDA_here rfl (fun D u hS => run_ldc _ isAgg_pm _ rfl H 0 rfl (ptrO (A 0)) hS.hA) ?_; simp only [Act.put, List.setIfInBounds_toArray, List.set_cons_zero, List.set_cons_succ]) | (with_reducible refine wpDA_here rfl (fun D u hS => run_ldc _ isAgg_pr _ rfl V 0 rfl (ptrO (B 0)) hS.hB) ?_; simp only [Act.put, List.setIfInBounds_toArray, List.set_cons_zero, List.set_cons_succ]) | (with_reducible refine wpDA_here rfl (fun D u hS => run_lop _ rfl O rfl y hS.bx) ?_; simp only [Act.put, List.setIfInBounds_toArray, List.set_cons_zero, List.set_cons_succ]) | (refine wpDA_pure (v := ?_) rfl (fun u => ?_) ?_; rotate_left; (focus (go_simp; (try with_reducible rfl); done)); simp only [Act.put, List.setIfInBounds_toArray, List.set_cons_zero, List.set_cons_succ]))
          refine wpDA_nil ⟨_, rfl, ⟨rfl, fun u hS => ⟨u, .inr ⟨23, ?_, ?_, ?_⟩⟩⟩, ?_⟩
          rotate_left 1
          focus (go_simp; (try with_reducible rfl); done)
          · refine (HR.out u (hS.s0 rfl)).mono ?_
            rintro e u2 ⟨rfl, a1, b1, ht⟩
            exact ⟨1, ⟨rfl, rfl, rfl⟩, hS.step hs (by decide) hbo ht, rfl⟩
          intro D' hst
          obtain rfl : D' = 1 := hst.2.2
          clear hst
          simp only [Act.put, List.setIfInBounds_toArray, List.set_cons_zero, List.set_cons_succ]
          (try simp only [planE, opsAt, List.getElem?_cons_zero, List.getElem?_cons_succ, List.drop_succ_cons, List.drop_zero])
          repeat (refine wpDA_pure (v := ?_) rfl (fun u => ?_) ?_; rotate_left; (focus (go_simp; (try with_reducible rfl); done)); simp only [Act.put, List.setIfInBounds_toArray, List.set_cons_zero, List.set_cons_succ])
          refine wpDA_nil (fun u hS => ?_)
          obtain ⟨a1, b1, ht⟩ := hS.s1 rfl
          have hsf := hs.turn 0 (by decide) ht
          clear hS ht HR
          go_wp2_with fail
          refine ⟨?_, ?_⟩
          · exact ⟨I + 1, _, _, by omega, by go_num, hsf⟩
          · simp [intOf] <;> omega
        · have HR := Lib.hid (fun u (hh : Below wz.heap.size wz u) => right_any (A 1) (B 1) y u ((hs.pr 1 (by decide)).below hh) ok (dyz.below hh) (fun h0 g e => hoff 1 (by decide) h0 g e) ny)
          go_wp2_with fail
          refine region_plan (RQ wz H V O y A B 1) (fun i D D' => i = 7 ∧ D = 0 ∧ D' = 1) (fun _ _ => .bool true) 0 8 [7] [] [([0, 1, 2, 3, 4, 5, 6], 7)] (by kernel_rfl) (by kernel_rfl) (RQ.start hs bx (by decide)) ?_
          simp only [planE, opsAt, List.getElem?_cons_zero, List.getElem?_cons_succ, List.drop_succ_cons, List.drop_zero]
          repeat (first | (with_reducible refine wpDA_here rfl (fun D u hS => run_ldc _ isAgg_pm _ rfl H 1 rfl (ptrO (A 1)) hS.hA) ?_; simp only [Act.put, List.setIfInBounds_toArray, List.set_cons_zero, List.set_cons_succ]) | (with_reducible refine wpDA_here rfl (fun D u hS => run_ldc _ isAgg_pr _ rfl V 1 rfl (ptrO (B 1)) hS.hB) ?_; simp only [Act.put, List.setIfInBounds_toArray, List.set_cons_zero, List.set_cons_succ]) | (with_reducible refine wpDA_here rfl (fun D u hS => run_lop _ rfl O rfl y hS.bx) ?_; simp only [Act.put, List.setIfInBounds_toArray, List.set_cons_zero, List.set_cons_succ]) | (refine wpDA_pure (v := ?_) rfl (fun u => ?_) ?_; rotate_left; (focus (go_simp; (try with_reducible rfl); done)); simp only [Act.put, List.setIfInBounds_toArray, List.set_cons_zero, List.set_cons_succ]))
          refine wpDA_nil ⟨_, rfl, ⟨rfl, fun u hS => ⟨u, .inr ⟨23, ?_, ?_, ?_⟩⟩⟩, ?_⟩
          rotate_left 1
          focus (go_simp; (try with_reducible rfl); done)
          · refine (HR.out u (hS.s0 rfl)).mono ?_
            rintro e u2 ⟨rfl, a1, b1, ht⟩
            exact ⟨1, ⟨rfl, rfl, rfl⟩, hS.step hs (by decide) hbo ht, rfl⟩
          intro D' hst
          obtain rfl : D' = 1 := hst.2.2
          clear hst
          simp only [Act.put, List.setIfInBounds_toArray, List.set_cons_zero, List.set_cons_succ]
          (try simp only [planE, opsAt, List.getElem?_cons_zero, List.getElem?_cons_succ, List.drop_succ_cons, List.drop_zero])
          repeat (refine wpDA_pure (v := ?_) rfl (fun u => ?_) ?_; rotate_left; (focus (go_simp; (try with_reducible rfl); done)); simp only [Act.put, List.setIfInBounds_toArray, List.set_cons_zero, List.set_cons_succ])
          refine wpDA_nil (fun u hS => ?_)
          obtain ⟨a1, b1, ht⟩ := hS.s1 rfl
          have hsf := hs.turn 1 (by decide) ht
          clear hS ht HR
          go_wp2_with fail
          refine ⟨?_, ?_⟩
          · exact ⟨I + 1, _, _, by omega, by go_num, hsf⟩
          · simp [intOf] <;> omega
        · have HR := Lib.hid (fun u (hh : Below wz.heap.size wz u) => right_any (A 2) (B 2) y u ((hs.pr 2 (by decide)).below hh) ok (dyz.below hh) (fun h0 g e => hoff 2 (by decide) h0 g e) ny)
          go_wp2_with fail
          refine region_plan (RQ wz H V O y A B 2) (fun i D D' => i = 7 ∧ D = 0 ∧ D' = 1) (fun _ _ => .bool true) 0 8 [7] [] [([0, 1, 2, 3, 4, 5, 6], 7)] (by kernel_rfl) (by kernel_rfl) (RQ.start hs bx (by decide)) ?_
          simp only [planE, opsAt, List.getElem?_cons_zero, List.getElem?_cons_succ, List.drop_succ_cons, List.drop_zero]
          repeat (first | (with_reducible refine wpDA_here rfl (fun D u hS => run_ldc _ isAgg_pm _ rfl H 2 rfl (ptrO (A 2)) hS.hA) ?_; simp only [Act.put, List.setIfInBounds_toArray, List.set_cons_zero, List.set_cons_succ]) | (with_reducible refine wpDA_here rfl (fun D u hS => run_ldc _ isAgg_pr _ rfl V 2 rfl (ptrO (B 2)) hS.hB) ?_; simp only [Act.put, List.setIfInBounds_toArray, List.set_cons_zero, List.set_cons_succ]) | (with_reducible refine wpDA_here rfl (fun D u hS => run_lop _ rfl O rfl y hS.bx) ?_; simp only [Act.put, List.setIfInBounds_toArray, List.set_cons_zero, List.set_cons_succ]) | (refine wpDA_pure (v := ?_) rfl (fun u => ?_) ?_; rotate_left; (focus (go_simp; (try with_reducible rfl); done)); simp only [Act.put, List.setIfInBounds_toArray, List.set_cons_zero, List.set_cons_succ]))
          refine wpDA_nil ⟨_, rfl, ⟨rfl, fun u hS => ⟨u, .inr ⟨23, ?_, ?_, ?_⟩⟩⟩, ?_⟩
          rotate_left 1
          focus (go_simp; (try with_reducible rfl); done)
          · refine (HR.out u (hS.s0 rfl)).mono ?_
            rintro e u2 ⟨rfl, a1, b1, ht⟩
            exact ⟨1, ⟨rfl, rfl, rfl⟩, hS.step hs (by decide) hbo ht, rfl⟩
          intro D' hst
          obtain rfl : D' = 1 := hst.2.2
          clear hst
          simp only [Act.put, List.setIfInBounds_toArray, List.set_cons_zero, List.set_cons_succ]
          (try simp only [planE, opsAt, List.getElem?_cons_zero, List.getElem?_cons_succ, List.drop_succ_cons, List.drop_zero])
          repeat (refine wpDA_pure (v := ?_) rfl (fun u => ?_) ?_; rotate_left; (focus (go_simp; (try with_reducible rfl); done)); simp only [Act.put, List.setIfInBounds_toArray, List.set_cons_zero, List.set_cons_succ])
          refine wpDA_nil (fun u hS => ?_)
          obtain ⟨a1, b1, ht⟩ := hS.s1 rfl
          have hsf := hs.turn 2 (by decide) ht
          clear hS ht HR
          go_wp2_with fail
          refine ⟨?_, ?_⟩
          · exact ⟨I + 1, _, _, by omega, by go_num, hsf⟩
          · simp [intOf] <;> omega
    · have hIn : I = n := by omega
      subst hIn
      go_upto_region 24 with fail
      go_loopw [16] (fun iv wr => ∃ J : Nat, J ≤ 3 ∧ iv = .int .i64 (J : Int) ∧ SL W H V A B wr) (fun iv _ => 3 - (intOf iv).toNat)
      case atStart => exact ⟨0, by decide, rfl, hs⟩
      case round =>
        clear hs pr c2
        obtain ⟨J, hJ, rfl, hs⟩ := hrel
        by_cases hJ3 : J < 3
        · obtain rfl | rfl | rfl : J = 0 ∨ J = 1 ∨ J = 2 := by omega
          · have HA := Lib.hid (fun u (hh : Below wr.heap.size wr u) => all_pair (A 0) (B 0) u ((hs.pr 0 (by decide)).below hh))
            go_wp2_with fail
            refine region_do (fun u => Below wr.heap.size wr u) 7 (by kernel_rfl) (by kernel_rfl) (Below.refl _ _).drew ?_
            simp only [List.take_succ_cons, List.take_zero, List.drop_succ_cons, List.drop_zero]
            repeat (first | (with_reducible refine wpD_here rfl (fun u hS => run_ldc _ isAgg_pm _ rfl H 0 rfl (ptrO (A 0)) ((hs.below hS).cellA (by decide))) ?_; simp only [Act.put, List.setIfInBounds_toArray, List.set_cons_zero, List.set_cons_succ]) | (with_reducible refine wpD_here rfl (fun u hS => run_ldc _ isAgg_pr _ rfl V 0 rfl (ptrO (B 0)) ((hs.below hS).cellB (by decide))) ?_; simp only [Act.put, List.setIfInBounds_toArray, List.set_cons_zero, List.set_cons_succ]) | (refine wpD_pure (v := ?_) rfl (fun u => ?_) ?_; rotate_left; (focus (go_simp; (try with_reducible rfl); done)); simp only [Act.put, List.setIfInBounds_toArray, List.set_cons_zero, List.set_cons_succ]))
            refine wpD_call (v := .bool true) rfl 24 ?_ (fun u => ?_) (fun u hS => ?_) ?_
            rotate_left 1
            focus (go_simp; (try with_reducible rfl); done)
            · refine (HA.out u hS).mono ?_
              rintro e u2 ⟨rfl, hb⟩
              exact ⟨rfl, Below.trans hS (hb.mono hS.size)⟩
            simp only [Act.put, List.setIfInBounds_toArray, List.set_cons_zero, List.set_cons_succ]
            refine wpD_nil (fun u hS => ?_)
            replace hs := hs.below hS
            clear hS HA
            go_wp2_with fail
            refine ⟨?_, ?_⟩
            · exact ⟨1, by decide, rfl, hs⟩
            · simp [intOf]
          · have HA := Lib.hid (fun u (hh : Below wr.heap.size wr u) => all_pair (A 1) (B 1) u ((hs.pr 1 (by decide)).below hh))
            go_wp2_with fail
            refine region_do (fun u => Below wr.heap.size wr u) 7 (by kernel_rfl) (by kernel_rfl) (Below.refl _ _).drew ?_
            simp only [List.take_succ_cons, List.take_zero, List.drop_succ_cons, List.drop_zero]
            repeat (first | (with_reducible refine wpD_here rfl (fun u hS => run_ldc _ isAgg_pm _ rfl H 1 rfl (ptrO (A 1)) ((hs.below hS).cellA (by decide))) ?_; simp only [Act.put, List.setIfInBounds_toArray, List.set_cons_zero, List.set_cons_succ]) | (with_reducible refine wpD_here rfl (fun u hS => run_ldc _ isAgg_pr _ rfl V 1 rfl (ptrO (B 1)) ((hs.below hS).cellB (by decide))) ?_; simp only [Act.put, List.setIfInBounds_toArray, List.set_cons_zero, List.set_cons_succ]) | (refine wpD_pure (v := ?_) rfl (fun u => ?_) ?_; rotate_left; (focus (go_simp; (try with_reducible rfl); done)); simp only [Act.put, List.setIfInBounds_toArray, List.set_cons_zero, List.set_cons_succ]))
            refine wpD_call (v := .bool true) rfl 24 ?_ (fun u => ?_) (fun u hS => ?_) ?_
            rotate_left 1
            focus (go_simp; (try with_reducible rfl); done)
            · refine (HA.out u hS).mono ?_
              rintro e u2 ⟨rfl, hb⟩
              exact ⟨rfl, Below.trans hS (hb.mono hS.size)⟩
            simp only [Act.put, List.setIfInBounds_toArray, List.set_cons_zero, List.set_cons_succ]
            refine wpD_nil (fun u hS => ?_)
            replace hs := hs.below hS
            clear hS HA
            go_wp2_with fail
            refine ⟨?_, ?_⟩
            · exact ⟨2, by decide, rfl, hs⟩
            · simp [intOf]
          · have HA := Lib.hid (fun u (hh : Below wr.heap.size wr u) => all_pair (A 2) (B 2) u ((hs.pr 2 (by decide)).below hh))
            go_wp2_with fail
            refine region_do (fun u => Below wr.heap.size wr u) 7 (by kernel_rfl) (by kernel_rfl) (Below.refl _ _).drew ?_
            simp only [List.take_succ_cons, List.take_zero, List.drop_succ_cons, List.drop_zero]
            repeat (first | (with_reducible refine wpD_here rfl (fun u hS => run_ldc _ isAgg_pm _ rfl H 2 rfl (ptrO (A 2)) ((hs.below hS).cellA (by decide))) ?_; simp only [Act.put, List.setIfInBounds_toArray, List.set_cons_zero, List.set_cons_succ]) | (with_reducible refine wpD_here rfl (fun u hS => run_ldc _ isAgg_pr _ rfl V 2 rfl (ptrO (B 2)) ((hs.below hS).cellB (by decide))) ?_; simp only [Act.put, List.setIfInBounds_toArray, List.set_cons_zero, List.set_cons_succ]) | (refine wpD_pure (v := ?_) rfl (fun u => ?_) ?_; rotate_left; (focus (go_simp; (try with_reducible rfl); done)); simp only [Act.put, List.setIfInBounds_toArray, List.set_cons_zero, List.set_cons_succ]))
            refine wpD_call (v := .bool true) rfl 24 ?_ (fun u => ?_) (fun u hS => ?_) ?_
            rotate_left 1
            focus (go_simp; (try with_reducible rfl); done)
            · refine (HA.out u hS).mono ?_
              rintro e u2 ⟨rfl, hb⟩
              exact ⟨rfl, Below.trans hS (hb.mono hS.size)⟩
            simp only [Act.put, List.setIfInBounds_toArray, List.set_cons_zero, List.set_cons_succ]
            refine wpD_nil (fun u hS => ?_)
            replace hs := hs.below hS
            clear hS HA
            go_wp2_with fail
            refine ⟨?_, ?_⟩
            · exact ⟨3, by decide, rfl, hs⟩
            · simp [intOf]
        · obtain rfl : J = 3 := by omega
          go_wp2_with fail
          go_ret
          exact ⟨rfl, hbw.trans (hs.bel.mono hbw.size)⟩

end Go.Proofs.Ytlcndenbnokcjaa
