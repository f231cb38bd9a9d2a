/-
  The walk of plaitlaw11.VmemParts.
-/
import Derived.Deep.MidRow
import Derived.Test.YtlcndenbnokcjaaVmSp
import Derived.Test.YtlcndenbnokcjaaVmBk
import Derived.Test.YtlcndenbnokcjaaNew
import Derived.Test.YtlcndenbnokcjaaOpen
set_option linter.unusedSimpArgs false
set_option linter.unusedVariables false
namespace Go.Proofs.Ytlcndenbnokcjaa
open Go.RowKit Pl

theorem under60 : Try.prog.underlying 60 = some (.array 16 5) := by kernel_rfl
theorem size60 (v : Vec) : (Try.prog.info? 60).map (·.size) = some (cells v).size := by rw [size_cells]; kernel_rfl
theorem load_midv {ops : Array Oper} {rest : List Oper} {o : Oper} {a : Act} {w : World} {Q : Exit → Act → World → Prop} (hgd : o.guard = none) (x : Operand) (ho : o.op = .load 61 x)
    (b off : Nat) (hx : a.eval x = .pointer (some ⟨b, off, none⟩)) (v : Vec) (hc : w.rangeAt b off (cells v).toList)
    (h : wpList Try.prog ops Q rest (a.put o.dst (.agg (cells v))) w) : wpList Try.prog ops Q (o :: rest) a w :=
  wpList_load_mid hgd _ x ho b off hx (cells v).toList _ hc vunder rfl (vsize v) (by simpa using h)
theorem load_arr_g {ops : Array Oper} {rest : List Oper} {o : Oper} {a : Act} {w : World} {Q : Exit → Act → World → Prop} (hw : Region.wanted o (yielded ops a.tmps) = true) (x : Operand) (ho : o.op = .load 60 x)
    (g : Nat) (hx : a.eval x = .pointer (some ⟨g, 0, none⟩)) (v : Vec) (hg : w.heap[g]? = some (.cells (cells v) 60 (0, 0)))
    (h : wpList Try.prog ops Q rest (a.put o.dst (.agg (cells v))) w) : wpList Try.prog ops Q (o :: rest) a w :=
  wpList_step fun K hK => by
    rw [if_pos hw]
    exact wp_load_row _ x ho g hx _ _ _ _ hg under60 rfl (size60 v) (hK _ _ h)
theorem do_loadIA {σ : Type} {ops : Array Oper} {S : σ → World → Prop} {L : Act → Prop} {o : Oper} {rest : List Oper} {a : Act} (hg : o.guard = none) (x : Operand) (ho : o.op = .load 3 x) (g j : Nat)
    (hx : a.eval x = .pointer (some ⟨g, j, none⟩)) (z : Value) (h : ∀ D w, S D w → w.cell? ⟨g, j, none⟩ = some z)
    (hr : wpDA Try.prog ops S L rest (a.put o.dst z)) : wpDA Try.prog ops S L (o :: rest) a :=
  wpDA_here hg (fun D w hS => by
    have ha : (isAgg 3).run Try.prog w = .ok false w := by kernel_rfl
    unfold execOp
    simp only [ho, hx, Instr.loadAt, Instr.sureAddr, Sem.run_bind, Sem.run_pure, Result.andThen_ok]
    simp [loadVar, Sem.run_bind, ha, h D w hS, go_sem]) hr
/-- World u: the memory o, vectors l, the data's block and the access's. -/
structure PV (w0 : World) (o : MObj) (l : List (Nat × Vec)) (D : Nat) (x y : Obj) (u : World) : Prop where
  mv : MV w0 o l u
  hd : u.heap[D]? = some x
  hc : u.heap[D + 1]? = some y
  off : ¬ o.has D
  off1 : ¬ o.has (D + 1)
theorem PV.below {w0 u u1 : World} {o : MObj} {l : List (Nat × Vec)} {D : Nat} {x y : Obj} (h : PV w0 o l D x y u) (hb : Below u.heap.size u u1) : PV w0 o l D x y u1 := ⟨h.mv.below hb, blk_keep h.hd hb, blk_keep h.hc hb, h.off, h.off1⟩
theorem PV.push {w0 u u1 : World} {o : MObj} {l : List (Nat × Vec)} {D : Nat} {x y : Obj} {v : Vec} {q : Obj} (h : PV w0 o l D x y u) (hs : Sets (u.alloc q) u.heap.size v u1) : PV w0 o ((u.heap.size, v) :: l) D x y u1 :=
  have hb : Below u.heap.size u u1 := ((Below.refl _ _).alloc (Nat.le_refl _) q).trans hs.below
  ⟨h.mv.push hs, blk_keep h.hd hb, blk_keep h.hc hb, h.off, h.off1⟩
theorem PV.stored {w0 u u1 : World} {o : MObj} {l : List (Nat × Vec)} {D : Nat} {x y : Obj} {γ : Nat → Nat} (h : PV w0 o l D x y u) (hm : MemAt u1 (withβ o γ)) (hk : Keep (fun k => o.q = some k) u u1) : PV w0 (withβ o γ) l D x y u1 :=
  ⟨h.mv.stored hm hk, hk.get h.hd (fun e => h.off (.inr e)), hk.get h.hc (fun e => h.off1 (.inr e)), h.off, h.off1⟩
theorem acc_range {u : World} {D L : Nat} {c0 c1 c2 c3 c4 c5 : Value} {old : Vec} (h : u.heap[D]? = some (.cells (#[c0, c1, c2, c3, c4, c5, .int .u32 (L : Int)] ++ cells old) 77 (0, 0))) : u.rangeAt D 7 (cells old).toList := fun j v hv => by
  rw [cell_of_row u D (7 + j) _ _ _ h]
  simp at hv ⊢
  rw [Array.getElem?_append_right (by simp)]
  simpa using hv
theorem acc_addr {u : World} {D L : Nat} {c0 c1 c2 c3 c4 c5 : Value} {old : Vec} (h : u.heap[D]? = some (.cells (#[c0, c1, c2, c3, c4, c5, .int .u32 (L : Int)] ++ cells old) 77 (0, 0))) : u.cell? ⟨D, 6, none⟩ = some (.int .u32 (L : Int)) := by
  rw [cell_of_row u D 6 _ _ _ h]
  rw [Array.getElem?_append_left (by simp)]
  rfl

def check0z (ops : Array Oper) (n p : Nat) (order : List Nat) : Bool :=
  checkA ops n [p] order && decide (p < n) && (Region.ready .any ops (marks (Array.replicate ops.size false) order) == [p]) &&
  Region.seqB .any ops (ops.size - n) n ((marks (Array.replicate ops.size false) order).setIfInBounds p true)
theorem region_new0z {id : Nat} {Q : Exit → Act → World → Prop} {a : Act} {w : World} {l : List Oper} (w0 : World) (hs : List (Nat × Vec)) (n p : Nat) (order : List Nat) (hB : check0z l.toArray n p order = true)
    {op : Oper} (hop : l[p]? = some op) (hpn : op.guard = none) (hpo : op.op = .alloc 61) (hS : N1 w0 hs 0 none w.drew)
    (h : wpDA Try.prog l.toArray (N1 w0 hs 0) (fun a' => ∀ x w', N1 w0 hs 0 (some (x, false)) w' → wpList Try.prog l.toArray Q (l.drop n) (a'.put op.dst (ptr x)) w') (opsAt l order) a) : (Code.region id l.toArray true).wp Try.prog Q a w := by
  simp only [check0z, Bool.and_eq_true, decide_eq_true_eq, beq_iff_eq] at hB
  obtain ⟨⟨⟨hA, hp⟩, hr1⟩, hsq⟩ := hB
  refine region_news (N1 w0 hs 0) (step1 p (p + 1)) (val1 p) none n [p] order (by kernel_rfl) hA hS ?_
  have mono : ∀ (os : List Oper) (a : Act) (K K' : Act → Prop), (∀ a, K a → K' a) → wpDA Try.prog l.toArray (N1 w0 hs 0) K os a → wpDA Try.prog l.toArray (N1 w0 hs 0) K' os a := by
    intro os
    induction os with
    | nil => intro a K K' hk h; exact hk _ h
    | cons o os ih => intro a K K' hk ⟨v, h1, h2⟩; exact ⟨v, h1, ih _ _ _ hk h2⟩
  refine mono _ _ _ _ (fun a' h' => ?_) h
  refine special_one p hr1 hp (by simp) (by simpa using hop) ⟨by unfold Region.wanted; rw [hpn], fun w hw => ⟨some (w.heap.size, false), _, .inl ⟨rfl, rfl, _, rfl⟩, hw.alloc, .inl ?_⟩⟩ (fun D' hD => ?_)
  · rw [new_run hpo]; simp [val1]
  · rcases hD with ⟨_, _, x, rfl⟩ | ⟨h1, _⟩
    · have hv : val1 p p (some (x, false)) = ptr x := by simp [val1]
      rw [hv]
      exact ⟨hsq, h' x⟩
    · omega
theorem HL.allocz {w0 u : World} {l : List (Nat × Vec)} (h : HL w0 l u) (x : Obj) : HL w0 l (u.alloc x) :=
  N1.start 0 (h.bel.alloc h.bel.size _) (fun q hq => blk_alloc (h.hold q hq) _)
structure SC (w : World) (l : List (Nat × Vec)) (OB : Nat) (u : World) : Prop where
  hl : HL w l u
  ho : u.heap[OB]? = some (.cells #[.int .i64 14, .int .i64 17, .int .i64 21] 3 (0, 0))
theorem SC.below {w u u1 : World} {l : List (Nat × Vec)} {OB : Nat} (h : SC w l OB u) (hb : Below u.heap.size u u1) : SC w l OB u1 := ⟨h.hl.below hb, blk_keep h.ho hb⟩
theorem SC.drew {w u : World} {l : List (Nat × Vec)} {OB : Nat} (h : SC w l OB u) : SC w l OB u.drew := ⟨h.hl.drew, h.ho⟩
theorem HL.after0 {w0 U wx wA : World} {L : List (Nat × Vec)} {X : Vec} {x : Nat} (h : HL w0 L U) (hx : N1 U L 0 (some (x, false)) wx) (hA : Sets wx x X wA) : HL w0 ((x, X) :: L) wA ∧ ∀ (b : Nat) (o : Obj), U.heap[b]? = some o → wA.heap[b]? = some o := by
  obtain ⟨_, h2, h3⟩ := hx.new x false rfl
  refine ⟨N1.start 0 ((h.bel.trans (hx.bel.mono h.bel.size)).trans (hA.below.mono (Nat.le_trans h.bel.size h2))) (fun q hq => ?_), fun b o hb => ?_⟩
  · rcases List.mem_cons.1 hq with rfl | hq
    · exact hA.this
    · exact blk_sets (hx.hold q hq) hA (h3 q hq)
  · exact blk_sets (blk_keep hb hx.bel) hA (by have := block_lt hb; omega)
theorem HL.after1 {w0 U wx : World} {L : List (Nat × Vec)} {X : Vec} {x : Nat} (h : HL w0 L U) (hx : N1 U L X (some (x, true)) wx) : HL w0 ((x, X) :: L) wx ∧ ∀ (b : Nat) (o : Obj), U.heap[b]? = some o → wx.heap[b]? = some o := by
  obtain ⟨h1, h2, h3⟩ := hx.new x true rfl
  refine ⟨N1.start 0 (h.bel.trans (hx.bel.mono h.bel.size)) (fun q hq => ?_), fun b o hb => blk_keep hb hx.bel⟩
  rcases List.mem_cons.1 hq with rfl | hq
  · exact h1
  · exact hx.hold q hq
theorem of32 (xs : List Nat) (s c : Nat) (w : World) (b : Nat) (fr : Nat × Nat) (t : TypeId) (hl : xs.length ≤ 4) (h0 : 0 < xs.length) (hc : xs.length ≤ c) (hs : s = xs.length)
    (hb : w.heap[b]? = some (.cells (xs.map fun (x : Nat) => Value.int .u64 (x : Int)).toArray t fr)) :
    Calls Try.prog 30 #[.int .i64 32, .slice (some ⟨b, 0, none⟩) s c] w fun e w' => e = .returned (.agg (cells (buildOn 0 32 (fun i => xs.getD i 0) xs.length))) ∧ Below w.heap.size w w' := by
  subst hs
  have hl' : (xs.length : Int) ≤ 4 := by omega
  have h0' : (1 : Int) ≤ (xs.length : Int) := by omega
  have hc' : (xs.length : Int) ≤ (c : Int) := by omega
  go_enter Try.func30, Try.ntmps30
  go_wp2_with (first | (go_at_call 54; ((with_reducible refine (lanes32 _).mono ?_); rintro e w' ⟨rfl, rfl⟩)))
  rw [← cells_zero]
  obtain ⟨W, hW⟩ : ∃ W, W = (w.alloc (.cells (cells 0) 61)).alloc (.cells (cells 0) 61) := ⟨_, rfl⟩
  have hR : W.heap[w.heap.size]? = some (.cells (cells 0) 61 (0, 0)) := hW ▸ heap_alloc2_old _ _ _
  have hO : W.heap[w.heap.size + 1]? = some (.cells (cells 0) 61 (0, 0)) := hW ▸ heap_alloc2_new _ _ _
  have hZ : Below w.heap.size w W := hW ▸ ((Below.refl _ _).alloc (Nat.le_refl _) _).alloc (by simp) _
  rw [← hW]
  clear hW
  have hX : W.heap[b]? = some (.cells (xs.map fun (x : Nat) => Value.int .u64 (x : Int)).toArray t fr) := (hZ.block b (block_lt hb)).trans hb
  have hbl := block_lt hb
  go_loopw [16] (fun j wr => ∃ k : Nat, k ≤ xs.length ∧ j = .int .i64 k ∧ St W (w.heap.size + 1) (buildOn 0 32 (fun i => xs.getD i 0) k) wr) (fun j _ => xs.length - (intOf j).toNat)
  case atStart => exact ⟨0, Nat.zero_le _, rfl, St.start hO⟩
  case round =>
    obtain ⟨k, hk, rfl, hs⟩ := hrel
    by_cases hlt : k < xs.length
    · have hcell : wr.cell? ⟨b, k, none⟩ = some (.int .u64 ((xs.getD k 0 : Nat) : Int)) := by
        rw [cell_of_row wr b k _ _ _ (hs.kb.get hX (by omega))]
        simp [hlt]
      obtain ⟨x, hx⟩ : ∃ x, x = xs.getD k 0 := ⟨_, rfl⟩
      rw [← hx] at hcell
      have Hx := Lib.hid hx
      clear hx
      go_wp2_with (first | (with_reducible refine load_vec rfl _ rfl _ rfl _ hs.this ?_) | (go_at_call 31; refine (set32z _ _ _ k x _ rfl rfl (by omega)).mono ?_; rintro e u2 ⟨rfl, hb2⟩; have hq2 := hs.below hb2) | (with_reducible refine store_vec rfl _ _ rfl (w.heap.size + 1) _ rfl rfl _ hq2.this ?_; intro wz hz))
      go_roundw
      case rel => exact ⟨k + 1, by omega, by go_num, by have := hq2.sets hz; rw [Hx.out] at this; exact this⟩
      case measure => (simp [intOf] <;> omega)
    · obtain rfl : k = xs.length := by omega
      have hR' := hs.kb.get hR (by omega)
      go_wp2_with (first | (with_reducible refine load_vec rfl _ rfl _ rfl _ hs.this ?_) | (with_reducible refine store_vec rfl _ _ rfl w.heap.size _ rfl rfl _ hR' ?_; intro wq hq))
      exact bodyPost_ret (results_cell_row rfl _ _ w.heap.size _ _ _ _ rfl hq.this vunder rfl (vsize _)) rfl ⟨rfl, (hs.kb.to_below hZ (by omega)).trans (hq.below.mono (by omega))⟩
theorem PV.drew {w0 u : World} {o : MObj} {l : List (Nat × Vec)} {D : Nat} {x y : Obj} (h : PV w0 o l D x y u) : PV w0 o l D x y u.drew := h.below (Below.refl _ _).drew
theorem PV.alloc {w0 u : World} {o : MObj} {l : List (Nat × Vec)} {D : Nat} {x y : Obj} (h : PV w0 o l D x y u) (q : Obj) : PV w0 o l D x y (u.alloc q) := h.below ((Below.refl _ _).alloc (Nat.le_refl _) _)
theorem PV.pop {w0 u : World} {o : MObj} {q : Nat × Vec} {l : List (Nat × Vec)} {D : Nat} {x y : Obj} (h : PV w0 o (q :: l) D x y u) : PV w0 o l D x y u := ⟨h.mv.pop, h.hd, h.hc, h.off, h.off1⟩
theorem PV.after0 {w0 u wx wz : World} {o : MObj} {l l2 : List (Nat × Vec)} {D xn : Nat} {x y : Obj} {X : Vec} (h : PV w0 o l D x y u) (hx : N1 u l2 0 (some (xn, false)) wx) (hs : Sets wx xn X wz) :
    PV w0 o ((xn, X) :: l) D x y wz ∧ Below u.heap.size u wz := by
  obtain ⟨_, h2, _⟩ := hx.new xn false rfl
  have hb : Below u.heap.size u wz := hx.bel.trans (hs.below.mono h2)
  exact ⟨⟨(h.mv.below hb).add xn X hs.this (fun e => by have := h.mv.mem.has_lt e; omega), blk_keep h.hd hb, blk_keep h.hc hb, h.off, h.off1⟩, hb⟩
theorem PV.after1 {w0 u wx : World} {o : MObj} {l l2 : List (Nat × Vec)} {D xn : Nat} {x y : Obj} {X : Vec} (h : PV w0 o l D x y u) (hx : N1 u l2 X (some (xn, true)) wx) :
    PV w0 o ((xn, X) :: l) D x y wx ∧ Below u.heap.size u wx := by
  obtain ⟨h1, h2, _⟩ := hx.new xn true rfl
  exact ⟨⟨(h.mv.below hx.bel).add xn X h1 (fun e => by have := h.mv.mem.has_lt e; omega), blk_keep h.hd hx.bel, blk_keep h.hc hx.bel, h.off, h.off1⟩, hx.bel⟩
/-- A variable that came after world u0 is written. -/
theorem PV.sets {w0 u0 u u1 : World} {o : MObj} {l : List (Nat × Vec)} {D b : Nat} {x y : Obj} {v : Vec} (h : PV w0 o l D x y u0) (hb : Below u0.heap.size u0 u) (hbb : u0.heap.size ≤ b) (hs : Sets u b v u1) : PV w0 o ((b, v) :: l) D x y u1 := by
  have hz : Below u0.heap.size u0 u1 := hb.trans (hs.below.mono hbb)
  exact ⟨(h.mv.below hz).add b v hs.this (fun e => by have := h.mv.mem.has_lt e; omega), blk_keep h.hd hz, blk_keep h.hc hz, h.off, h.off1⟩

theorem of_n32 (x : Nat) (c : Nat) (w : World) (b : Nat) (fr : Nat × Nat) (t : TypeId) (hc : 1 ≤ c) (hb : w.heap[b]? = some (.cells #[.int .u64 (x : Nat)] t fr)) :
    Calls Try.prog 30 #[.int .i64 32, .slice (some ⟨b, 0, none⟩) 1 c] w fun e w' => e = .returned (.agg (cells (buildOn 0 32 (fun i => [x].getD i 0) 1))) ∧ Below w.heap.size w w' :=
  of32 [x] 1 c w b fr t (by simp) (by simp) (by simpa using hc) rfl hb
theorem of_n64 (x : Nat) (c : Nat) (w : World) (b : Nat) (fr : Nat × Nat) (t : TypeId) (hc : 1 ≤ c) (hb : w.heap[b]? = some (.cells #[.int .u64 (x : Nat)] t fr)) :
    Calls Try.prog 30 #[.int .i64 64, .slice (some ⟨b, 0, none⟩) 1 c] w fun e w' => e = .returned (.agg (cells (buildOn 0 64 (fun i => [x].getD i 0) 1))) ∧ Below w.heap.size w w' :=
  of64 [x] 1 c w b fr t (by simp) (by simp) (by simpa using hc) rfl hb
def PW (w0 : World) (o : MObj) (l : List (Nat × Vec)) (D : Nat) (x y : Obj) (z u : World) : Prop := PV w0 o l D x y u ∧ Below z.heap.size z u
theorem PW.below {w0 u u1 z : World} {o : MObj} {l : List (Nat × Vec)} {D : Nat} {x y : Obj} (h : PW w0 o l D x y z u) (hb : Below u.heap.size u u1) : PW w0 o l D x y z u1 := ⟨h.1.below hb, h.2.trans (hb.mono h.2.size)⟩
theorem PW.drew {w0 u z : World} {o : MObj} {l : List (Nat × Vec)} {D : Nat} {x y : Obj} (h : PW w0 o l D x y z u) : PW w0 o l D x y z u.drew := h.below (Below.refl _ _).drew
theorem PW.pv {w0 u z : World} {o : MObj} {l : List (Nat × Vec)} {D : Nat} {x y : Obj} (h : PW w0 o l D x y z u) : PV w0 o l D x y u := h.1

set_option maxRecDepth 100000 in
set_option maxHeartbeats 8000000 in
theorem parts_walk (A L : Nat) (d old : Vec) (c0 c1 c2 c3 c4 c5 : Value) (w : World) (hA : A < 65536) (hL : L < 4294967296) :
    Calls Try.prog 11 #[.int .u16 (A : Nat), .agg (cells d), .agg (#[c0, c1, c2, c3, c4, c5, .int .u32 (L : Int)] ++ cells old)] w fun e w' => e = .returned (.bool true) ∧ Below w.heap.size w w' := by
  have hN : ∀ W, Calls Try.prog 13 #[.int .i64 2, .int .i64 2] W fun e w' => ∃ o, e = .returned (.tuple #[.pointer (some ⟨o.p, 0, none⟩), .int .i64 0]) ∧ Fresh W w' o 86 131072 (fun _ => 0) 2 := fun W => new_ok 2 2 W (by decide) (.inr ⟨by decide, by decide⟩)
  have N1 := Lib.hid hN
  clear hN
  obtain ⟨C, hC⟩ : ∃ C, C = (#[c0, c1, c2, c3, c4, c5, .int .u32 (L : Int)] ++ cells old) := ⟨_, rfl⟩
  rw [← hC]
  have HCC := Lib.hid hC
  clear hC
  go_enter Try.func11, Try.ntmps11
  go_wp2_with fail
  obtain ⟨W, hW⟩ : ∃ W, W = (w.alloc (.cells (cells d) 60)).alloc (.cells C 77) := ⟨_, rfl⟩
  have hD0 : W.heap[w.heap.size]? = some (.cells (cells d) 60 (0, 0)) := hW ▸ heap_alloc2_old _ _ _
  have hC0 : W.heap[w.heap.size + 1]? = some (.cells C 77 (0, 0)) := hW ▸ heap_alloc2_new _ _ _
  have hb0 : Below w.heap.size w W := hW ▸ ((Below.refl _ _).alloc (Nat.le_refl _) _).alloc (by simp) _
  rw [← hW]
  rw [HCC.out] at hC0
  clear hW
  refine (awake11 _).mono ?_
  rintro e u0 ⟨rfl, hb1⟩
  have hD1 := (hb1.block _ (block_lt hD0)).trans hD0
  have hC1 := (hb1.block _ (block_lt hC0)).trans hC0
  have hs0 : MS w [] u0 := (MS.start w).below (hb0.trans (hb1.mono hb0.size))
  go_wp2_with fail
  refine (N1.out _).mono ?_
  rintro e u1 ⟨o, rfl, hf⟩
  have hn0 := hf.hn
  have hs : PV w o [] w.heap.size (.cells (cells d) 60 (0, 0)) (.cells (#[c0, c1, c2, c3, c4, c5, .int .u32 (L : Int)] ++ cells old) 77 (0, 0)) u1 := ⟨MV.start (hs0.fresh hf), (hf.bel.block _ (block_lt hD1)).trans hD1, (hf.bel.block _ (block_lt hC1)).trans hC1,
    fun e => Nat.lt_irrefl _ (Nat.lt_of_lt_of_le (block_lt hD1) (hf.new _ e)), fun e => Nat.lt_irrefl _ (Nat.lt_of_lt_of_le (block_lt hC1) (hf.new _ e))⟩
  clear hf hs0 hD1 hC1 hD0 hC0 hb0 hb1 N1
  obtain ⟨x60, hx60⟩ : ∃ x, x = Obj.cells (cells d) 60 (0, 0) := ⟨_, rfl⟩
  obtain ⟨x77, hx77⟩ : ∃ x, x = Obj.cells (#[c0, c1, c2, c3, c4, c5, .int .u32 (L : Int)] ++ cells old) 77 (0, 0) := ⟨_, rfl⟩
  rw [← hx60, ← hx77] at hs
  clear HCC
  obtain ⟨D, hDD⟩ : ∃ D, D = w.heap.size := ⟨_, rfl⟩
  rw [← hDD] at hs ⊢
  clear hDD
  have hc6 : ∀ u : World, u.heap[D + 1]? = some x77 → u.rangeAt (D + 1) 7 (cells old).toList ∧ u.cell? ⟨D + 1, 6, none⟩ = some (.int .u32 (L : Int)) := fun u h => ⟨acc_range (hx77 ▸ h), acc_addr (hx77 ▸ h)⟩
  have HC6 := Lib.hid hc6
  have HX60 := Lib.hid hx60
  clear hc6 hx60 hx77
  go_wp2_with (first | (with_reducible refine load_midv rfl _ rfl _ _ rfl old (HC6.out _ hs.hc).1 ?_) | (((with_reducible refine store_vec rfl _ _ rfl _ _ rfl rfl 0 (heap_new_zero _) ?_); intro wA hA; replace hs := hs.push hA; clear hA); have hc6 := (HC6.out _ hs.hc).2))
  clear hc6 HC6
  refine (poke_k o _ hs.mv.mem A 16 (.slice (some ⟨D, 0, none⟩) 16 16) (fun j => getN d 8 j) ⟨⟨_, _, rfl, .inr ⟨_, _, rfl, fun j hj => ?_⟩⟩, fun j _ => getN_lt d 8 j⟩ (by omega) (by decide)).mono ?_
  · rw [Nat.zero_add, cell_of_row _ D j _ _ _ (by rw [← HX60.out]; exact hs.hd)]
    rw [getElem?_cells d j hj]; rfl
  rintro e u2 ⟨rfl, hm, hk⟩
  replace hs := hs.stored hm hk
  clear hm hk
  obtain ⟨o1, ho1⟩ : ∃ o1, o1 = withβ o (pokeB o A 16 (fun j => getN d 8 j)) := ⟨_, rfl⟩
  have hn1 : o1.n = 131072 := by rw [ho1]; exact hn0
  have hp1 : o.p = o1.p := by rw [ho1]; rfl
  have hβ : ∀ k, k < 16 → o1.β (A + k) = getN d 8 k := fun k hk => by
    rw [ho1]
    show pokeB o A 16 (fun j => getN d 8 j) (A + k) = _
    unfold pokeB putB
    rw [if_pos (by rw [hn0]; omega)]
    simp only []
    rw [if_pos ⟨by omega, by omega⟩, Nat.add_sub_cancel_left]
  have hX : setN (setN 0 64 0 (loadN o1.β A 8)) 64 1 (loadN o1.β (A + 8) 8) = d := by
    rw [load_lane o1.β d A A 8 0 hβ (by omega) (by decide), load_lane o1.β d A (A + 8) 8 1 hβ (by omega) (by decide)]
    exact join_back d
  have h64 : loadN o1.β A 8 = getN d 64 0 := load_lane o1.β d A A 8 0 hβ (by omega) (by decide)
  rw [← ho1] at hs
  rw [hp1]
  clear ho1 hn0 hp1 hβ
  have HX := Lib.hid hX
  have H64 := Lib.hid h64
  clear hX h64
  go_wp2_with (first | (with_reducible refine load_vec rfl _ rfl _ rfl _ (MV.at hs.mv (by first | exact List.mem_cons_self | exact List.mem_cons_of_mem _ List.mem_cons_self | exact List.mem_cons_of_mem _ (List.mem_cons_of_mem _ List.mem_cons_self) | exact List.mem_cons_of_mem _ (List.mem_cons_of_mem _ (List.mem_cons_of_mem _ List.mem_cons_self)) | exact List.mem_cons_of_mem _ (List.mem_cons_of_mem _ (List.mem_cons_of_mem _ (List.mem_cons_of_mem _ List.mem_cons_self))))) ?_))
  refine (vload_00 o1 old 0 0 0 0 (A : Int) (.slice none 0 0) A _ hs.mv.mem ⟨by omega, by omega⟩ (by decide) (by omega) (by rw [hn1]; omega)).mono ?_
  rintro e u3 ⟨rfl, hb⟩
  rw [HX.out]
  replace hs := hs.below hb
  clear hb HX
  have hE := eqv (rfl : d = d)
  have hG := @guard_vec
  go_wp2_with (first | ((with_reducible refine store_vec rfl _ _ rfl _ _ rfl rfl 0 (heap_new_zero _) ?_); intro wA hA; replace hs := hs.push hA; clear hA) | ((with_reducible refine load_vec_g ?_ _ rfl _ rfl _ (MV.at hs.mv (by first | exact List.mem_cons_self | exact List.mem_cons_of_mem _ List.mem_cons_self | exact List.mem_cons_of_mem _ (List.mem_cons_of_mem _ List.mem_cons_self) | exact List.mem_cons_of_mem _ (List.mem_cons_of_mem _ (List.mem_cons_of_mem _ List.mem_cons_self)) | exact List.mem_cons_of_mem _ (List.mem_cons_of_mem _ (List.mem_cons_of_mem _ (List.mem_cons_of_mem _ List.mem_cons_self))))) ?_); (focus rfl)) | ((with_reducible refine load_arr_g ?_ _ rfl D rfl d (by rw [← HX60.out]; exact hs.hd) ?_); (focus rfl)))
  obtain ⟨B1, hB1⟩ : ∃ B, B = u3.heap.size := ⟨_, rfl⟩
  obtain ⟨B0, hB0⟩ : ∃ B, B = u1.heap.size := ⟨_, rfl⟩
  obtain ⟨WB, hWB⟩ : ∃ B, B = wA.heap.size := ⟨_, rfl⟩
  have ho : (wA.alloc (.cells #[.int .i64 64903, .int .i64 64905, .int .i64 64935, .int .i64 64937, .int .i64 64967, .int .i64 64969] 81)).heap[WB]? = some (.cells #[.int .i64 64903, .int .i64 64905, .int .i64 64935, .int .i64 64937, .int .i64 64967, .int .i64 64969] 81 (0, 0)) := by rw [hWB]; exact heap_alloc_new _ _
  replace hs := hs.alloc (.cells #[.int .i64 64903, .int .i64 64905, .int .i64 64935, .int .i64 64937, .int .i64 64967, .int .i64 64969] 81)
  rw [← hB1, ← hB0] at hs
  rw [← hB1, ← hB0, ← hWB]
  generalize wA.alloc (.cells #[.int .i64 64903, .int .i64 64905, .int .i64 64935, .int .i64 64937, .int .i64 64967, .int .i64 64969] 81) = W1 at hs ho ⊢
  clear hWB hB0 hB1 hE
  go_loopw [14] (fun kv wr => ∃ z : Int, (z = 0 ∨ z = 1 ∨ z = 2 ∨ z = 3 ∨ z = 4 ∨ z = 5 ∨ z = 6) ∧ kv = .int .i64 z ∧ PV w o1 [(B1, d), (B0, old)] D x60 x77 wr ∧ wr.heap[WB]? = some (.cells #[.int .i64 64903, .int .i64 64905, .int .i64 64935, .int .i64 64937, .int .i64 64967, .int .i64 64969] 81 (0, 0))) (fun kv _ => (6 - intOf kv).toNat)
  case atStart => exact ⟨0, .inl rfl, rfl, hs, ho⟩
  case round =>
    clear hs ho
    obtain ⟨z, hz, rfl, hs, ho⟩ := hrel
    rcases hz with rfl | rfl | rfl | rfl | rfl | rfl | rfl
    · as_aux_lemma =>
      obtain ⟨X, hX⟩ : ∃ X, X = buildOn 0 16 (extN d 8 0) 8 := ⟨_, rfl⟩
      have SE : spreadV (getN d 64 0) 8 true = X := hX ▸ (spread_ext d 8 (by simp)).1
      have UN : ∀ W, Calls Try.prog 42 #[.int .i64 64903, .agg (cells d)] W fun e w' => e = .returned (.tuple #[.agg (cells X), .int .i64 0]) ∧ Below W.heap.size W w' := fun W => hX ▸ un_row8 64903 0 d W (by decide) (by decide)
      have HSE := Lib.hid SE
      have HUN := Lib.hid UN
      clear SE UN hX
      go_wp2_with (first | (with_reducible refine load_vec rfl _ rfl _ rfl _ (MV.at hs.mv (by first | exact List.mem_cons_self | exact List.mem_cons_of_mem _ List.mem_cons_self | exact List.mem_cons_of_mem _ (List.mem_cons_of_mem _ List.mem_cons_self) | exact List.mem_cons_of_mem _ (List.mem_cons_of_mem _ (List.mem_cons_of_mem _ List.mem_cons_self)) | exact List.mem_cons_of_mem _ (List.mem_cons_of_mem _ (List.mem_cons_of_mem _ (List.mem_cons_of_mem _ List.mem_cons_self))))) ?_))
      refine (vload_01 o1 old 0 0 0 0 (A : Int) (.slice none 0 0) A _ hs.mv.mem ⟨by omega, by omega⟩ (by decide) (by omega) (by rw [hn1]; omega)).mono ?_
      rintro e u4 ⟨rfl, hb⟩
      rw [H64.out, HSE.out]
      replace hs := hs.below hb
      replace ho := blk_keep ho hb
      clear hb HSE
      go_wp2_with (first | ((with_reducible refine store_vec rfl _ _ rfl _ _ rfl rfl 0 (heap_new_zero _) ?_); intro wA hA; replace ho := blk_keep ho (((Below.refl _ _).alloc (Nat.le_refl _) _).trans hA.below); replace hs := hs.push hA; clear hA))
      refine region_new1 _ _ X 10 8 9 [0, 1, 2, 3, 4, 5, 6, 7] (by kernel_rfl) rfl rfl rfl rfl rfl _ _ rfl rfl (N1.start X (Below.refl _ _) hs.mv.hold).drew ?_
      simp only [opsAt, List.getElem?_cons_zero, List.getElem?_cons_succ, List.drop_succ_cons, List.drop_zero]
      repeat (first | (refine do_loadIA rfl _ rfl _ _ rfl (.int .i64 64903) (fun D u hS => by rw [cell_of_row u _ _ _ _ _ (blk_keep ho hS.bel)]; rfl) ?_; simp only [Act.put, List.setIfInBounds_toArray, List.set_cons_zero, List.set_cons_succ]) | (refine do_loadA rfl _ rfl _ rfl d (fun D u hS => hS.hold (B1, d) (by first | exact List.mem_cons_self | exact List.mem_cons_of_mem _ List.mem_cons_self | exact List.mem_cons_of_mem _ (List.mem_cons_of_mem _ List.mem_cons_self) | exact List.mem_cons_of_mem _ (List.mem_cons_of_mem _ (List.mem_cons_of_mem _ List.mem_cons_self)) | exact List.mem_cons_of_mem _ (List.mem_cons_of_mem _ (List.mem_cons_of_mem _ (List.mem_cons_of_mem _ List.mem_cons_self))))) ?_; simp only [Act.put, List.setIfInBounds_toArray, List.set_cons_zero, List.set_cons_succ]) | (refine wpDA_pure (v := ?_) rfl (fun u => ?_) ?_; rotate_left; (focus (go_simp; (try with_reducible rfl); done)); simp only [Act.put, List.setIfInBounds_toArray, List.set_cons_zero, List.set_cons_succ]))
      (refine wpDA_call (v := .tuple #[.agg (cells X), .int .i64 0]) rfl 42 ?_ (fun u => ?_) (fun D u hS => ?_) ?_; rotate_left 1; (focus (go_simp; (try with_reducible rfl); done)); (focus (refine (HUN.out _).mono ?_; rintro e u2 ⟨rfl, hb⟩; exact ⟨rfl, hS.below hb⟩)); simp only [Act.put, List.setIfInBounds_toArray, List.set_cons_zero, List.set_cons_succ])
      repeat (refine wpDA_pure (v := ?_) rfl (fun u => ?_) ?_; rotate_left; (focus (go_simp; (try with_reducible rfl); done)); simp only [Act.put, List.setIfInBounds_toArray, List.set_cons_zero, List.set_cons_succ])
      refine wpDA_nil (fun x1 => ⟨rfl, rfl, fun wx hx => ?_⟩)
      unfold ptr
      simp only [Act.put, List.setIfInBounds_toArray, List.set_cons_zero, List.set_cons_succ]
      replace hs := hs.after1 hx
      replace ho := blk_keep ho hs.2
      replace hs := hs.1
      clear hx
      have hEX := eqv (rfl : X = X)
      go_wp2_with (first | ((with_reducible refine load_vec_g ?_ _ rfl _ rfl _ (MV.at hs.mv (by first | exact List.mem_cons_self | exact List.mem_cons_of_mem _ List.mem_cons_self | exact List.mem_cons_of_mem _ (List.mem_cons_of_mem _ List.mem_cons_self) | exact List.mem_cons_of_mem _ (List.mem_cons_of_mem _ (List.mem_cons_of_mem _ List.mem_cons_self)) | exact List.mem_cons_of_mem _ (List.mem_cons_of_mem _ (List.mem_cons_of_mem _ (List.mem_cons_of_mem _ List.mem_cons_self))))) ?_); (focus rfl)))
      go_roundw
      case rel => first | exact ⟨1, by decide, rfl, hs.pop.pop, ho⟩ | ((repeat apply Exists.intro); exact ⟨⟨1, by decide, rfl, hs.pop.pop, ho⟩, rfl⟩)
      case measure => (simp [intOf] <;> omega)
    · as_aux_lemma =>
      obtain ⟨X, hX⟩ : ∃ X, X = buildOn 0 16 (extN d 8 2) 8 := ⟨_, rfl⟩
      have SE : spreadV (getN d 64 0) 8 false = X := hX ▸ (spread_ext d 8 (by simp)).2
      have UN : ∀ W, Calls Try.prog 42 #[.int .i64 64905, .agg (cells d)] W fun e w' => e = .returned (.tuple #[.agg (cells X), .int .i64 0]) ∧ Below W.heap.size W w' := fun W => hX ▸ un_row8 64905 2 d W (by decide) (by decide)
      have HSE := Lib.hid SE
      have HUN := Lib.hid UN
      clear SE UN hX
      go_wp2_with (first | (with_reducible refine load_vec rfl _ rfl _ rfl _ (MV.at hs.mv (by first | exact List.mem_cons_self | exact List.mem_cons_of_mem _ List.mem_cons_self | exact List.mem_cons_of_mem _ (List.mem_cons_of_mem _ List.mem_cons_self) | exact List.mem_cons_of_mem _ (List.mem_cons_of_mem _ (List.mem_cons_of_mem _ List.mem_cons_self)) | exact List.mem_cons_of_mem _ (List.mem_cons_of_mem _ (List.mem_cons_of_mem _ (List.mem_cons_of_mem _ List.mem_cons_self))))) ?_))
      refine (vload_02 o1 old 0 0 0 0 (A : Int) (.slice none 0 0) A _ hs.mv.mem ⟨by omega, by omega⟩ (by decide) (by omega) (by rw [hn1]; omega)).mono ?_
      rintro e u4 ⟨rfl, hb⟩
      rw [H64.out, HSE.out]
      replace hs := hs.below hb
      replace ho := blk_keep ho hb
      clear hb HSE
      go_wp2_with (first | ((with_reducible refine store_vec rfl _ _ rfl _ _ rfl rfl 0 (heap_new_zero _) ?_); intro wA hA; replace ho := blk_keep ho (((Below.refl _ _).alloc (Nat.le_refl _) _).trans hA.below); replace hs := hs.push hA; clear hA))
      refine region_new1 _ _ X 10 8 9 [0, 1, 2, 3, 4, 5, 6, 7] (by kernel_rfl) rfl rfl rfl rfl rfl _ _ rfl rfl (N1.start X (Below.refl _ _) hs.mv.hold).drew ?_
      simp only [opsAt, List.getElem?_cons_zero, List.getElem?_cons_succ, List.drop_succ_cons, List.drop_zero]
      repeat (first | (refine do_loadIA rfl _ rfl _ _ rfl (.int .i64 64905) (fun D u hS => by rw [cell_of_row u _ _ _ _ _ (blk_keep ho hS.bel)]; rfl) ?_; simp only [Act.put, List.setIfInBounds_toArray, List.set_cons_zero, List.set_cons_succ]) | (refine do_loadA rfl _ rfl _ rfl d (fun D u hS => hS.hold (B1, d) (by first | exact List.mem_cons_self | exact List.mem_cons_of_mem _ List.mem_cons_self | exact List.mem_cons_of_mem _ (List.mem_cons_of_mem _ List.mem_cons_self) | exact List.mem_cons_of_mem _ (List.mem_cons_of_mem _ (List.mem_cons_of_mem _ List.mem_cons_self)) | exact List.mem_cons_of_mem _ (List.mem_cons_of_mem _ (List.mem_cons_of_mem _ (List.mem_cons_of_mem _ List.mem_cons_self))))) ?_; simp only [Act.put, List.setIfInBounds_toArray, List.set_cons_zero, List.set_cons_succ]) | (refine wpDA_pure (v := ?_) rfl (fun u => ?_) ?_; rotate_left; (focus (go_simp; (try with_reducible rfl); done)); simp only [Act.put, List.setIfInBounds_toArray, List.set_cons_zero, List.set_cons_succ]))
      (refine wpDA_call (v := .tuple #[.agg (cells X), .int .i64 0]) rfl 42 ?_ (fun u => ?_) (fun D u hS => ?_) ?_; rotate_left 1; (focus (go_simp; (try with_reducible rfl); done)); (focus (refine (HUN.out _).mono ?_; rintro e u2 ⟨rfl, hb⟩; exact ⟨rfl, hS.below hb⟩)); simp only [Act.put, List.setIfInBounds_toArray, List.set_cons_zero, List.set_cons_succ])
      repeat (refine wpDA_pure (v := ?_) rfl (fun u => ?_) ?_; rotate_left; (focus (go_simp; (try with_reducible rfl); done)); simp only [Act.put, List.setIfInBounds_toArray, List.set_cons_zero, List.set_cons_succ])
      refine wpDA_nil (fun x1 => ⟨rfl, rfl, fun wx hx => ?_⟩)
      unfold ptr
      simp only [Act.put, List.setIfInBounds_toArray, List.set_cons_zero, List.set_cons_succ]
      replace hs := hs.after1 hx
      replace ho := blk_keep ho hs.2
      replace hs := hs.1
      clear hx
      have hEX := eqv (rfl : X = X)
      go_wp2_with (first | ((with_reducible refine load_vec_g ?_ _ rfl _ rfl _ (MV.at hs.mv (by first | exact List.mem_cons_self | exact List.mem_cons_of_mem _ List.mem_cons_self | exact List.mem_cons_of_mem _ (List.mem_cons_of_mem _ List.mem_cons_self) | exact List.mem_cons_of_mem _ (List.mem_cons_of_mem _ (List.mem_cons_of_mem _ List.mem_cons_self)) | exact List.mem_cons_of_mem _ (List.mem_cons_of_mem _ (List.mem_cons_of_mem _ (List.mem_cons_of_mem _ List.mem_cons_self))))) ?_); (focus rfl)))
      go_roundw
      case rel => first | exact ⟨2, by decide, rfl, hs.pop.pop, ho⟩ | ((repeat apply Exists.intro); exact ⟨⟨2, by decide, rfl, hs.pop.pop, ho⟩, rfl⟩)
      case measure => (simp [intOf] <;> omega)
    · as_aux_lemma =>
      obtain ⟨X, hX⟩ : ∃ X, X = buildOn 0 32 (extN d 16 0) 4 := ⟨_, rfl⟩
      have SE : spreadV (getN d 64 0) 16 true = X := hX ▸ (spread_ext d 16 (by simp)).1
      have UN : ∀ W, Calls Try.prog 42 #[.int .i64 64935, .agg (cells d)] W fun e w' => e = .returned (.tuple #[.agg (cells X), .int .i64 0]) ∧ Below W.heap.size W w' := fun W => hX ▸ un_row16 64935 0 d W (by decide) (by decide)
      have HSE := Lib.hid SE
      have HUN := Lib.hid UN
      clear SE UN hX
      go_wp2_with (first | (with_reducible refine load_vec rfl _ rfl _ rfl _ (MV.at hs.mv (by first | exact List.mem_cons_self | exact List.mem_cons_of_mem _ List.mem_cons_self | exact List.mem_cons_of_mem _ (List.mem_cons_of_mem _ List.mem_cons_self) | exact List.mem_cons_of_mem _ (List.mem_cons_of_mem _ (List.mem_cons_of_mem _ List.mem_cons_self)) | exact List.mem_cons_of_mem _ (List.mem_cons_of_mem _ (List.mem_cons_of_mem _ (List.mem_cons_of_mem _ List.mem_cons_self))))) ?_))
      refine (vload_03 o1 old 0 0 0 0 (A : Int) (.slice none 0 0) A _ hs.mv.mem ⟨by omega, by omega⟩ (by decide) (by omega) (by rw [hn1]; omega)).mono ?_
      rintro e u4 ⟨rfl, hb⟩
      rw [H64.out, HSE.out]
      replace hs := hs.below hb
      replace ho := blk_keep ho hb
      clear hb HSE
      go_wp2_with (first | ((with_reducible refine store_vec rfl _ _ rfl _ _ rfl rfl 0 (heap_new_zero _) ?_); intro wA hA; replace ho := blk_keep ho (((Below.refl _ _).alloc (Nat.le_refl _) _).trans hA.below); replace hs := hs.push hA; clear hA))
      refine region_new1 _ _ X 10 8 9 [0, 1, 2, 3, 4, 5, 6, 7] (by kernel_rfl) rfl rfl rfl rfl rfl _ _ rfl rfl (N1.start X (Below.refl _ _) hs.mv.hold).drew ?_
      simp only [opsAt, List.getElem?_cons_zero, List.getElem?_cons_succ, List.drop_succ_cons, List.drop_zero]
      repeat (first | (refine do_loadIA rfl _ rfl _ _ rfl (.int .i64 64935) (fun D u hS => by rw [cell_of_row u _ _ _ _ _ (blk_keep ho hS.bel)]; rfl) ?_; simp only [Act.put, List.setIfInBounds_toArray, List.set_cons_zero, List.set_cons_succ]) | (refine do_loadA rfl _ rfl _ rfl d (fun D u hS => hS.hold (B1, d) (by first | exact List.mem_cons_self | exact List.mem_cons_of_mem _ List.mem_cons_self | exact List.mem_cons_of_mem _ (List.mem_cons_of_mem _ List.mem_cons_self) | exact List.mem_cons_of_mem _ (List.mem_cons_of_mem _ (List.mem_cons_of_mem _ List.mem_cons_self)) | exact List.mem_cons_of_mem _ (List.mem_cons_of_mem _ (List.mem_cons_of_mem _ (List.mem_cons_of_mem _ List.mem_cons_self))))) ?_; simp only [Act.put, List.setIfInBounds_toArray, List.set_cons_zero, List.set_cons_succ]) | (refine wpDA_pure (v := ?_) rfl (fun u => ?_) ?_; rotate_left; (focus (go_simp; (try with_reducible rfl); done)); simp only [Act.put, List.setIfInBounds_toArray, List.set_cons_zero, List.set_cons_succ]))
      (refine wpDA_call (v := .tuple #[.agg (cells X), .int .i64 0]) rfl 42 ?_ (fun u => ?_) (fun D u hS => ?_) ?_; rotate_left 1; (focus (go_simp; (try with_reducible rfl); done)); (focus (refine (HUN.out _).mono ?_; rintro e u2 ⟨rfl, hb⟩; exact ⟨rfl, hS.below hb⟩)); simp only [Act.put, List.setIfInBounds_toArray, List.set_cons_zero, List.set_cons_succ])
      repeat (refine wpDA_pure (v := ?_) rfl (fun u => ?_) ?_; rotate_left; (focus (go_simp; (try with_reducible rfl); done)); simp only [Act.put, List.setIfInBounds_toArray, List.set_cons_zero, List.set_cons_succ])
      refine wpDA_nil (fun x1 => ⟨rfl, rfl, fun wx hx => ?_⟩)
      unfold ptr
      simp only [Act.put, List.setIfInBounds_toArray, List.set_cons_zero, List.set_cons_succ]
      replace hs := hs.after1 hx
      replace ho := blk_keep ho hs.2
      replace hs := hs.1
      clear hx
      have hEX := eqv (rfl : X = X)
      go_wp2_with (first | ((with_reducible refine load_vec_g ?_ _ rfl _ rfl _ (MV.at hs.mv (by first | exact List.mem_cons_self | exact List.mem_cons_of_mem _ List.mem_cons_self | exact List.mem_cons_of_mem _ (List.mem_cons_of_mem _ List.mem_cons_self) | exact List.mem_cons_of_mem _ (List.mem_cons_of_mem _ (List.mem_cons_of_mem _ List.mem_cons_self)) | exact List.mem_cons_of_mem _ (List.mem_cons_of_mem _ (List.mem_cons_of_mem _ (List.mem_cons_of_mem _ List.mem_cons_self))))) ?_); (focus rfl)))
      go_roundw
      case rel => first | exact ⟨3, by decide, rfl, hs.pop.pop, ho⟩ | ((repeat apply Exists.intro); exact ⟨⟨3, by decide, rfl, hs.pop.pop, ho⟩, rfl⟩)
      case measure => (simp [intOf] <;> omega)
    · as_aux_lemma =>
      obtain ⟨X, hX⟩ : ∃ X, X = buildOn 0 32 (extN d 16 2) 4 := ⟨_, rfl⟩
      have SE : spreadV (getN d 64 0) 16 false = X := hX ▸ (spread_ext d 16 (by simp)).2
      have UN : ∀ W, Calls Try.prog 42 #[.int .i64 64937, .agg (cells d)] W fun e w' => e = .returned (.tuple #[.agg (cells X), .int .i64 0]) ∧ Below W.heap.size W w' := fun W => hX ▸ un_row16 64937 2 d W (by decide) (by decide)
      have HSE := Lib.hid SE
      have HUN := Lib.hid UN
      clear SE UN hX
      go_wp2_with (first | (with_reducible refine load_vec rfl _ rfl _ rfl _ (MV.at hs.mv (by first | exact List.mem_cons_self | exact List.mem_cons_of_mem _ List.mem_cons_self | exact List.mem_cons_of_mem _ (List.mem_cons_of_mem _ List.mem_cons_self) | exact List.mem_cons_of_mem _ (List.mem_cons_of_mem _ (List.mem_cons_of_mem _ List.mem_cons_self)) | exact List.mem_cons_of_mem _ (List.mem_cons_of_mem _ (List.mem_cons_of_mem _ (List.mem_cons_of_mem _ List.mem_cons_self))))) ?_))
      refine (vload_04 o1 old 0 0 0 0 (A : Int) (.slice none 0 0) A _ hs.mv.mem ⟨by omega, by omega⟩ (by decide) (by omega) (by rw [hn1]; omega)).mono ?_
      rintro e u4 ⟨rfl, hb⟩
      rw [H64.out, HSE.out]
      replace hs := hs.below hb
      replace ho := blk_keep ho hb
      clear hb HSE
      go_wp2_with (first | ((with_reducible refine store_vec rfl _ _ rfl _ _ rfl rfl 0 (heap_new_zero _) ?_); intro wA hA; replace ho := blk_keep ho (((Below.refl _ _).alloc (Nat.le_refl _) _).trans hA.below); replace hs := hs.push hA; clear hA))
      refine region_new1 _ _ X 10 8 9 [0, 1, 2, 3, 4, 5, 6, 7] (by kernel_rfl) rfl rfl rfl rfl rfl _ _ rfl rfl (N1.start X (Below.refl _ _) hs.mv.hold).drew ?_
      simp only [opsAt, List.getElem?_cons_zero, List.getElem?_cons_succ, List.drop_succ_cons, List.drop_zero]
      repeat (first | (refine do_loadIA rfl _ rfl _ _ rfl (.int .i64 64937) (fun D u hS => by rw [cell_of_row u _ _ _ _ _ (blk_keep ho hS.bel)]; rfl) ?_; simp only [Act.put, List.setIfInBounds_toArray, List.set_cons_zero, List.set_cons_succ]) | (refine do_loadA rfl _ rfl _ rfl d (fun D u hS => hS.hold (B1, d) (by first | exact List.mem_cons_self | exact List.mem_cons_of_mem _ List.mem_cons_self | exact List.mem_cons_of_mem _ (List.mem_cons_of_mem _ List.mem_cons_self) | exact List.mem_cons_of_mem _ (List.mem_cons_of_mem _ (List.mem_cons_of_mem _ List.mem_cons_self)) | exact List.mem_cons_of_mem _ (List.mem_cons_of_mem _ (List.mem_cons_of_mem _ (List.mem_cons_of_mem _ List.mem_cons_self))))) ?_; simp only [Act.put, List.setIfInBounds_toArray, List.set_cons_zero, List.set_cons_succ]) | (refine wpDA_pure (v := ?_) rfl (fun u => ?_) ?_; rotate_left; (focus (go_simp; (try with_reducible rfl); done)); simp only [Act.put, List.setIfInBounds_toArray, List.set_cons_zero, List.set_cons_succ]))
      (refine wpDA_call (v := .tuple #[.agg (cells X), .int .i64 0]) rfl 42 ?_ (fun u => ?_) (fun D u hS => ?_) ?_; rotate_left 1; (focus (go_simp; (try with_reducible rfl); done)); (focus (refine (HUN.out _).mono ?_; rintro e u2 ⟨rfl, hb⟩; exact ⟨rfl, hS.below hb⟩)); simp only [Act.put, List.setIfInBounds_toArray, List.set_cons_zero, List.set_cons_succ])
      repeat (refine wpDA_pure (v := ?_) rfl (fun u => ?_) ?_; rotate_left; (focus (go_simp; (try with_reducible rfl); done)); simp only [Act.put, List.setIfInBounds_toArray, List.set_cons_zero, List.set_cons_succ])
      refine wpDA_nil (fun x1 => ⟨rfl, rfl, fun wx hx => ?_⟩)
      unfold ptr
      simp only [Act.put, List.setIfInBounds_toArray, List.set_cons_zero, List.set_cons_succ]
      replace hs := hs.after1 hx
      replace ho := blk_keep ho hs.2
      replace hs := hs.1
      clear hx
      have hEX := eqv (rfl : X = X)
      go_wp2_with (first | ((with_reducible refine load_vec_g ?_ _ rfl _ rfl _ (MV.at hs.mv (by first | exact List.mem_cons_self | exact List.mem_cons_of_mem _ List.mem_cons_self | exact List.mem_cons_of_mem _ (List.mem_cons_of_mem _ List.mem_cons_self) | exact List.mem_cons_of_mem _ (List.mem_cons_of_mem _ (List.mem_cons_of_mem _ List.mem_cons_self)) | exact List.mem_cons_of_mem _ (List.mem_cons_of_mem _ (List.mem_cons_of_mem _ (List.mem_cons_of_mem _ List.mem_cons_self))))) ?_); (focus rfl)))
      go_roundw
      case rel => first | exact ⟨4, by decide, rfl, hs.pop.pop, ho⟩ | ((repeat apply Exists.intro); exact ⟨⟨4, by decide, rfl, hs.pop.pop, ho⟩, rfl⟩)
      case measure => (simp [intOf] <;> omega)
    · as_aux_lemma =>
      obtain ⟨X, hX⟩ : ∃ X, X = buildOn 0 64 (extN d 32 0) 2 := ⟨_, rfl⟩
      have SE : spreadV (getN d 64 0) 32 true = X := hX ▸ (spread_ext d 32 (by simp)).1
      have UN : ∀ W, Calls Try.prog 42 #[.int .i64 64967, .agg (cells d)] W fun e w' => e = .returned (.tuple #[.agg (cells X), .int .i64 0]) ∧ Below W.heap.size W w' := fun W => hX ▸ un_row32 64967 0 d W (by decide) (by decide)
      have HSE := Lib.hid SE
      have HUN := Lib.hid UN
      clear SE UN hX
      go_wp2_with (first | (with_reducible refine load_vec rfl _ rfl _ rfl _ (MV.at hs.mv (by first | exact List.mem_cons_self | exact List.mem_cons_of_mem _ List.mem_cons_self | exact List.mem_cons_of_mem _ (List.mem_cons_of_mem _ List.mem_cons_self) | exact List.mem_cons_of_mem _ (List.mem_cons_of_mem _ (List.mem_cons_of_mem _ List.mem_cons_self)) | exact List.mem_cons_of_mem _ (List.mem_cons_of_mem _ (List.mem_cons_of_mem _ (List.mem_cons_of_mem _ List.mem_cons_self))))) ?_))
      refine (vload_05 o1 old 0 0 0 0 (A : Int) (.slice none 0 0) A _ hs.mv.mem ⟨by omega, by omega⟩ (by decide) (by omega) (by rw [hn1]; omega)).mono ?_
      rintro e u4 ⟨rfl, hb⟩
      rw [H64.out, HSE.out]
      replace hs := hs.below hb
      replace ho := blk_keep ho hb
      clear hb HSE
      go_wp2_with (first | ((with_reducible refine store_vec rfl _ _ rfl _ _ rfl rfl 0 (heap_new_zero _) ?_); intro wA hA; replace ho := blk_keep ho (((Below.refl _ _).alloc (Nat.le_refl _) _).trans hA.below); replace hs := hs.push hA; clear hA))
      refine region_new1 _ _ X 10 8 9 [0, 1, 2, 3, 4, 5, 6, 7] (by kernel_rfl) rfl rfl rfl rfl rfl _ _ rfl rfl (N1.start X (Below.refl _ _) hs.mv.hold).drew ?_
      simp only [opsAt, List.getElem?_cons_zero, List.getElem?_cons_succ, List.drop_succ_cons, List.drop_zero]
      repeat (first | (refine do_loadIA rfl _ rfl _ _ rfl (.int .i64 64967) (fun D u hS => by rw [cell_of_row u _ _ _ _ _ (blk_keep ho hS.bel)]; rfl) ?_; simp only [Act.put, List.setIfInBounds_toArray, List.set_cons_zero, List.set_cons_succ]) | (refine do_loadA rfl _ rfl _ rfl d (fun D u hS => hS.hold (B1, d) (by first | exact List.mem_cons_self | exact List.mem_cons_of_mem _ List.mem_cons_self | exact List.mem_cons_of_mem _ (List.mem_cons_of_mem _ List.mem_cons_self) | exact List.mem_cons_of_mem _ (List.mem_cons_of_mem _ (List.mem_cons_of_mem _ List.mem_cons_self)) | exact List.mem_cons_of_mem _ (List.mem_cons_of_mem _ (List.mem_cons_of_mem _ (List.mem_cons_of_mem _ List.mem_cons_self))))) ?_; simp only [Act.put, List.setIfInBounds_toArray, List.set_cons_zero, List.set_cons_succ]) | (refine wpDA_pure (v := ?_) rfl (fun u => ?_) ?_; rotate_left; (focus (go_simp; (try with_reducible rfl); done)); simp only [Act.put, List.setIfInBounds_toArray, List.set_cons_zero, List.set_cons_succ]))
      (refine wpDA_call (v := .tuple #[.agg (cells X), .int .i64 0]) rfl 42 ?_ (fun u => ?_) (fun D u hS => ?_) ?_; rotate_left 1; (focus (go_simp; (try with_reducible rfl); done)); (focus (refine (HUN.out _).mono ?_; rintro e u2 ⟨rfl, hb⟩; exact ⟨rfl, hS.below hb⟩)); simp only [Act.put, List.setIfInBounds_toArray, List.set_cons_zero, List.set_cons_succ])
      repeat (refine wpDA_pure (v := ?_) rfl (fun u => ?_) ?_; rotate_left; (focus (go_simp; (try with_reducible rfl); done)); simp only [Act.put, List.setIfInBounds_toArray, List.set_cons_zero, List.set_cons_succ])
      refine wpDA_nil (fun x1 => ⟨rfl, rfl, fun wx hx => ?_⟩)
      unfold ptr
      simp only [Act.put, List.setIfInBounds_toArray, List.set_cons_zero, List.set_cons_succ]
      replace hs := hs.after1 hx
      replace ho := blk_keep ho hs.2
      replace hs := hs.1
      clear hx
      have hEX := eqv (rfl : X = X)
      go_wp2_with (first | ((with_reducible refine load_vec_g ?_ _ rfl _ rfl _ (MV.at hs.mv (by first | exact List.mem_cons_self | exact List.mem_cons_of_mem _ List.mem_cons_self | exact List.mem_cons_of_mem _ (List.mem_cons_of_mem _ List.mem_cons_self) | exact List.mem_cons_of_mem _ (List.mem_cons_of_mem _ (List.mem_cons_of_mem _ List.mem_cons_self)) | exact List.mem_cons_of_mem _ (List.mem_cons_of_mem _ (List.mem_cons_of_mem _ (List.mem_cons_of_mem _ List.mem_cons_self))))) ?_); (focus rfl)))
      go_roundw
      case rel => first | exact ⟨5, by decide, rfl, hs.pop.pop, ho⟩ | ((repeat apply Exists.intro); exact ⟨⟨5, by decide, rfl, hs.pop.pop, ho⟩, rfl⟩)
      case measure => (simp [intOf] <;> omega)
    · as_aux_lemma =>
      obtain ⟨X, hX⟩ : ∃ X, X = buildOn 0 64 (extN d 32 2) 2 := ⟨_, rfl⟩
      have SE : spreadV (getN d 64 0) 32 false = X := hX ▸ (spread_ext d 32 (by simp)).2
      have UN : ∀ W, Calls Try.prog 42 #[.int .i64 64969, .agg (cells d)] W fun e w' => e = .returned (.tuple #[.agg (cells X), .int .i64 0]) ∧ Below W.heap.size W w' := fun W => hX ▸ un_row32 64969 2 d W (by decide) (by decide)
      have HSE := Lib.hid SE
      have HUN := Lib.hid UN
      clear SE UN hX
      go_wp2_with (first | (with_reducible refine load_vec rfl _ rfl _ rfl _ (MV.at hs.mv (by first | exact List.mem_cons_self | exact List.mem_cons_of_mem _ List.mem_cons_self | exact List.mem_cons_of_mem _ (List.mem_cons_of_mem _ List.mem_cons_self) | exact List.mem_cons_of_mem _ (List.mem_cons_of_mem _ (List.mem_cons_of_mem _ List.mem_cons_self)) | exact List.mem_cons_of_mem _ (List.mem_cons_of_mem _ (List.mem_cons_of_mem _ (List.mem_cons_of_mem _ List.mem_cons_self))))) ?_))
      refine (vload_06 o1 old 0 0 0 0 (A : Int) (.slice none 0 0) A _ hs.mv.mem ⟨by omega, by omega⟩ (by decide) (by omega) (by rw [hn1]; omega)).mono ?_
      rintro e u4 ⟨rfl, hb⟩
      rw [H64.out, HSE.out]
      replace hs := hs.below hb
      replace ho := blk_keep ho hb
      clear hb HSE
      go_wp2_with (first | ((with_reducible refine store_vec rfl _ _ rfl _ _ rfl rfl 0 (heap_new_zero _) ?_); intro wA hA; replace ho := blk_keep ho (((Below.refl _ _).alloc (Nat.le_refl _) _).trans hA.below); replace hs := hs.push hA; clear hA))
      refine region_new1 _ _ X 10 8 9 [0, 1, 2, 3, 4, 5, 6, 7] (by kernel_rfl) rfl rfl rfl rfl rfl _ _ rfl rfl (N1.start X (Below.refl _ _) hs.mv.hold).drew ?_
      simp only [opsAt, List.getElem?_cons_zero, List.getElem?_cons_succ, List.drop_succ_cons, List.drop_zero]
      repeat (first | (refine do_loadIA rfl _ rfl _ _ rfl (.int .i64 64969) (fun D u hS => by rw [cell_of_row u _ _ _ _ _ (blk_keep ho hS.bel)]; rfl) ?_; simp only [Act.put, List.setIfInBounds_toArray, List.set_cons_zero, List.set_cons_succ]) | (refine do_loadA rfl _ rfl _ rfl d (fun D u hS => hS.hold (B1, d) (by first | exact List.mem_cons_self | exact List.mem_cons_of_mem _ List.mem_cons_self | exact List.mem_cons_of_mem _ (List.mem_cons_of_mem _ List.mem_cons_self) | exact List.mem_cons_of_mem _ (List.mem_cons_of_mem _ (List.mem_cons_of_mem _ List.mem_cons_self)) | exact List.mem_cons_of_mem _ (List.mem_cons_of_mem _ (List.mem_cons_of_mem _ (List.mem_cons_of_mem _ List.mem_cons_self))))) ?_; simp only [Act.put, List.setIfInBounds_toArray, List.set_cons_zero, List.set_cons_succ]) | (refine wpDA_pure (v := ?_) rfl (fun u => ?_) ?_; rotate_left; (focus (go_simp; (try with_reducible rfl); done)); simp only [Act.put, List.setIfInBounds_toArray, List.set_cons_zero, List.set_cons_succ]))
      (refine wpDA_call (v := .tuple #[.agg (cells X), .int .i64 0]) rfl 42 ?_ (fun u => ?_) (fun D u hS => ?_) ?_; rotate_left 1; (focus (go_simp; (try with_reducible rfl); done)); (focus (refine (HUN.out _).mono ?_; rintro e u2 ⟨rfl, hb⟩; exact ⟨rfl, hS.below hb⟩)); simp only [Act.put, List.setIfInBounds_toArray, List.set_cons_zero, List.set_cons_succ])
      repeat (refine wpDA_pure (v := ?_) rfl (fun u => ?_) ?_; rotate_left; (focus (go_simp; (try with_reducible rfl); done)); simp only [Act.put, List.setIfInBounds_toArray, List.set_cons_zero, List.set_cons_succ])
      refine wpDA_nil (fun x1 => ⟨rfl, rfl, fun wx hx => ?_⟩)
      unfold ptr
      simp only [Act.put, List.setIfInBounds_toArray, List.set_cons_zero, List.set_cons_succ]
      replace hs := hs.after1 hx
      replace ho := blk_keep ho hs.2
      replace hs := hs.1
      clear hx
      have hEX := eqv (rfl : X = X)
      go_wp2_with (first | ((with_reducible refine load_vec_g ?_ _ rfl _ rfl _ (MV.at hs.mv (by first | exact List.mem_cons_self | exact List.mem_cons_of_mem _ List.mem_cons_self | exact List.mem_cons_of_mem _ (List.mem_cons_of_mem _ List.mem_cons_self) | exact List.mem_cons_of_mem _ (List.mem_cons_of_mem _ (List.mem_cons_of_mem _ List.mem_cons_self)) | exact List.mem_cons_of_mem _ (List.mem_cons_of_mem _ (List.mem_cons_of_mem _ (List.mem_cons_of_mem _ List.mem_cons_self))))) ?_); (focus rfl)))
      go_roundw
      case rel => first | exact ⟨6, by decide, rfl, hs.pop.pop, ho⟩ | ((repeat apply Exists.intro); exact ⟨⟨6, by decide, rfl, hs.pop.pop, ho⟩, rfl⟩)
      case measure => (simp [intOf] <;> omega)
    · clear ho
      go_wp2_with fail
      go_loopw [19] (fun kv wr => ∃ z : Int, (z = 0 ∨ z = 1 ∨ z = 2 ∨ z = 3 ∨ z = 4) ∧ kv = .int .i64 z ∧ PV w o1 [(B1, d), (B0, old)] D x60 x77 wr) (fun kv _ => (4 - intOf kv).toNat)
      case atStart => exact ⟨0, .inl rfl, rfl, hs⟩
      case round =>
        clear hs
        obtain ⟨z, hz, rfl, hs⟩ := hrel
        rcases hz with rfl | rfl | rfl | rfl | rfl
        · as_aux_lemma =>
          obtain ⟨I, hI, hI2⟩ : ∃ I : Nat, (L : Int) % 16 = (I : Int) ∧ I < 16 := ⟨L % 16, by omega, by omega⟩
          have h0 := hs
          obtain ⟨w1, hw1⟩ : ∃ w1, w1 = wr := ⟨_, rfl⟩
          have hbz : Below w1.heap.size w1 wr := hw1 ▸ Below.refl _ _
          rw [← hw1] at h0
          have H0 := Lib.hid h0
          have HW1 := Lib.hid hw1
          clear h0 hw1
          have hlt : loadN o1.β A 1 < 2 ^ (8 * 1) := loadN_lt o1.β A 1 (fun i hi => hs.mv.mem.row.lt _ (by rw [hn1]; omega))
          go_wp2_with fail
          refine (load_1 o1 _ hs.mv.mem A (by rw [hn1]; omega)).mono ?_
          rintro e u5 ⟨rfl, h5⟩
          obtain rfl := h5.symm
          clear h5
          obtain ⟨N, hN⟩ : ∃ N, N = loadN o1.β A 1 := ⟨_, rfl⟩
          rw [← hN] at hlt ⊢
          have HN := Lib.hid hN
          have HLT := Lib.hid hlt
          clear hN hlt
          go_wp2_with (first | (with_reducible refine load_vec rfl _ rfl _ rfl _ (MV.at hs.mv (by first | exact List.mem_cons_self | exact List.mem_cons_of_mem _ List.mem_cons_self | exact List.mem_cons_of_mem _ (List.mem_cons_of_mem _ List.mem_cons_self) | exact List.mem_cons_of_mem _ (List.mem_cons_of_mem _ (List.mem_cons_of_mem _ List.mem_cons_self)) | exact List.mem_cons_of_mem _ (List.mem_cons_of_mem _ (List.mem_cons_of_mem _ (List.mem_cons_of_mem _ List.mem_cons_self))))) ?_))
          refine (vload_07 o1 old 0 0 0 0 (A : Int) (.slice none 0 0) A _ hs.mv.mem ⟨by omega, by omega⟩ (by decide) (by omega) (by rw [hn1]; omega)).mono ?_
          rintro e u6 ⟨rfl, hb⟩
          rw [← HN.out]
          obtain ⟨X1, hX1⟩ : ∃ X, X = buildOn 0 8 (fun _ => N) 16 := ⟨_, rfl⟩
          rw [← hX1]
          have HX1 := Lib.hid hX1
          clear hX1
          replace hs := hs.below hb
          replace hbz := hbz.trans (hb.mono hbz.size)
          clear hb
          have HSZ := Lib.hid hbz.size
          go_wp2_with (first | ((with_reducible refine store_vec rfl _ _ rfl _ _ rfl rfl 0 (heap_new_zero _) ?_); intro wA hA; replace hbz := hbz.trans ((((Below.refl _ _).alloc (Nat.le_refl _) _).trans hA.below).mono hbz.size); replace hs := hs.push hA; clear hA))
          refine (splat_8 N _).mono ?_
          rintro e u7 ⟨rfl, hb⟩
          rw [← HX1.out]
          replace hs := hs.below hb
          replace hbz := hbz.trans (hb.mono hbz.size)
          clear hb HX1
          go_wp2_with (first | ((with_reducible refine store_vec rfl _ _ rfl _ _ rfl rfl 0 (heap_new_zero _) ?_); intro wA hA; replace hbz := hbz.trans ((((Below.refl _ _).alloc (Nat.le_refl _) _).trans hA.below).mono hbz.size); replace hs := hs.push hA; clear hA) | (with_reducible refine load_vec rfl _ rfl _ rfl _ (MV.at hs.mv (by first | exact List.mem_cons_self | exact List.mem_cons_of_mem _ List.mem_cons_self | exact List.mem_cons_of_mem _ (List.mem_cons_of_mem _ List.mem_cons_self) | exact List.mem_cons_of_mem _ (List.mem_cons_of_mem _ (List.mem_cons_of_mem _ List.mem_cons_self)) | exact List.mem_cons_of_mem _ (List.mem_cons_of_mem _ (List.mem_cons_of_mem _ (List.mem_cons_of_mem _ List.mem_cons_self))))) ?_))
          refine (vload_54 o1 old 0 0 I 0 (A : Int) (.slice none 0 0) A _ hs.mv.mem ⟨by omega, by omega⟩ (by decide) (by omega) hI2 (by rw [hn1]; omega)).mono ?_
          rintro e u8 ⟨rfl, hb⟩
          rw [← HN.out]
          replace hs := hs.below hb
          replace hbz := hbz.trans (hb.mono hbz.size)
          clear hb
          have hE1 := eqv (rfl : X1 = X1)
          have hE2 := eqv (rfl : setN old 8 I N = setN old 8 I N)
          go_wp2_with (first | ((with_reducible refine store_vec rfl _ _ rfl _ _ rfl rfl 0 (heap_new_zero _) ?_); intro wA hA; replace hbz := hbz.trans ((((Below.refl _ _).alloc (Nat.le_refl _) _).trans hA.below).mono hbz.size); replace hs := hs.push hA; clear hA))
          refine region_do (PW w o1 _ D x60 x77 w1) 22 (by kernel_rfl) (by kernel_rfl) (PW.drew ⟨hs, hbz⟩) ?_
          simp only [List.take_succ_cons, List.take_zero, List.drop_succ_cons, List.drop_zero]
          repeat (first | (refine do_loadg rfl _ rfl _ rfl _ (fun u hS => MV.at hS.1.mv (by first | exact List.mem_cons_self | exact List.mem_cons_of_mem _ List.mem_cons_self | exact List.mem_cons_of_mem _ (List.mem_cons_of_mem _ List.mem_cons_self) | exact List.mem_cons_of_mem _ (List.mem_cons_of_mem _ (List.mem_cons_of_mem _ List.mem_cons_self)) | exact List.mem_cons_of_mem _ (List.mem_cons_of_mem _ (List.mem_cons_of_mem _ (List.mem_cons_of_mem _ List.mem_cons_self))))) ?_; simp only [Act.put, List.setIfInBounds_toArray, List.set_cons_zero, List.set_cons_succ]) | (refine wpD_pure (v := ?_) rfl (fun u => ?_) ?_; rotate_left; (focus (go_simp; (try with_reducible rfl); done)); simp only [Act.put, List.setIfInBounds_toArray, List.set_cons_zero, List.set_cons_succ]) | (refine wpD_pureg (v := ?_) rfl (fun u => ?_) ?_; rotate_left; (focus (go_simp; (try with_reducible rfl); done)); simp only [Act.put, List.setIfInBounds_toArray, List.set_cons_zero, List.set_cons_succ]))
          (refine wpD_callg (v := .agg (cells (setN old 8 I N))) rfl 31 ?_ (fun u => ?_) (fun u hS => ?_) ?_; rotate_left 1; (focus (go_simp; (try with_reducible rfl); done)); (focus (refine (set8z old _ _ I N _ rfl rfl hI2).mono ?_; rintro e u2 ⟨rfl, hb⟩; exact ⟨rfl, hS.below hb⟩)); simp only [Act.put, List.setIfInBounds_toArray, List.set_cons_zero, List.set_cons_succ])
          refine wpD_nil (fun wq hq => ?_)
          obtain ⟨hs, hbz⟩ := hq
          go_wp2_with fail
          go_roundw
          case rel => first | exact ⟨1, by decide, rfl, hs.pop.pop.pop⟩ | ((repeat apply Exists.intro); exact ⟨⟨1, by decide, rfl, hs.pop.pop.pop⟩, rfl⟩)
          case measure => (simp [intOf] <;> omega)
        · as_aux_lemma =>
          obtain ⟨I, hI, hI2⟩ : ∃ I : Nat, (L : Int) % 8 = (I : Int) ∧ I < 8 := ⟨L % 8, by omega, by omega⟩
          have h0 := hs
          obtain ⟨w1, hw1⟩ : ∃ w1, w1 = wr := ⟨_, rfl⟩
          have hbz : Below w1.heap.size w1 wr := hw1 ▸ Below.refl _ _
          rw [← hw1] at h0
          have H0 := Lib.hid h0
          have HW1 := Lib.hid hw1
          clear h0 hw1
          have hlt : loadN o1.β A 2 < 2 ^ (8 * 2) := loadN_lt o1.β A 2 (fun i hi => hs.mv.mem.row.lt _ (by rw [hn1]; omega))
          go_wp2_with fail
          refine (load_2 o1 _ hs.mv.mem A (by rw [hn1]; omega)).mono ?_
          rintro e u5 ⟨rfl, h5⟩
          obtain rfl := h5.symm
          clear h5
          obtain ⟨N, hN⟩ : ∃ N, N = loadN o1.β A 2 := ⟨_, rfl⟩
          rw [← hN] at hlt ⊢
          have HN := Lib.hid hN
          have HLT := Lib.hid hlt
          clear hN hlt
          go_wp2_with (first | (with_reducible refine load_vec rfl _ rfl _ rfl _ (MV.at hs.mv (by first | exact List.mem_cons_self | exact List.mem_cons_of_mem _ List.mem_cons_self | exact List.mem_cons_of_mem _ (List.mem_cons_of_mem _ List.mem_cons_self) | exact List.mem_cons_of_mem _ (List.mem_cons_of_mem _ (List.mem_cons_of_mem _ List.mem_cons_self)) | exact List.mem_cons_of_mem _ (List.mem_cons_of_mem _ (List.mem_cons_of_mem _ (List.mem_cons_of_mem _ List.mem_cons_self))))) ?_))
          refine (vload_08 o1 old 0 0 0 0 (A : Int) (.slice none 0 0) A _ hs.mv.mem ⟨by omega, by omega⟩ (by decide) (by omega) (by rw [hn1]; omega)).mono ?_
          rintro e u6 ⟨rfl, hb⟩
          rw [← HN.out]
          obtain ⟨X1, hX1⟩ : ∃ X, X = buildOn 0 16 (fun _ => N) 8 := ⟨_, rfl⟩
          rw [← hX1]
          have HX1 := Lib.hid hX1
          clear hX1
          replace hs := hs.below hb
          replace hbz := hbz.trans (hb.mono hbz.size)
          clear hb
          have HSZ := Lib.hid hbz.size
          go_wp2_with (first | ((with_reducible refine store_vec rfl _ _ rfl _ _ rfl rfl 0 (heap_new_zero _) ?_); intro wA hA; replace hbz := hbz.trans ((((Below.refl _ _).alloc (Nat.le_refl _) _).trans hA.below).mono hbz.size); replace hs := hs.push hA; clear hA))
          refine (splat_16 N _).mono ?_
          rintro e u7 ⟨rfl, hb⟩
          rw [← HX1.out]
          replace hs := hs.below hb
          replace hbz := hbz.trans (hb.mono hbz.size)
          clear hb HX1
          go_wp2_with (first | ((with_reducible refine store_vec rfl _ _ rfl _ _ rfl rfl 0 (heap_new_zero _) ?_); intro wA hA; replace hbz := hbz.trans ((((Below.refl _ _).alloc (Nat.le_refl _) _).trans hA.below).mono hbz.size); replace hs := hs.push hA; clear hA) | (with_reducible refine load_vec rfl _ rfl _ rfl _ (MV.at hs.mv (by first | exact List.mem_cons_self | exact List.mem_cons_of_mem _ List.mem_cons_self | exact List.mem_cons_of_mem _ (List.mem_cons_of_mem _ List.mem_cons_self) | exact List.mem_cons_of_mem _ (List.mem_cons_of_mem _ (List.mem_cons_of_mem _ List.mem_cons_self)) | exact List.mem_cons_of_mem _ (List.mem_cons_of_mem _ (List.mem_cons_of_mem _ (List.mem_cons_of_mem _ List.mem_cons_self))))) ?_))
          refine (vload_55 o1 old 0 0 I 0 (A : Int) (.slice none 0 0) A _ hs.mv.mem ⟨by omega, by omega⟩ (by decide) (by omega) hI2 (by rw [hn1]; omega)).mono ?_
          rintro e u8 ⟨rfl, hb⟩
          rw [← HN.out]
          replace hs := hs.below hb
          replace hbz := hbz.trans (hb.mono hbz.size)
          clear hb
          have hE1 := eqv (rfl : X1 = X1)
          have hE2 := eqv (rfl : setN old 16 I N = setN old 16 I N)
          go_wp2_with (first | ((with_reducible refine store_vec rfl _ _ rfl _ _ rfl rfl 0 (heap_new_zero _) ?_); intro wA hA; replace hbz := hbz.trans ((((Below.refl _ _).alloc (Nat.le_refl _) _).trans hA.below).mono hbz.size); replace hs := hs.push hA; clear hA))
          refine region_do (PW w o1 _ D x60 x77 w1) 22 (by kernel_rfl) (by kernel_rfl) (PW.drew ⟨hs, hbz⟩) ?_
          simp only [List.take_succ_cons, List.take_zero, List.drop_succ_cons, List.drop_zero]
          repeat (first | (refine do_loadg rfl _ rfl _ rfl _ (fun u hS => MV.at hS.1.mv (by first | exact List.mem_cons_self | exact List.mem_cons_of_mem _ List.mem_cons_self | exact List.mem_cons_of_mem _ (List.mem_cons_of_mem _ List.mem_cons_self) | exact List.mem_cons_of_mem _ (List.mem_cons_of_mem _ (List.mem_cons_of_mem _ List.mem_cons_self)) | exact List.mem_cons_of_mem _ (List.mem_cons_of_mem _ (List.mem_cons_of_mem _ (List.mem_cons_of_mem _ List.mem_cons_self))))) ?_; simp only [Act.put, List.setIfInBounds_toArray, List.set_cons_zero, List.set_cons_succ]) | (refine wpD_pure (v := ?_) rfl (fun u => ?_) ?_; rotate_left; (focus (go_simp; (try with_reducible rfl); done)); simp only [Act.put, List.setIfInBounds_toArray, List.set_cons_zero, List.set_cons_succ]) | (refine wpD_pureg (v := ?_) rfl (fun u => ?_) ?_; rotate_left; (focus (go_simp; (try with_reducible rfl); done)); simp only [Act.put, List.setIfInBounds_toArray, List.set_cons_zero, List.set_cons_succ]))
          (refine wpD_callg (v := .agg (cells (setN old 16 I N))) rfl 31 ?_ (fun u => ?_) (fun u hS => ?_) ?_; rotate_left 1; (focus (go_simp; (try with_reducible rfl); done)); (focus (refine (set16z old _ _ I N _ rfl rfl hI2).mono ?_; rintro e u2 ⟨rfl, hb⟩; exact ⟨rfl, hS.below hb⟩)); simp only [Act.put, List.setIfInBounds_toArray, List.set_cons_zero, List.set_cons_succ])
          refine wpD_nil (fun wq hq => ?_)
          obtain ⟨hs, hbz⟩ := hq
          go_wp2_with fail
          go_roundw
          case rel => first | exact ⟨2, by decide, rfl, hs.pop.pop.pop⟩ | ((repeat apply Exists.intro); exact ⟨⟨2, by decide, rfl, hs.pop.pop.pop⟩, rfl⟩)
          case measure => (simp [intOf] <;> omega)
        · as_aux_lemma =>
          obtain ⟨I, hI, hI2⟩ : ∃ I : Nat, (L : Int) % 4 = (I : Int) ∧ I < 4 := ⟨L % 4, by omega, by omega⟩
          have h0 := hs
          obtain ⟨w1, hw1⟩ : ∃ w1, w1 = wr := ⟨_, rfl⟩
          have hbz : Below w1.heap.size w1 wr := hw1 ▸ Below.refl _ _
          rw [← hw1] at h0
          have H0 := Lib.hid h0
          have HW1 := Lib.hid hw1
          clear h0 hw1
          have hlt : loadN o1.β A 4 < 2 ^ (8 * 4) := loadN_lt o1.β A 4 (fun i hi => hs.mv.mem.row.lt _ (by rw [hn1]; omega))
          go_wp2_with fail
          refine (load_4 o1 _ hs.mv.mem A (by rw [hn1]; omega)).mono ?_
          rintro e u5 ⟨rfl, h5⟩
          obtain rfl := h5.symm
          clear h5
          obtain ⟨N, hN⟩ : ∃ N, N = loadN o1.β A 4 := ⟨_, rfl⟩
          rw [← hN] at hlt ⊢
          have HN := Lib.hid hN
          have HLT := Lib.hid hlt
          clear hN hlt
          go_wp2_with (first | (with_reducible refine load_vec rfl _ rfl _ rfl _ (MV.at hs.mv (by first | exact List.mem_cons_self | exact List.mem_cons_of_mem _ List.mem_cons_self | exact List.mem_cons_of_mem _ (List.mem_cons_of_mem _ List.mem_cons_self) | exact List.mem_cons_of_mem _ (List.mem_cons_of_mem _ (List.mem_cons_of_mem _ List.mem_cons_self)) | exact List.mem_cons_of_mem _ (List.mem_cons_of_mem _ (List.mem_cons_of_mem _ (List.mem_cons_of_mem _ List.mem_cons_self))))) ?_))
          refine (vload_09 o1 old 0 0 0 0 (A : Int) (.slice none 0 0) A _ hs.mv.mem ⟨by omega, by omega⟩ (by decide) (by omega) (by rw [hn1]; omega)).mono ?_
          rintro e u6 ⟨rfl, hb⟩
          rw [← HN.out]
          obtain ⟨X1, hX1⟩ : ∃ X, X = buildOn 0 32 (fun _ => N) 4 := ⟨_, rfl⟩
          rw [← hX1]
          have HX1 := Lib.hid hX1
          clear hX1
          replace hs := hs.below hb
          replace hbz := hbz.trans (hb.mono hbz.size)
          clear hb
          have HSZ := Lib.hid hbz.size
          go_wp2_with (first | ((with_reducible refine store_vec rfl _ _ rfl _ _ rfl rfl 0 (heap_new_zero _) ?_); intro wA hA; replace hbz := hbz.trans ((((Below.refl _ _).alloc (Nat.le_refl _) _).trans hA.below).mono hbz.size); replace hs := hs.push hA; clear hA))
          refine (splat_32 N _).mono ?_
          rintro e u7 ⟨rfl, hb⟩
          rw [← HX1.out]
          replace hs := hs.below hb
          replace hbz := hbz.trans (hb.mono hbz.size)
          clear hb HX1
          go_wp2_with (first | ((with_reducible refine store_vec rfl _ _ rfl _ _ rfl rfl 0 (heap_new_zero _) ?_); intro wA hA; replace hbz := hbz.trans ((((Below.refl _ _).alloc (Nat.le_refl _) _).trans hA.below).mono hbz.size); replace hs := hs.push hA; clear hA) | (with_reducible refine load_vec rfl _ rfl _ rfl _ (MV.at hs.mv (by first | exact List.mem_cons_self | exact List.mem_cons_of_mem _ List.mem_cons_self | exact List.mem_cons_of_mem _ (List.mem_cons_of_mem _ List.mem_cons_self) | exact List.mem_cons_of_mem _ (List.mem_cons_of_mem _ (List.mem_cons_of_mem _ List.mem_cons_self)) | exact List.mem_cons_of_mem _ (List.mem_cons_of_mem _ (List.mem_cons_of_mem _ (List.mem_cons_of_mem _ List.mem_cons_self))))) ?_))
          refine (vload_56 o1 old 0 0 I 0 (A : Int) (.slice none 0 0) A _ hs.mv.mem ⟨by omega, by omega⟩ (by decide) (by omega) hI2 (by rw [hn1]; omega)).mono ?_
          rintro e u8 ⟨rfl, hb⟩
          rw [← HN.out]
          replace hs := hs.below hb
          replace hbz := hbz.trans (hb.mono hbz.size)
          clear hb
          have hE1 := eqv (rfl : X1 = X1)
          have hE2 := eqv (rfl : setN old 32 I N = setN old 32 I N)
          go_wp2_with (first | ((with_reducible refine store_vec rfl _ _ rfl _ _ rfl rfl 0 (heap_new_zero _) ?_); intro wA hA; replace hbz := hbz.trans ((((Below.refl _ _).alloc (Nat.le_refl _) _).trans hA.below).mono hbz.size); replace hs := hs.push hA; clear hA))
          refine region_do (PW w o1 _ D x60 x77 w1) 22 (by kernel_rfl) (by kernel_rfl) (PW.drew ⟨hs, hbz⟩) ?_
          simp only [List.take_succ_cons, List.take_zero, List.drop_succ_cons, List.drop_zero]
          repeat (first | (refine do_loadg rfl _ rfl _ rfl _ (fun u hS => MV.at hS.1.mv (by first | exact List.mem_cons_self | exact List.mem_cons_of_mem _ List.mem_cons_self | exact List.mem_cons_of_mem _ (List.mem_cons_of_mem _ List.mem_cons_self) | exact List.mem_cons_of_mem _ (List.mem_cons_of_mem _ (List.mem_cons_of_mem _ List.mem_cons_self)) | exact List.mem_cons_of_mem _ (List.mem_cons_of_mem _ (List.mem_cons_of_mem _ (List.mem_cons_of_mem _ List.mem_cons_self))))) ?_; simp only [Act.put, List.setIfInBounds_toArray, List.set_cons_zero, List.set_cons_succ]) | (refine wpD_pure (v := ?_) rfl (fun u => ?_) ?_; rotate_left; (focus (go_simp; (try with_reducible rfl); done)); simp only [Act.put, List.setIfInBounds_toArray, List.set_cons_zero, List.set_cons_succ]) | (refine wpD_pureg (v := ?_) rfl (fun u => ?_) ?_; rotate_left; (focus (go_simp; (try with_reducible rfl); done)); simp only [Act.put, List.setIfInBounds_toArray, List.set_cons_zero, List.set_cons_succ]))
          (refine wpD_callg (v := .agg (cells (setN old 32 I N))) rfl 31 ?_ (fun u => ?_) (fun u hS => ?_) ?_; rotate_left 1; (focus (go_simp; (try with_reducible rfl); done)); (focus (refine (set32z old _ _ I N _ rfl rfl hI2).mono ?_; rintro e u2 ⟨rfl, hb⟩; exact ⟨rfl, hS.below hb⟩)); simp only [Act.put, List.setIfInBounds_toArray, List.set_cons_zero, List.set_cons_succ])
          refine wpD_nil (fun wq hq => ?_)
          obtain ⟨hs, hbz⟩ := hq
          go_wp2_with (first | (with_reducible refine load_vec rfl _ rfl _ rfl _ (MV.at hs.mv (by first | exact List.mem_cons_self | exact List.mem_cons_of_mem _ List.mem_cons_self | exact List.mem_cons_of_mem _ (List.mem_cons_of_mem _ List.mem_cons_self) | exact List.mem_cons_of_mem _ (List.mem_cons_of_mem _ (List.mem_cons_of_mem _ List.mem_cons_self)) | exact List.mem_cons_of_mem _ (List.mem_cons_of_mem _ (List.mem_cons_of_mem _ (List.mem_cons_of_mem _ List.mem_cons_self))))) ?_))
          refine (vload_5c o1 old 0 0 0 0 (A : Int) (.slice none 0 0) A _ hs.mv.mem ⟨by omega, by omega⟩ (by decide) (by omega) (by rw [hn1]; omega)).mono ?_
          rintro e u9 ⟨rfl, hb⟩
          rw [← HN.out]
          replace hs := hs.below hb
          replace hbz := hbz.trans (hb.mono hbz.size)
          clear hb
          rw [one_32 N HLT.out]
          obtain ⟨Z, hZ⟩ : ∃ Z, Z = buildOn 0 32 (fun i => [N].getD i 0) 1 := ⟨_, rfl⟩
          rw [← hZ]
          have OF : ∀ (c : Nat) (W : World) (b : Nat) (fr : Nat × Nat) (t : TypeId) (hc : 1 ≤ c) (hb : W.heap[b]? = some (.cells #[.int .u64 (N : Nat)] t fr)), Calls Try.prog 30 #[.int .i64 32, .slice (some ⟨b, 0, none⟩) 1 c] W fun e w' => e = .returned (.agg (cells Z)) ∧ Below W.heap.size W w' := fun c W b fr t hc hb => hZ ▸ of_n32 N c W b fr t hc hb
          have HOF := Lib.hid OF
          clear OF hZ
          have hE3 := equal_vec Z Z
          simp only [decide_true] at hE3
          go_wp2_with ((with_reducible refine store_vec rfl _ _ rfl _ _ rfl rfl X1 (MV.at hs.mv (by first | exact List.mem_cons_self | exact List.mem_cons_of_mem _ List.mem_cons_self | exact List.mem_cons_of_mem _ (List.mem_cons_of_mem _ List.mem_cons_self) | exact List.mem_cons_of_mem _ (List.mem_cons_of_mem _ (List.mem_cons_of_mem _ List.mem_cons_self)) | exact List.mem_cons_of_mem _ (List.mem_cons_of_mem _ (List.mem_cons_of_mem _ (List.mem_cons_of_mem _ List.mem_cons_self))))) ?_); intro wA hA)
          replace hs := H0.out.sets hbz HSZ.out hA
          clear hA hbz hE1 hE2
          refine wp_region_held_drew (S := PV w o1 _ D x60 x77) (by kernel_rfl) hs.drew (fun hHeld => ?_)
          (refine held_take (i := 0) (v := ?_) rfl (by kernel_rfl) (by kernel_rfl) (by kernel_rfl) (fun _ _ _ h => h) (Or.inl ⟨rfl, fun u hu => ?_⟩) hHeld ?_; rotate_left; (focus (go_simp; (try with_reducible rfl); done)); (try simp only [Act.put]); (try simp only [List.setIfInBounds_toArray]); (try simp only [List.set_cons_succ]); (try simp only [List.set_cons_zero]))
          (refine held_take (i := 1) (v := ?_) rfl (by kernel_rfl) (by kernel_rfl) (by kernel_rfl) (fun _ _ _ h => h) (Or.inl ⟨rfl, fun u hu => ?_⟩) hHeld ?_; rotate_left; (focus (go_simp; (try with_reducible rfl); done)); (try simp only [Act.put]); (try simp only [List.setIfInBounds_toArray]); (try simp only [List.set_cons_succ]); (try simp only [List.set_cons_zero]))
          (refine held_take (i := 2) (v := ?_) rfl (by kernel_rfl) (by kernel_rfl) (by kernel_rfl) (fun _ _ _ h => h) (Or.inl ⟨rfl, fun u hu => ?_⟩) hHeld ?_; rotate_left; (focus (go_simp; (try with_reducible rfl); done)); (try simp only [Act.put]); (try simp only [List.setIfInBounds_toArray]); (try simp only [List.set_cons_succ]); (try simp only [List.set_cons_zero]))
          (refine held_take (i := 3) (v := .agg (cells Z)) rfl (by kernel_rfl) (by kernel_rfl) (by kernel_rfl) (fun _ _ _ h => h) (Or.inl ⟨rfl, fun u hu => load_run _ rfl _ rfl Z (MV.at hu.mv (by first | exact List.mem_cons_self | exact List.mem_cons_of_mem _ List.mem_cons_self | exact List.mem_cons_of_mem _ (List.mem_cons_of_mem _ List.mem_cons_self) | exact List.mem_cons_of_mem _ (List.mem_cons_of_mem _ (List.mem_cons_of_mem _ List.mem_cons_self)) | exact List.mem_cons_of_mem _ (List.mem_cons_of_mem _ (List.mem_cons_of_mem _ (List.mem_cons_of_mem _ List.mem_cons_self)))))⟩) hHeld ?_; (try simp only [Act.put]); (try simp only [List.setIfInBounds_toArray]); (try simp only [List.set_cons_succ]); (try simp only [List.set_cons_zero]))
          (refine held_take (i := 4) (v := ?_) rfl (by kernel_rfl) (by kernel_rfl) (by kernel_rfl) (fun _ _ _ h => h) (Or.inl ⟨rfl, fun u hu => ?_⟩) hHeld ?_; rotate_left; (focus (go_simp; (try with_reducible rfl); done)); (try simp only [Act.put]); (try simp only [List.setIfInBounds_toArray]); (try simp only [List.set_cons_succ]); (try simp only [List.set_cons_zero]))
          (refine held_take (i := 5) (v := ?_) rfl (by kernel_rfl) (by kernel_rfl) (by kernel_rfl) (fun _ _ _ h => h) (Or.inl ⟨rfl, fun u hu => ?_⟩) hHeld ?_; rotate_left; (focus (go_simp; (try with_reducible rfl); done)); (try simp only [Act.put]); (try simp only [List.setIfInBounds_toArray]); (try simp only [List.set_cons_succ]); (try simp only [List.set_cons_zero]))
          refine held_step 6 (by kernel_rfl) rfl (fun K hK => ?_)
          go_simp
          refine hK.out _ _ (hHeld.alloc _) (fun hHeld => ?_)
          clear hK K
          (try simp only [Act.put]); (try simp only [List.setIfInBounds_toArray]); (try simp only [List.set_cons_succ]); (try simp only [List.set_cons_zero])
          refine held_step 7 (by kernel_rfl) rfl (fun K hK => ?_)
          go_simp; go_at_call 30; refine (HOF.out _ _ _ _ _ (Nat.le_refl _) (heap_new_drew _ _)).mono ?_; rintro e w6 ⟨rfl, hb6⟩; go_wp2_with fail
          refine hK.out _ _ (hHeld.below hb6) (fun hHeld => ?_)
          clear hK K
          (try simp only [Act.put]); (try simp only [List.setIfInBounds_toArray]); (try simp only [List.set_cons_succ]); (try simp only [List.set_cons_zero])
          (refine held_take (i := 8) (v := ?_) rfl (by kernel_rfl) (by kernel_rfl) (by kernel_rfl) (fun _ _ _ h => h) (Or.inl ⟨rfl, fun u hu => ?_⟩) hHeld ?_; rotate_left; (focus (go_simp; (try with_reducible rfl); done)); (try simp only [Act.put]); (try simp only [List.setIfInBounds_toArray]); (try simp only [List.set_cons_succ]); (try simp only [List.set_cons_zero]))
          (refine held_take (i := 9) (v := ?_) rfl (by kernel_rfl) (by kernel_rfl) (by kernel_rfl) (fun _ _ _ h => h) (Or.inl ⟨rfl, fun u hu => ?_⟩) hHeld ?_; rotate_left; (focus (go_simp; (try with_reducible rfl); done)); (try simp only [Act.put]); (try simp only [List.setIfInBounds_toArray]); (try simp only [List.set_cons_succ]); (try simp only [List.set_cons_zero]))
          refine wpAnyH_done (by kernel_rfl) ?_ _
          go_wp2_with fail
          go_roundw
          case rel => first | exact ⟨3, by decide, rfl, hHeld.pop⟩ | ((repeat apply Exists.intro); exact ⟨⟨3, by decide, rfl, hHeld.pop⟩, rfl⟩)
          case measure => (simp [intOf] <;> omega)
        · as_aux_lemma =>
          obtain ⟨I, hI, hI2⟩ : ∃ I : Nat, (L : Int) % 2 = (I : Int) ∧ I < 2 := ⟨L % 2, by omega, by omega⟩
          have h0 := hs
          obtain ⟨w1, hw1⟩ : ∃ w1, w1 = wr := ⟨_, rfl⟩
          have hbz : Below w1.heap.size w1 wr := hw1 ▸ Below.refl _ _
          rw [← hw1] at h0
          have H0 := Lib.hid h0
          have HW1 := Lib.hid hw1
          clear h0 hw1
          have hlt : loadN o1.β A 8 < 2 ^ (8 * 8) := loadN_lt o1.β A 8 (fun i hi => hs.mv.mem.row.lt _ (by rw [hn1]; omega))
          go_wp2_with fail
          refine (load_8 o1 _ hs.mv.mem A (by rw [hn1]; omega)).mono ?_
          rintro e u5 ⟨rfl, h5⟩
          obtain rfl := h5.symm
          clear h5
          obtain ⟨N, hN⟩ : ∃ N, N = loadN o1.β A 8 := ⟨_, rfl⟩
          rw [← hN] at hlt ⊢
          have HN := Lib.hid hN
          have HLT := Lib.hid hlt
          clear hN hlt
          go_wp2_with (first | (with_reducible refine load_vec rfl _ rfl _ rfl _ (MV.at hs.mv (by first | exact List.mem_cons_self | exact List.mem_cons_of_mem _ List.mem_cons_self | exact List.mem_cons_of_mem _ (List.mem_cons_of_mem _ List.mem_cons_self) | exact List.mem_cons_of_mem _ (List.mem_cons_of_mem _ (List.mem_cons_of_mem _ List.mem_cons_self)) | exact List.mem_cons_of_mem _ (List.mem_cons_of_mem _ (List.mem_cons_of_mem _ (List.mem_cons_of_mem _ List.mem_cons_self))))) ?_))
          refine (vload_0a o1 old 0 0 0 0 (A : Int) (.slice none 0 0) A _ hs.mv.mem ⟨by omega, by omega⟩ (by decide) (by omega) (by rw [hn1]; omega)).mono ?_
          rintro e u6 ⟨rfl, hb⟩
          rw [← HN.out]
          obtain ⟨X1, hX1⟩ : ∃ X, X = buildOn 0 64 (fun _ => N) 2 := ⟨_, rfl⟩
          rw [← hX1]
          have HX1 := Lib.hid hX1
          clear hX1
          replace hs := hs.below hb
          replace hbz := hbz.trans (hb.mono hbz.size)
          clear hb
          have HSZ := Lib.hid hbz.size
          go_wp2_with (first | ((with_reducible refine store_vec rfl _ _ rfl _ _ rfl rfl 0 (heap_new_zero _) ?_); intro wA hA; replace hbz := hbz.trans ((((Below.refl _ _).alloc (Nat.le_refl _) _).trans hA.below).mono hbz.size); replace hs := hs.push hA; clear hA))
          refine (splat_64 N _).mono ?_
          rintro e u7 ⟨rfl, hb⟩
          rw [← HX1.out]
          replace hs := hs.below hb
          replace hbz := hbz.trans (hb.mono hbz.size)
          clear hb HX1
          go_wp2_with (first | ((with_reducible refine store_vec rfl _ _ rfl _ _ rfl rfl 0 (heap_new_zero _) ?_); intro wA hA; replace hbz := hbz.trans ((((Below.refl _ _).alloc (Nat.le_refl _) _).trans hA.below).mono hbz.size); replace hs := hs.push hA; clear hA) | (with_reducible refine load_vec rfl _ rfl _ rfl _ (MV.at hs.mv (by first | exact List.mem_cons_self | exact List.mem_cons_of_mem _ List.mem_cons_self | exact List.mem_cons_of_mem _ (List.mem_cons_of_mem _ List.mem_cons_self) | exact List.mem_cons_of_mem _ (List.mem_cons_of_mem _ (List.mem_cons_of_mem _ List.mem_cons_self)) | exact List.mem_cons_of_mem _ (List.mem_cons_of_mem _ (List.mem_cons_of_mem _ (List.mem_cons_of_mem _ List.mem_cons_self))))) ?_))
          refine (vload_57 o1 old 0 0 I 0 (A : Int) (.slice none 0 0) A _ hs.mv.mem ⟨by omega, by omega⟩ (by decide) (by omega) hI2 (by rw [hn1]; omega)).mono ?_
          rintro e u8 ⟨rfl, hb⟩
          rw [← HN.out]
          replace hs := hs.below hb
          replace hbz := hbz.trans (hb.mono hbz.size)
          clear hb
          have hE1 := eqv (rfl : X1 = X1)
          have hE2 := eqv (rfl : setN old 64 I N = setN old 64 I N)
          go_wp2_with (first | ((with_reducible refine store_vec rfl _ _ rfl _ _ rfl rfl 0 (heap_new_zero _) ?_); intro wA hA; replace hbz := hbz.trans ((((Below.refl _ _).alloc (Nat.le_refl _) _).trans hA.below).mono hbz.size); replace hs := hs.push hA; clear hA))
          refine region_do (PW w o1 _ D x60 x77 w1) 22 (by kernel_rfl) (by kernel_rfl) (PW.drew ⟨hs, hbz⟩) ?_
          simp only [List.take_succ_cons, List.take_zero, List.drop_succ_cons, List.drop_zero]
          repeat (first | (refine do_loadg rfl _ rfl _ rfl _ (fun u hS => MV.at hS.1.mv (by first | exact List.mem_cons_self | exact List.mem_cons_of_mem _ List.mem_cons_self | exact List.mem_cons_of_mem _ (List.mem_cons_of_mem _ List.mem_cons_self) | exact List.mem_cons_of_mem _ (List.mem_cons_of_mem _ (List.mem_cons_of_mem _ List.mem_cons_self)) | exact List.mem_cons_of_mem _ (List.mem_cons_of_mem _ (List.mem_cons_of_mem _ (List.mem_cons_of_mem _ List.mem_cons_self))))) ?_; simp only [Act.put, List.setIfInBounds_toArray, List.set_cons_zero, List.set_cons_succ]) | (refine wpD_pure (v := ?_) rfl (fun u => ?_) ?_; rotate_left; (focus (go_simp; (try with_reducible rfl); done)); simp only [Act.put, List.setIfInBounds_toArray, List.set_cons_zero, List.set_cons_succ]) | (refine wpD_pureg (v := ?_) rfl (fun u => ?_) ?_; rotate_left; (focus (go_simp; (try with_reducible rfl); done)); simp only [Act.put, List.setIfInBounds_toArray, List.set_cons_zero, List.set_cons_succ]))
          (refine wpD_callg (v := .agg (cells (setN old 64 I N))) rfl 31 ?_ (fun u => ?_) (fun u hS => ?_) ?_; rotate_left 1; (focus (go_simp; (try with_reducible rfl); done)); (focus (refine (set64z old _ _ I N _ rfl rfl hI2).mono ?_; rintro e u2 ⟨rfl, hb⟩; exact ⟨rfl, hS.below hb⟩)); simp only [Act.put, List.setIfInBounds_toArray, List.set_cons_zero, List.set_cons_succ])
          refine wpD_nil (fun wq hq => ?_)
          obtain ⟨hs, hbz⟩ := hq
          go_wp2_with (first | (with_reducible refine load_vec rfl _ rfl _ rfl _ (MV.at hs.mv (by first | exact List.mem_cons_self | exact List.mem_cons_of_mem _ List.mem_cons_self | exact List.mem_cons_of_mem _ (List.mem_cons_of_mem _ List.mem_cons_self) | exact List.mem_cons_of_mem _ (List.mem_cons_of_mem _ (List.mem_cons_of_mem _ List.mem_cons_self)) | exact List.mem_cons_of_mem _ (List.mem_cons_of_mem _ (List.mem_cons_of_mem _ (List.mem_cons_of_mem _ List.mem_cons_self))))) ?_))
          refine (vload_5d o1 old 0 0 0 0 (A : Int) (.slice none 0 0) A _ hs.mv.mem ⟨by omega, by omega⟩ (by decide) (by omega) (by rw [hn1]; omega)).mono ?_
          rintro e u9 ⟨rfl, hb⟩
          rw [← HN.out]
          replace hs := hs.below hb
          replace hbz := hbz.trans (hb.mono hbz.size)
          clear hb
          skip
          obtain ⟨Z, hZ⟩ : ∃ Z, Z = buildOn 0 64 (fun i => [N].getD i 0) 1 := ⟨_, rfl⟩
          rw [← hZ]
          have OF : ∀ (c : Nat) (W : World) (b : Nat) (fr : Nat × Nat) (t : TypeId) (hc : 1 ≤ c) (hb : W.heap[b]? = some (.cells #[.int .u64 (N : Nat)] t fr)), Calls Try.prog 30 #[.int .i64 64, .slice (some ⟨b, 0, none⟩) 1 c] W fun e w' => e = .returned (.agg (cells Z)) ∧ Below W.heap.size W w' := fun c W b fr t hc hb => hZ ▸ of_n64 N c W b fr t hc hb
          have HOF := Lib.hid OF
          clear OF hZ
          have hE3 := equal_vec Z Z
          simp only [decide_true] at hE3
          go_wp2_with ((with_reducible refine store_vec rfl _ _ rfl _ _ rfl rfl X1 (MV.at hs.mv (by first | exact List.mem_cons_self | exact List.mem_cons_of_mem _ List.mem_cons_self | exact List.mem_cons_of_mem _ (List.mem_cons_of_mem _ List.mem_cons_self) | exact List.mem_cons_of_mem _ (List.mem_cons_of_mem _ (List.mem_cons_of_mem _ List.mem_cons_self)) | exact List.mem_cons_of_mem _ (List.mem_cons_of_mem _ (List.mem_cons_of_mem _ (List.mem_cons_of_mem _ List.mem_cons_self))))) ?_); intro wA hA)
          replace hs := H0.out.sets hbz HSZ.out hA
          clear hA hbz hE1 hE2
          refine wp_region_held_drew (S := PV w o1 _ D x60 x77) (by kernel_rfl) hs.drew (fun hHeld => ?_)
          (refine held_take (i := 0) (v := ?_) rfl (by kernel_rfl) (by kernel_rfl) (by kernel_rfl) (fun _ _ _ h => h) (Or.inl ⟨rfl, fun u hu => ?_⟩) hHeld ?_; rotate_left; (focus (go_simp; (try with_reducible rfl); done)); (try simp only [Act.put]); (try simp only [List.setIfInBounds_toArray]); (try simp only [List.set_cons_succ]); (try simp only [List.set_cons_zero]))
          (refine held_take (i := 1) (v := ?_) rfl (by kernel_rfl) (by kernel_rfl) (by kernel_rfl) (fun _ _ _ h => h) (Or.inl ⟨rfl, fun u hu => ?_⟩) hHeld ?_; rotate_left; (focus (go_simp; (try with_reducible rfl); done)); (try simp only [Act.put]); (try simp only [List.setIfInBounds_toArray]); (try simp only [List.set_cons_succ]); (try simp only [List.set_cons_zero]))
          (refine held_take (i := 2) (v := ?_) rfl (by kernel_rfl) (by kernel_rfl) (by kernel_rfl) (fun _ _ _ h => h) (Or.inl ⟨rfl, fun u hu => ?_⟩) hHeld ?_; rotate_left; (focus (go_simp; (try with_reducible rfl); done)); (try simp only [Act.put]); (try simp only [List.setIfInBounds_toArray]); (try simp only [List.set_cons_succ]); (try simp only [List.set_cons_zero]))
          (refine held_take (i := 3) (v := .agg (cells Z)) rfl (by kernel_rfl) (by kernel_rfl) (by kernel_rfl) (fun _ _ _ h => h) (Or.inl ⟨rfl, fun u hu => load_run _ rfl _ rfl Z (MV.at hu.mv (by first | exact List.mem_cons_self | exact List.mem_cons_of_mem _ List.mem_cons_self | exact List.mem_cons_of_mem _ (List.mem_cons_of_mem _ List.mem_cons_self) | exact List.mem_cons_of_mem _ (List.mem_cons_of_mem _ (List.mem_cons_of_mem _ List.mem_cons_self)) | exact List.mem_cons_of_mem _ (List.mem_cons_of_mem _ (List.mem_cons_of_mem _ (List.mem_cons_of_mem _ List.mem_cons_self)))))⟩) hHeld ?_; (try simp only [Act.put]); (try simp only [List.setIfInBounds_toArray]); (try simp only [List.set_cons_succ]); (try simp only [List.set_cons_zero]))
          (refine held_take (i := 4) (v := ?_) rfl (by kernel_rfl) (by kernel_rfl) (by kernel_rfl) (fun _ _ _ h => h) (Or.inl ⟨rfl, fun u hu => ?_⟩) hHeld ?_; rotate_left; (focus (go_simp; (try with_reducible rfl); done)); (try simp only [Act.put]); (try simp only [List.setIfInBounds_toArray]); (try simp only [List.set_cons_succ]); (try simp only [List.set_cons_zero]))
          (refine held_take (i := 5) (v := ?_) rfl (by kernel_rfl) (by kernel_rfl) (by kernel_rfl) (fun _ _ _ h => h) (Or.inl ⟨rfl, fun u hu => ?_⟩) hHeld ?_; rotate_left; (focus (go_simp; (try with_reducible rfl); done)); (try simp only [Act.put]); (try simp only [List.setIfInBounds_toArray]); (try simp only [List.set_cons_succ]); (try simp only [List.set_cons_zero]))
          refine held_step 6 (by kernel_rfl) rfl (fun K hK => ?_)
          go_simp
          refine hK.out _ _ (hHeld.alloc _) (fun hHeld => ?_)
          clear hK K
          (try simp only [Act.put]); (try simp only [List.setIfInBounds_toArray]); (try simp only [List.set_cons_succ]); (try simp only [List.set_cons_zero])
          refine held_step 7 (by kernel_rfl) rfl (fun K hK => ?_)
          go_simp; go_at_call 30; refine (HOF.out _ _ _ _ _ (Nat.le_refl _) (heap_new_drew _ _)).mono ?_; rintro e w6 ⟨rfl, hb6⟩; go_wp2_with fail
          refine hK.out _ _ (hHeld.below hb6) (fun hHeld => ?_)
          clear hK K
          (try simp only [Act.put]); (try simp only [List.setIfInBounds_toArray]); (try simp only [List.set_cons_succ]); (try simp only [List.set_cons_zero])
          (refine held_take (i := 8) (v := ?_) rfl (by kernel_rfl) (by kernel_rfl) (by kernel_rfl) (fun _ _ _ h => h) (Or.inl ⟨rfl, fun u hu => ?_⟩) hHeld ?_; rotate_left; (focus (go_simp; (try with_reducible rfl); done)); (try simp only [Act.put]); (try simp only [List.setIfInBounds_toArray]); (try simp only [List.set_cons_succ]); (try simp only [List.set_cons_zero]))
          (refine held_take (i := 9) (v := ?_) rfl (by kernel_rfl) (by kernel_rfl) (by kernel_rfl) (fun _ _ _ h => h) (Or.inl ⟨rfl, fun u hu => ?_⟩) hHeld ?_; rotate_left; (focus (go_simp; (try with_reducible rfl); done)); (try simp only [Act.put]); (try simp only [List.setIfInBounds_toArray]); (try simp only [List.set_cons_succ]); (try simp only [List.set_cons_zero]))
          refine wpAnyH_done (by kernel_rfl) ?_ _
          go_wp2_with fail
          go_roundw
          case rel => first | exact ⟨4, by decide, rfl, hHeld.pop⟩ | ((repeat apply Exists.intro); exact ⟨⟨4, by decide, rfl, hHeld.pop⟩, rfl⟩)
          case measure => (simp [intOf] <;> omega)
        · go_wp2_with fail
          go_ret
          exact ⟨rfl, hs.mv.ms.bel⟩
end Go.Proofs.Ytlcndenbnokcjaa
