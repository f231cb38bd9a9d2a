/-
  The walk of plaitlaw05.ArithScalar.
-/
import Derived.Test.YtgemlndpmbeaeaaAriH
import Derived.Test.YtgemlndpmbeaeaaAriNum
import Derived.Test.YtgemlndpmbeaeaaNumBin
namespace Go.Proofs.Ytgemlndpmbeaeaa
open Go.RowKit _root_.Nm Pl
set_option linter.unusedVariables false
set_option linter.unusedSimpArgs false

/-- A region that makes one new vector (operation p); the tail behind it stores into it. -/
def check0z (ops : Array Oper) (n p : Nat) (order : List Nat) : Bool :=
  checkA ops n [p] order && decide (p < n) && (Region.ready .any ops (marks (Array.replicate ops.size false) order) == [p]) &&
  Region.seqB .any ops (ops.size - n) n ((marks (Array.replicate ops.size false) order).setIfInBounds p true)
theorem region_new0z {id : Nat} {Q : Exit → Act → World → Prop} {a : Act} {w : World} {l : List Oper} (w0 : World) (hs : List (Nat × Vec)) (n p : Nat) (order : List Nat) (hB : check0z l.toArray n p order = true)
    {op : Oper} (hop : l[p]? = some op) (hpn : op.guard = none) (hpo : op.op = .alloc 23) (hS : N1 w0 hs 0 none w.drew)
    (h : wpDA Try.prog l.toArray (N1 w0 hs 0) (fun a' => ∀ x w', N1 w0 hs 0 (some (x, false)) w' → wpList Try.prog l.toArray Q (l.drop n) (a'.put op.dst (ptr x)) w') (opsAt l order) a) : (Code.region id l.toArray true).wp Try.prog Q a w := by
  simp only [check0z, Bool.and_eq_true, decide_eq_true_eq, beq_iff_eq] at hB
  obtain ⟨⟨⟨hA, hp⟩, hr1⟩, hsq⟩ := hB
  refine region_news (N1 w0 hs 0) (step1 p (p + 1)) (val1 p) none n [p] order (by kernel_rfl) hA hS ?_
  have mono : ∀ (os : List Oper) (a : Act) (K K' : Act → Prop), (∀ a, K a → K' a) → wpDA Try.prog l.toArray (N1 w0 hs 0) K os a → wpDA Try.prog l.toArray (N1 w0 hs 0) K' os a := by
    intro os
    induction os with
    | nil => intro a K K' hk h; exact hk _ h
    | cons o os ih => intro a K K' hk ⟨v, h1, h2⟩; exact ⟨v, h1, ih _ _ _ hk h2⟩
  refine mono _ _ _ _ (fun a' h' => ?_) h
  refine special_one p hr1 hp (by simp) (by simpa using hop) ⟨by unfold Region.wanted; rw [hpn], fun w hw => ⟨some (w.heap.size, false), _, .inl ⟨rfl, rfl, _, rfl⟩, hw.alloc, .inl ?_⟩⟩ (fun D' hD => ?_)
  · rw [new_run hpo]; simp [val1]
  · rcases hD with ⟨_, _, x, rfl⟩ | ⟨h1, _⟩
    · have hv : val1 p p (some (x, false)) = ptr x := by simp [val1]
      rw [hv]
      exact ⟨hsq, h' x⟩
    · omega
theorem HL.allocz {w0 u : World} {l : List (Nat × Vec)} (h : HL w0 l u) (x : Obj) : HL w0 l (u.alloc x) :=
  N1.start 0 (h.bel.alloc h.bel.size _) (fun q hq => blk_alloc (h.hold q hq) _)
structure SC (w : World) (l : List (Nat × Vec)) (OB : Nat) (u : World) : Prop where
  hl : HL w l u
  ho : u.heap[OB]? = some (.cells #[.int .i64 14, .int .i64 17, .int .i64 21] 3 (0, 0))
theorem SC.below {w u u1 : World} {l : List (Nat × Vec)} {OB : Nat} (h : SC w l OB u) (hb : Below u.heap.size u u1) : SC w l OB u1 := ⟨h.hl.below hb, blk_keep h.ho hb⟩
theorem SC.drew {w u : World} {l : List (Nat × Vec)} {OB : Nat} (h : SC w l OB u) : SC w l OB u.drew := ⟨h.hl.drew, h.ho⟩
theorem HL.after0 {w0 U wx wA : World} {L : List (Nat × Vec)} {X : Vec} {x : Nat} (h : HL w0 L U) (hx : N1 U L 0 (some (x, false)) wx) (hA : Sets wx x X wA) : HL w0 ((x, X) :: L) wA ∧ ∀ (b : Nat) (o : Obj), U.heap[b]? = some o → wA.heap[b]? = some o := by
  obtain ⟨_, h2, h3⟩ := hx.new x false rfl
  refine ⟨N1.start 0 ((h.bel.trans (hx.bel.mono h.bel.size)).trans (hA.below.mono (Nat.le_trans h.bel.size h2))) (fun q hq => ?_), fun b o hb => ?_⟩
  · rcases List.mem_cons.1 hq with rfl | hq
    · exact hA.this
    · exact blk_sets (hx.hold q hq) hA (h3 q hq)
  · exact blk_sets (blk_keep hb hx.bel) hA (by have := block_lt hb; omega)
theorem HL.after1 {w0 U wx : World} {L : List (Nat × Vec)} {X : Vec} {x : Nat} (h : HL w0 L U) (hx : N1 U L X (some (x, true)) wx) : HL w0 ((x, X) :: L) wx ∧ ∀ (b : Nat) (o : Obj), U.heap[b]? = some o → wx.heap[b]? = some o := by
  obtain ⟨h1, h2, h3⟩ := hx.new x true rfl
  refine ⟨N1.start 0 (h.bel.trans (hx.bel.mono h.bel.size)) (fun q hq => ?_), fun b o hb => blk_keep hb hx.bel⟩
  rcases List.mem_cons.1 hq with rfl | hq
  · exact h1
  · exact hx.hold q hq
theorem do_loadIA {σ : Type} {ops : Array Oper} {S : σ → World → Prop} {L : Act → Prop} {o : Oper} {rest : List Oper} {a : Act} (hg : o.guard = none) (x : Operand) (ho : o.op = .load 3 x) (g j : Nat)
    (hx : a.eval x = .pointer (some ⟨g, j, none⟩)) (z : Value) (h : ∀ D w, S D w → w.cell? ⟨g, j, none⟩ = some z)
    (hr : wpDA Try.prog ops S L rest (a.put o.dst z)) : wpDA Try.prog ops S L (o :: rest) a :=
  wpDA_here hg (fun D w hS => by
    have ha : (isAgg 3).run Try.prog w = .ok false w := by kernel_rfl
    unfold execOp
    simp only [ho, hx, Instr.loadAt, Instr.sureAddr, Sem.run_bind, Sem.run_pure, Result.andThen_ok]
    simp [loadVar, Sem.run_bind, ha, h D w hS, go_sem]) hr
theorem nb (op : Int) (A C v : Nat) (w : World) (ha : A < 18446744073709551616) (hc : C < 18446744073709551616) (hop : 106 ≤ op ∧ op ≤ 136) (he : (binB op (BitVec.ofNat 64 A) (BitVec.ofNat 64 C)).2 = 0) (hv : v = (bB op (BitVec.ofNat 64 A) (BitVec.ofNat 64 C)).toNat) :
    Calls Try.prog 26 #[.int .i64 op, .int .u64 (A : Int), .int .u64 (C : Int)] w fun e w' => e = .returned (.tuple #[.int .u64 (v : Int), .int .i64 0]) ∧ Below w.heap.size w w' := by
  have h := bin_any op (BitVec.ofNat 64 A) (BitVec.ofNat 64 C) w (by omega)
  rw [he, ofn64 A ha, ofn64 C hc] at h
  subst hv
  exact h.mono fun e w' ⟨h1, h2⟩ => ⟨h1, by subst h2; exact Below.refl _ _⟩
set_option maxRecDepth 100000 in
set_option maxHeartbeats 8000000 in
theorem scalar_walk (a b : Vec) (n : Nat) (w : World) (hn : n < 4294967296) :
    Calls Try.prog 10 #[.agg (cells a), .agg (cells b), .int .u32 (n : Int)] w fun e w' => e = .returned (.bool true) ∧ Below w.heap.size w w' := by
  have hs := HL.two w a b
  have HNN := Lib.hid hn
  obtain ⟨p, hp⟩ : ∃ p, p = n % 32 := ⟨_, rfl⟩
  have HP := Lib.hid hp.symm
  clear hp
  obtain ⟨q, hq⟩ : ∃ q, q = n % 64 := ⟨_, rfl⟩
  have HQ := Lib.hid hq.symm
  clear hq
  go_enter Try.func10, Try.ntmps10
  go_wp2_with (go_at_call 11; (with_reducible refine (awake_any _).mono ?_); rintro e u ⟨rfl, hb⟩; replace hs := hs.below hb; clear hb)
  go_loopw [7] (fun ov wr => ∃ z : Int, (z = 32 ∨ z = 64 ∨ z = 128) ∧ ov = .int .i64 z ∧ HL w [(w.heap.size + 1, b), (w.heap.size, a)] wr) (fun ov _ => (128 - intOf ov).toNat)
  case atStart => exact ⟨32, .inl rfl, rfl, hs⟩
  case round =>
    clear hs
    obtain ⟨z, hz, rfl, hs⟩ := hrel
    rcases hz with rfl | rfl | rfl
    · go_wp2_with fail
      obtain ⟨OB, hOB⟩ : ∃ B, B = wr.heap.size := ⟨_, rfl⟩
      have ho : (wr.alloc (.cells #[.int .i64 14, .int .i64 17, .int .i64 21] 3)).heap[OB]? = some (.cells #[.int .i64 14, .int .i64 17, .int .i64 21] 3 (0, 0)) := by rw [hOB]; exact heap_alloc_new _ _
      replace hs := HL.allocz hs (.cells #[.int .i64 14, .int .i64 17, .int .i64 21] 3)
      rw [← hOB]
      generalize wr.alloc (.cells #[.int .i64 14, .int .i64 17, .int .i64 21] 3) = W1 at hs ho ⊢
      clear hOB wr
      go_loopw [11] (fun kv wr => ∃ k : Int, (k = 0 ∨ k = 1 ∨ k = 2 ∨ k = 3) ∧ kv = .int .i64 k ∧ HL w [(w.heap.size + 1, b), (w.heap.size, a)] wr ∧ wr.heap[OB]? = some (.cells #[.int .i64 14, .int .i64 17, .int .i64 21] 3 (0, 0))) (fun kv _ => (3 - intOf kv).toNat)
      case atStart => exact ⟨0, .inl rfl, rfl, hs, ho⟩
      case round =>
        clear hs ho
        obtain ⟨k, hk, rfl, hs, ho⟩ := hrel
        rcases hk with rfl | rfl | rfl | rfl
        · as_aux_lemma =>
          go_wp2_with fail
          refine region_new0z wr [(w.heap.size + 1, b), (w.heap.size, a)] 9 8 [0, 1, 2, 3, 4, 5, 6, 7] (by kernel_rfl) rfl rfl rfl (N1.start 0 (Below.refl _ _) hs.hold).drew ?_
          simp only [opsAt, List.getElem?_cons_zero, List.getElem?_cons_succ, List.drop_succ_cons, List.drop_zero]
          repeat (first | (refine do_loadIA rfl _ rfl _ _ rfl (.int .i64 14) (fun D u hS => by rw [cell_of_row u _ _ _ _ _ (blk_keep ho hS.bel)]; rfl) ?_; simp only [Act.put, List.setIfInBounds_toArray, List.set_cons_zero, List.set_cons_succ]) | (refine do_loadA rfl _ rfl _ rfl a (fun D u hS => hS.hold (_, a) (List.mem_cons_of_mem _ List.mem_cons_self)) ?_; simp only [Act.put, List.setIfInBounds_toArray, List.set_cons_zero, List.set_cons_succ]) | (refine do_loadA rfl _ rfl _ rfl b (fun D u hS => hS.hold (_, b) List.mem_cons_self) ?_; simp only [Act.put, List.setIfInBounds_toArray, List.set_cons_zero, List.set_cons_succ]) | (refine wpDA_pure (v := ?_) rfl (fun u => ?_) ?_; rotate_left; (focus (go_simp; (try with_reducible rfl); done)); simp only [Act.put, List.setIfInBounds_toArray, List.set_cons_zero, List.set_cons_succ]))
          (refine wpDA_call (v := .agg (cells (vb 32 14 a b))) rfl 19 ?_ (fun u => ?_) (fun D u hS => ?_) ?_; rotate_left 1; (focus (go_simp; (try with_reducible rfl); done)); (focus (refine (two_32_14 a b _).mono ?_; rintro e u2 ⟨rfl, hb⟩; exact ⟨rfl, hS.below hb⟩)); simp only [Act.put, List.setIfInBounds_toArray, List.set_cons_zero, List.set_cons_succ])
          refine wpDA_nil (fun x1 wx hx => ?_)
          unfold ptr
          simp only [Act.put, List.setIfInBounds_toArray, List.set_cons_zero, List.set_cons_succ]
          go_wp2_with (with_reducible refine store_vec rfl _ _ rfl _ _ rfl rfl 0 (hx.new x1 false rfl).1 ?_; intro wA hA)
          obtain ⟨hs1, hk1⟩ := HL.after0 hs hx hA
          replace ho := hk1 _ _ ho
          clear hx hA hs hk1
          refine region_new1 wA [(x1, (vb 32 14 a b)), (w.heap.size + 1, b), (w.heap.size, a)] (vs 32 11 p a) 13 11 12 [0, 1, 2, 3, 4, 5, 6, 7, 8, 9, 10] (by kernel_rfl) rfl rfl rfl rfl rfl _ _ rfl rfl (N1.start _ (Below.refl _ _) hs1.hold).drew ?_
          simp only [opsAt, List.getElem?_cons_zero, List.getElem?_cons_succ, List.drop_succ_cons, List.drop_zero]
          (refine wpDA_pure (v := ?_) rfl (fun u => ?_) ?_; rotate_left; (focus (go_simp; (try with_reducible rfl); done)); simp only [Act.put, List.setIfInBounds_toArray, List.set_cons_zero, List.set_cons_succ])
          (refine wpDA_call (v := .int .i64 64928) rfl 25 ?_ (fun u => ?_) (fun D u hS => ?_) ?_; rotate_left 1; (focus (go_simp; (try with_reducible rfl); done)); (focus (refine (same_below (base32 _)).mono ?_; rintro e u2 ⟨rfl, hb⟩; exact ⟨rfl, hS.below hb⟩)); simp only [Act.put, List.setIfInBounds_toArray, List.set_cons_zero, List.set_cons_succ])
          repeat (first | (refine do_loadA rfl _ rfl _ rfl a (fun D u hS => hS.hold (_, a) (List.mem_cons_of_mem _ (List.mem_cons_of_mem _ List.mem_cons_self))) ?_; simp only [Act.put, List.setIfInBounds_toArray, List.set_cons_zero, List.set_cons_succ]) | (refine wpDA_pure (v := ?_) rfl (fun u => ?_) ?_; rotate_left; (focus (go_simp; (try with_reducible rfl); done)); simp only [Act.put, List.setIfInBounds_toArray, List.set_cons_zero, List.set_cons_succ]))
          (refine wpDA_call (v := .tuple #[.agg (cells (vs 32 11 p a)), .int .i64 0]) rfl 14 ?_ (fun u => ?_) (fun D u hS => ?_) ?_; rotate_left 1; (focus (go_simp; (try with_reducible rfl); done)); (focus (refine (sh_32_11 a n p _ HP.out HNN.out).mono ?_; rintro e u2 ⟨rfl, hb⟩; exact ⟨rfl, hS.below hb⟩)); simp only [Act.put, List.setIfInBounds_toArray, List.set_cons_zero, List.set_cons_succ])
          repeat (refine wpDA_pure (v := ?_) rfl (fun u => ?_) ?_; rotate_left; (focus (go_simp; (try with_reducible rfl); done)); simp only [Act.put, List.setIfInBounds_toArray, List.set_cons_zero, List.set_cons_succ])
          refine wpDA_nil (fun x2 => ⟨rfl, rfl, fun wx hx => ?_⟩)
          unfold ptr
          simp only [Act.put, List.setIfInBounds_toArray, List.set_cons_zero, List.set_cons_succ]
          obtain ⟨hs, hk1⟩ := HL.after1 hs1 hx
          replace ho := hk1 _ _ ho
          clear hx hs1 hk1
          go_wp2_with fail
          go_loopw [15] (fun iv wr => ∃ i : Nat, i ≤ 4 ∧ iv = .int .i64 i ∧ SC w [(x2, (vs 32 11 p a)), (x1, (vb 32 14 a b)), (w.heap.size + 1, b), (w.heap.size, a)] OB wr) (fun iv _ => 4 - (intOf iv).toNat)
          case atStart => exact ⟨0, Nat.zero_le _, rfl, hs, ho⟩
          case round =>
            clear hs ho
            obtain ⟨i, hi, rfl, hs⟩ := hrel
            by_cases hlt : i < 4
            · have la : getN a 32 i < 4294967296 := getN_lt a 32 i
              have lb : getN b 32 i < 4294967296 := getN_lt b 32 i
              have HX := Lib.hid (sc32_14 a b i hlt)
              have HY := Lib.hid (sh32_11 a n i HNN.out hlt)
              obtain ⟨xv, hxv⟩ : ∃ v, v = getN (vb 32 14 a b) 32 i := ⟨_, rfl⟩
              obtain ⟨yv, hyv⟩ : ∃ v, v = getN (vs 32 11 p a) 32 i := ⟨_, rfl⟩
              have NB1 := fun W => nb 106 (getN a 32 i) (getN b 32 i) xv W (by omega) (by omega) (by decide) rfl (hxv.trans HX.out)
              have NB2 := fun W => nb 116 (getN a 32 i) n yv W (by omega) (by omega) (by decide) rfl (hyv.trans (HP.out ▸ HY.out))
              have HB1 := Lib.hid NB1
              have HB2 := Lib.hid NB2
              have GX := fun W => get32z (vb 32 14 a b) i i W rfl hlt
              have GY := fun W => get32z (vs 32 11 p a) i i W rfl hlt
              rw [← hxv] at GX
              rw [← hyv] at GY
              have HGX := Lib.hid GX
              have HGY := Lib.hid GY
              clear NB1 NB2 GX GY hxv hyv HX HY
              go_wp2_with fail
              refine region_do (SC w [(x2, (vs 32 11 p a)), (x1, (vb 32 14 a b)), (w.heap.size + 1, b), (w.heap.size, a)] OB) 16 (by kernel_rfl) (by kernel_rfl) hs.drew ?_
              simp only [List.take_succ_cons, List.take_zero, List.drop_succ_cons, List.drop_zero]
              repeat (first | (refine do_load rfl _ rfl _ rfl a (fun u hS => hS.hl.hold (_, a) (List.mem_cons_of_mem _ (List.mem_cons_of_mem _ (List.mem_cons_of_mem _ List.mem_cons_self)))) ?_; simp only [Act.put, List.setIfInBounds_toArray, List.set_cons_zero, List.set_cons_succ]) | (refine do_load rfl _ rfl _ rfl b (fun u hS => hS.hl.hold (_, b) (List.mem_cons_of_mem _ (List.mem_cons_of_mem _ List.mem_cons_self))) ?_; simp only [Act.put, List.setIfInBounds_toArray, List.set_cons_zero, List.set_cons_succ]) | (refine wpD_pure (v := ?_) rfl (fun u => ?_) ?_; rotate_left; (focus (go_simp; (try with_reducible rfl); done)); simp only [Act.put, List.setIfInBounds_toArray, List.set_cons_zero, List.set_cons_succ]))
              (refine wpD_call (v := .int .u64 (getN a 32 i : Nat)) rfl 16 ?_ (fun u => ?_) (fun u hS => ?_) ?_; rotate_left 1; (focus (go_simp; (try with_reducible rfl); done)); (focus (refine (get32z a _ i _ rfl hlt).mono ?_; rintro e u2 ⟨rfl, hb⟩; exact ⟨rfl, hS.below hb⟩)); simp only [Act.put, List.setIfInBounds_toArray, List.set_cons_zero, List.set_cons_succ])
              repeat (first | (refine do_load rfl _ rfl _ rfl a (fun u hS => hS.hl.hold (_, a) (List.mem_cons_of_mem _ (List.mem_cons_of_mem _ (List.mem_cons_of_mem _ List.mem_cons_self)))) ?_; simp only [Act.put, List.setIfInBounds_toArray, List.set_cons_zero, List.set_cons_succ]) | (refine do_load rfl _ rfl _ rfl b (fun u hS => hS.hl.hold (_, b) (List.mem_cons_of_mem _ (List.mem_cons_of_mem _ List.mem_cons_self))) ?_; simp only [Act.put, List.setIfInBounds_toArray, List.set_cons_zero, List.set_cons_succ]) | (refine wpD_pure (v := ?_) rfl (fun u => ?_) ?_; rotate_left; (focus (go_simp; (try with_reducible rfl); done)); simp only [Act.put, List.setIfInBounds_toArray, List.set_cons_zero, List.set_cons_succ]))
              (refine wpD_call (v := .int .u64 (getN b 32 i : Nat)) rfl 16 ?_ (fun u => ?_) (fun u hS => ?_) ?_; rotate_left 1; (focus (go_simp; (try with_reducible rfl); done)); (focus (refine (get32z b _ i _ rfl hlt).mono ?_; rintro e u2 ⟨rfl, hb⟩; exact ⟨rfl, hS.below hb⟩)); simp only [Act.put, List.setIfInBounds_toArray, List.set_cons_zero, List.set_cons_succ])
              repeat (refine wpD_pure (v := ?_) rfl (fun u => ?_) ?_; rotate_left; (focus (go_simp; (try with_reducible rfl); done)); simp only [Act.put, List.setIfInBounds_toArray, List.set_cons_zero, List.set_cons_succ])
              (refine wpD_call (v := .tuple #[.int .u64 (xv : Int), .int .i64 0]) rfl 26 ?_ (fun u => ?_) (fun u hS => ?_) ?_; rotate_left 1; (focus (go_simp; (try with_reducible rfl); done)); (focus (refine (HB1.out _).mono ?_; rintro e u2 ⟨rfl, hb⟩; exact ⟨rfl, hS.below hb⟩)); simp only [Act.put, List.setIfInBounds_toArray, List.set_cons_zero, List.set_cons_succ])
              repeat (refine wpD_pure (v := ?_) rfl (fun u => ?_) ?_; rotate_left; (focus (go_simp; (try with_reducible rfl); done)); simp only [Act.put, List.setIfInBounds_toArray, List.set_cons_zero, List.set_cons_succ])
              refine wpD_nil (fun wq hq => ?_)
              replace hs := hq
              clear hq HB1
              go_wp2_with (first | (with_reducible refine load_vec rfl _ rfl _ rfl a (hs.hl.hold (_, a) (List.mem_cons_of_mem _ (List.mem_cons_of_mem _ (List.mem_cons_of_mem _ List.mem_cons_self)))) ?_) | ((with_reducible refine load_vec_g ?_ _ rfl _ rfl a (hs.hl.hold (_, a) (List.mem_cons_of_mem _ (List.mem_cons_of_mem _ (List.mem_cons_of_mem _ List.mem_cons_self)))) ?_); (focus rfl)) | (with_reducible refine load_vec rfl _ rfl _ rfl (vb 32 14 a b) (hs.hl.hold (_, (vb 32 14 a b)) (List.mem_cons_of_mem _ List.mem_cons_self)) ?_) | ((with_reducible refine load_vec_g ?_ _ rfl _ rfl (vb 32 14 a b) (hs.hl.hold (_, (vb 32 14 a b)) (List.mem_cons_of_mem _ List.mem_cons_self)) ?_); (focus rfl)) | (with_reducible refine load_vec rfl _ rfl _ rfl (vs 32 11 p a) (hs.hl.hold (_, (vs 32 11 p a)) List.mem_cons_self) ?_) | ((with_reducible refine load_vec_g ?_ _ rfl _ rfl (vs 32 11 p a) (hs.hl.hold (_, (vs 32 11 p a)) List.mem_cons_self) ?_); (focus rfl)) | (go_at_call 16; (with_reducible refine (get32z a _ i _ rfl hlt).mono ?_); rintro e u ⟨rfl, hb⟩; replace hs := hs.below hb; clear hb) | (go_at_call 26; (with_reducible refine (HB2.out _).mono ?_); rintro e u ⟨rfl, hb⟩; replace hs := hs.below hb; clear hb) | (go_at_call 16; (with_reducible refine (HGX.out _).mono ?_); rintro e u ⟨rfl, hb⟩; replace hs := hs.below hb; clear hb) | (go_at_call 16; (with_reducible refine (HGY.out _).mono ?_); rintro e u ⟨rfl, hb⟩; replace hs := hs.below hb; clear hb))
              go_roundw
              case rel => first | exact ⟨i + 1, by omega, by go_num, hs⟩ | ((repeat apply Exists.intro); exact ⟨⟨i + 1, by omega, by go_num, hs⟩, rfl⟩)
              case measure => (simp [intOf] <;> omega)
            · obtain rfl : i = 4 := by omega
              go_wp2_with fail
              go_roundw
              case rel => first | exact ⟨1, by decide, rfl, HL.pop (HL.pop hs.hl), hs.ho⟩ | ((repeat apply Exists.intro); exact ⟨⟨1, by decide, rfl, HL.pop (HL.pop hs.hl), hs.ho⟩, rfl⟩)
              case measure => (simp [intOf] <;> omega)
        · as_aux_lemma =>
          go_wp2_with fail
          refine region_new0z wr [(w.heap.size + 1, b), (w.heap.size, a)] 9 8 [0, 1, 2, 3, 4, 5, 6, 7] (by kernel_rfl) rfl rfl rfl (N1.start 0 (Below.refl _ _) hs.hold).drew ?_
          simp only [opsAt, List.getElem?_cons_zero, List.getElem?_cons_succ, List.drop_succ_cons, List.drop_zero]
          repeat (first | (refine do_loadIA rfl _ rfl _ _ rfl (.int .i64 17) (fun D u hS => by rw [cell_of_row u _ _ _ _ _ (blk_keep ho hS.bel)]; rfl) ?_; simp only [Act.put, List.setIfInBounds_toArray, List.set_cons_zero, List.set_cons_succ]) | (refine do_loadA rfl _ rfl _ rfl a (fun D u hS => hS.hold (_, a) (List.mem_cons_of_mem _ List.mem_cons_self)) ?_; simp only [Act.put, List.setIfInBounds_toArray, List.set_cons_zero, List.set_cons_succ]) | (refine do_loadA rfl _ rfl _ rfl b (fun D u hS => hS.hold (_, b) List.mem_cons_self) ?_; simp only [Act.put, List.setIfInBounds_toArray, List.set_cons_zero, List.set_cons_succ]) | (refine wpDA_pure (v := ?_) rfl (fun u => ?_) ?_; rotate_left; (focus (go_simp; (try with_reducible rfl); done)); simp only [Act.put, List.setIfInBounds_toArray, List.set_cons_zero, List.set_cons_succ]))
          (refine wpDA_call (v := .agg (cells (vb 32 17 a b))) rfl 19 ?_ (fun u => ?_) (fun D u hS => ?_) ?_; rotate_left 1; (focus (go_simp; (try with_reducible rfl); done)); (focus (refine (two_32_17 a b _).mono ?_; rintro e u2 ⟨rfl, hb⟩; exact ⟨rfl, hS.below hb⟩)); simp only [Act.put, List.setIfInBounds_toArray, List.set_cons_zero, List.set_cons_succ])
          refine wpDA_nil (fun x1 wx hx => ?_)
          unfold ptr
          simp only [Act.put, List.setIfInBounds_toArray, List.set_cons_zero, List.set_cons_succ]
          go_wp2_with (with_reducible refine store_vec rfl _ _ rfl _ _ rfl rfl 0 (hx.new x1 false rfl).1 ?_; intro wA hA)
          obtain ⟨hs1, hk1⟩ := HL.after0 hs hx hA
          replace ho := hk1 _ _ ho
          clear hx hA hs hk1
          refine region_new1 wA [(x1, (vb 32 17 a b)), (w.heap.size + 1, b), (w.heap.size, a)] (vs 32 12 p a) 13 11 12 [0, 1, 2, 3, 4, 5, 6, 7, 8, 9, 10] (by kernel_rfl) rfl rfl rfl rfl rfl _ _ rfl rfl (N1.start _ (Below.refl _ _) hs1.hold).drew ?_
          simp only [opsAt, List.getElem?_cons_zero, List.getElem?_cons_succ, List.drop_succ_cons, List.drop_zero]
          (refine wpDA_pure (v := ?_) rfl (fun u => ?_) ?_; rotate_left; (focus (go_simp; (try with_reducible rfl); done)); simp only [Act.put, List.setIfInBounds_toArray, List.set_cons_zero, List.set_cons_succ])
          (refine wpDA_call (v := .int .i64 64928) rfl 25 ?_ (fun u => ?_) (fun D u hS => ?_) ?_; rotate_left 1; (focus (go_simp; (try with_reducible rfl); done)); (focus (refine (same_below (base32 _)).mono ?_; rintro e u2 ⟨rfl, hb⟩; exact ⟨rfl, hS.below hb⟩)); simp only [Act.put, List.setIfInBounds_toArray, List.set_cons_zero, List.set_cons_succ])
          repeat (first | (refine do_loadA rfl _ rfl _ rfl a (fun D u hS => hS.hold (_, a) (List.mem_cons_of_mem _ (List.mem_cons_of_mem _ List.mem_cons_self))) ?_; simp only [Act.put, List.setIfInBounds_toArray, List.set_cons_zero, List.set_cons_succ]) | (refine wpDA_pure (v := ?_) rfl (fun u => ?_) ?_; rotate_left; (focus (go_simp; (try with_reducible rfl); done)); simp only [Act.put, List.setIfInBounds_toArray, List.set_cons_zero, List.set_cons_succ]))
          (refine wpDA_call (v := .tuple #[.agg (cells (vs 32 12 p a)), .int .i64 0]) rfl 14 ?_ (fun u => ?_) (fun D u hS => ?_) ?_; rotate_left 1; (focus (go_simp; (try with_reducible rfl); done)); (focus (refine (sh_32_12 a n p _ HP.out HNN.out).mono ?_; rintro e u2 ⟨rfl, hb⟩; exact ⟨rfl, hS.below hb⟩)); simp only [Act.put, List.setIfInBounds_toArray, List.set_cons_zero, List.set_cons_succ])
          repeat (refine wpDA_pure (v := ?_) rfl (fun u => ?_) ?_; rotate_left; (focus (go_simp; (try with_reducible rfl); done)); simp only [Act.put, List.setIfInBounds_toArray, List.set_cons_zero, List.set_cons_succ])
          refine wpDA_nil (fun x2 => ⟨rfl, rfl, fun wx hx => ?_⟩)
          unfold ptr
          simp only [Act.put, List.setIfInBounds_toArray, List.set_cons_zero, List.set_cons_succ]
          obtain ⟨hs, hk1⟩ := HL.after1 hs1 hx
          replace ho := hk1 _ _ ho
          clear hx hs1 hk1
          go_wp2_with fail
          go_loopw [15] (fun iv wr => ∃ i : Nat, i ≤ 4 ∧ iv = .int .i64 i ∧ SC w [(x2, (vs 32 12 p a)), (x1, (vb 32 17 a b)), (w.heap.size + 1, b), (w.heap.size, a)] OB wr) (fun iv _ => 4 - (intOf iv).toNat)
          case atStart => exact ⟨0, Nat.zero_le _, rfl, hs, ho⟩
          case round =>
            clear hs ho
            obtain ⟨i, hi, rfl, hs⟩ := hrel
            by_cases hlt : i < 4
            · have la : getN a 32 i < 4294967296 := getN_lt a 32 i
              have lb : getN b 32 i < 4294967296 := getN_lt b 32 i
              have HX := Lib.hid (sc32_17 a b i hlt)
              have HY := Lib.hid (sh32_12 a n i HNN.out hlt)
              obtain ⟨xv, hxv⟩ : ∃ v, v = getN (vb 32 17 a b) 32 i := ⟨_, rfl⟩
              obtain ⟨yv, hyv⟩ : ∃ v, v = getN (vs 32 12 p a) 32 i := ⟨_, rfl⟩
              have NB1 := fun W => nb 107 (getN a 32 i) (getN b 32 i) xv W (by omega) (by omega) (by decide) rfl (hxv.trans HX.out)
              have NB2 := fun W => nb 117 (getN a 32 i) n yv W (by omega) (by omega) (by decide) rfl (hyv.trans (HP.out ▸ HY.out))
              have HB1 := Lib.hid NB1
              have HB2 := Lib.hid NB2
              have GX := fun W => get32z (vb 32 17 a b) i i W rfl hlt
              have GY := fun W => get32z (vs 32 12 p a) i i W rfl hlt
              rw [← hxv] at GX
              rw [← hyv] at GY
              have HGX := Lib.hid GX
              have HGY := Lib.hid GY
              clear NB1 NB2 GX GY hxv hyv HX HY
              go_wp2_with fail
              refine region_do (SC w [(x2, (vs 32 12 p a)), (x1, (vb 32 17 a b)), (w.heap.size + 1, b), (w.heap.size, a)] OB) 16 (by kernel_rfl) (by kernel_rfl) hs.drew ?_
              simp only [List.take_succ_cons, List.take_zero, List.drop_succ_cons, List.drop_zero]
              repeat (first | (refine do_load rfl _ rfl _ rfl a (fun u hS => hS.hl.hold (_, a) (List.mem_cons_of_mem _ (List.mem_cons_of_mem _ (List.mem_cons_of_mem _ List.mem_cons_self)))) ?_; simp only [Act.put, List.setIfInBounds_toArray, List.set_cons_zero, List.set_cons_succ]) | (refine do_load rfl _ rfl _ rfl b (fun u hS => hS.hl.hold (_, b) (List.mem_cons_of_mem _ (List.mem_cons_of_mem _ List.mem_cons_self))) ?_; simp only [Act.put, List.setIfInBounds_toArray, List.set_cons_zero, List.set_cons_succ]) | (refine wpD_pure (v := ?_) rfl (fun u => ?_) ?_; rotate_left; (focus (go_simp; (try with_reducible rfl); done)); simp only [Act.put, List.setIfInBounds_toArray, List.set_cons_zero, List.set_cons_succ]))
              (refine wpD_call (v := .int .u64 (getN a 32 i : Nat)) rfl 16 ?_ (fun u => ?_) (fun u hS => ?_) ?_; rotate_left 1; (focus (go_simp; (try with_reducible rfl); done)); (focus (refine (get32z a _ i _ rfl hlt).mono ?_; rintro e u2 ⟨rfl, hb⟩; exact ⟨rfl, hS.below hb⟩)); simp only [Act.put, List.setIfInBounds_toArray, List.set_cons_zero, List.set_cons_succ])
              repeat (first | (refine do_load rfl _ rfl _ rfl a (fun u hS => hS.hl.hold (_, a) (List.mem_cons_of_mem _ (List.mem_cons_of_mem _ (List.mem_cons_of_mem _ List.mem_cons_self)))) ?_; simp only [Act.put, List.setIfInBounds_toArray, List.set_cons_zero, List.set_cons_succ]) | (refine do_load rfl _ rfl _ rfl b (fun u hS => hS.hl.hold (_, b) (List.mem_cons_of_mem _ (List.mem_cons_of_mem _ List.mem_cons_self))) ?_; simp only [Act.put, List.setIfInBounds_toArray, List.set_cons_zero, List.set_cons_succ]) | (refine wpD_pure (v := ?_) rfl (fun u => ?_) ?_; rotate_left; (focus (go_simp; (try with_reducible rfl); done)); simp only [Act.put, List.setIfInBounds_toArray, List.set_cons_zero, List.set_cons_succ]))
              (refine wpD_call (v := .int .u64 (getN b 32 i : Nat)) rfl 16 ?_ (fun u => ?_) (fun u hS => ?_) ?_; rotate_left 1; (focus (go_simp; (try with_reducible rfl); done)); (focus (refine (get32z b _ i _ rfl hlt).mono ?_; rintro e u2 ⟨rfl, hb⟩; exact ⟨rfl, hS.below hb⟩)); simp only [Act.put, List.setIfInBounds_toArray, List.set_cons_zero, List.set_cons_succ])
              repeat (refine wpD_pure (v := ?_) rfl (fun u => ?_) ?_; rotate_left; (focus (go_simp; (try with_reducible rfl); done)); simp only [Act.put, List.setIfInBounds_toArray, List.set_cons_zero, List.set_cons_succ])
              (refine wpD_call (v := .tuple #[.int .u64 (xv : Int), .int .i64 0]) rfl 26 ?_ (fun u => ?_) (fun u hS => ?_) ?_; rotate_left 1; (focus (go_simp; (try with_reducible rfl); done)); (focus (refine (HB1.out _).mono ?_; rintro e u2 ⟨rfl, hb⟩; exact ⟨rfl, hS.below hb⟩)); simp only [Act.put, List.setIfInBounds_toArray, List.set_cons_zero, List.set_cons_succ])
              repeat (refine wpD_pure (v := ?_) rfl (fun u => ?_) ?_; rotate_left; (focus (go_simp; (try with_reducible rfl); done)); simp only [Act.put, List.setIfInBounds_toArray, List.set_cons_zero, List.set_cons_succ])
              refine wpD_nil (fun wq hq => ?_)
              replace hs := hq
              clear hq HB1
              go_wp2_with (first | (with_reducible refine load_vec rfl _ rfl _ rfl a (hs.hl.hold (_, a) (List.mem_cons_of_mem _ (List.mem_cons_of_mem _ (List.mem_cons_of_mem _ List.mem_cons_self)))) ?_) | ((with_reducible refine load_vec_g ?_ _ rfl _ rfl a (hs.hl.hold (_, a) (List.mem_cons_of_mem _ (List.mem_cons_of_mem _ (List.mem_cons_of_mem _ List.mem_cons_self)))) ?_); (focus rfl)) | (with_reducible refine load_vec rfl _ rfl _ rfl (vb 32 17 a b) (hs.hl.hold (_, (vb 32 17 a b)) (List.mem_cons_of_mem _ List.mem_cons_self)) ?_) | ((with_reducible refine load_vec_g ?_ _ rfl _ rfl (vb 32 17 a b) (hs.hl.hold (_, (vb 32 17 a b)) (List.mem_cons_of_mem _ List.mem_cons_self)) ?_); (focus rfl)) | (with_reducible refine load_vec rfl _ rfl _ rfl (vs 32 12 p a) (hs.hl.hold (_, (vs 32 12 p a)) List.mem_cons_self) ?_) | ((with_reducible refine load_vec_g ?_ _ rfl _ rfl (vs 32 12 p a) (hs.hl.hold (_, (vs 32 12 p a)) List.mem_cons_self) ?_); (focus rfl)) | (go_at_call 16; (with_reducible refine (get32z a _ i _ rfl hlt).mono ?_); rintro e u ⟨rfl, hb⟩; replace hs := hs.below hb; clear hb) | (go_at_call 26; (with_reducible refine (HB2.out _).mono ?_); rintro e u ⟨rfl, hb⟩; replace hs := hs.below hb; clear hb) | (go_at_call 16; (with_reducible refine (HGX.out _).mono ?_); rintro e u ⟨rfl, hb⟩; replace hs := hs.below hb; clear hb) | (go_at_call 16; (with_reducible refine (HGY.out _).mono ?_); rintro e u ⟨rfl, hb⟩; replace hs := hs.below hb; clear hb))
              go_roundw
              case rel => first | exact ⟨i + 1, by omega, by go_num, hs⟩ | ((repeat apply Exists.intro); exact ⟨⟨i + 1, by omega, by go_num, hs⟩, rfl⟩)
              case measure => (simp [intOf] <;> omega)
            · obtain rfl : i = 4 := by omega
              go_wp2_with fail
              go_roundw
              case rel => first | exact ⟨2, by decide, rfl, HL.pop (HL.pop hs.hl), hs.ho⟩ | ((repeat apply Exists.intro); exact ⟨⟨2, by decide, rfl, HL.pop (HL.pop hs.hl), hs.ho⟩, rfl⟩)
              case measure => (simp [intOf] <;> omega)
        · as_aux_lemma =>
          go_wp2_with fail
          refine region_new0z wr [(w.heap.size + 1, b), (w.heap.size, a)] 9 8 [0, 1, 2, 3, 4, 5, 6, 7] (by kernel_rfl) rfl rfl rfl (N1.start 0 (Below.refl _ _) hs.hold).drew ?_
          simp only [opsAt, List.getElem?_cons_zero, List.getElem?_cons_succ, List.drop_succ_cons, List.drop_zero]
          repeat (first | (refine do_loadIA rfl _ rfl _ _ rfl (.int .i64 21) (fun D u hS => by rw [cell_of_row u _ _ _ _ _ (blk_keep ho hS.bel)]; rfl) ?_; simp only [Act.put, List.setIfInBounds_toArray, List.set_cons_zero, List.set_cons_succ]) | (refine do_loadA rfl _ rfl _ rfl a (fun D u hS => hS.hold (_, a) (List.mem_cons_of_mem _ List.mem_cons_self)) ?_; simp only [Act.put, List.setIfInBounds_toArray, List.set_cons_zero, List.set_cons_succ]) | (refine do_loadA rfl _ rfl _ rfl b (fun D u hS => hS.hold (_, b) List.mem_cons_self) ?_; simp only [Act.put, List.setIfInBounds_toArray, List.set_cons_zero, List.set_cons_succ]) | (refine wpDA_pure (v := ?_) rfl (fun u => ?_) ?_; rotate_left; (focus (go_simp; (try with_reducible rfl); done)); simp only [Act.put, List.setIfInBounds_toArray, List.set_cons_zero, List.set_cons_succ]))
          (refine wpDA_call (v := .agg (cells (vb 32 21 a b))) rfl 19 ?_ (fun u => ?_) (fun D u hS => ?_) ?_; rotate_left 1; (focus (go_simp; (try with_reducible rfl); done)); (focus (refine (two_32_21 a b _).mono ?_; rintro e u2 ⟨rfl, hb⟩; exact ⟨rfl, hS.below hb⟩)); simp only [Act.put, List.setIfInBounds_toArray, List.set_cons_zero, List.set_cons_succ])
          refine wpDA_nil (fun x1 wx hx => ?_)
          unfold ptr
          simp only [Act.put, List.setIfInBounds_toArray, List.set_cons_zero, List.set_cons_succ]
          go_wp2_with (with_reducible refine store_vec rfl _ _ rfl _ _ rfl rfl 0 (hx.new x1 false rfl).1 ?_; intro wA hA)
          obtain ⟨hs1, hk1⟩ := HL.after0 hs hx hA
          replace ho := hk1 _ _ ho
          clear hx hA hs hk1
          refine region_new1 wA [(x1, (vb 32 21 a b)), (w.heap.size + 1, b), (w.heap.size, a)] (vs 32 13 p a) 13 11 12 [0, 1, 2, 3, 4, 5, 6, 7, 8, 9, 10] (by kernel_rfl) rfl rfl rfl rfl rfl _ _ rfl rfl (N1.start _ (Below.refl _ _) hs1.hold).drew ?_
          simp only [opsAt, List.getElem?_cons_zero, List.getElem?_cons_succ, List.drop_succ_cons, List.drop_zero]
          (refine wpDA_pure (v := ?_) rfl (fun u => ?_) ?_; rotate_left; (focus (go_simp; (try with_reducible rfl); done)); simp only [Act.put, List.setIfInBounds_toArray, List.set_cons_zero, List.set_cons_succ])
          (refine wpDA_call (v := .int .i64 64928) rfl 25 ?_ (fun u => ?_) (fun D u hS => ?_) ?_; rotate_left 1; (focus (go_simp; (try with_reducible rfl); done)); (focus (refine (same_below (base32 _)).mono ?_; rintro e u2 ⟨rfl, hb⟩; exact ⟨rfl, hS.below hb⟩)); simp only [Act.put, List.setIfInBounds_toArray, List.set_cons_zero, List.set_cons_succ])
          repeat (first | (refine do_loadA rfl _ rfl _ rfl a (fun D u hS => hS.hold (_, a) (List.mem_cons_of_mem _ (List.mem_cons_of_mem _ List.mem_cons_self))) ?_; simp only [Act.put, List.setIfInBounds_toArray, List.set_cons_zero, List.set_cons_succ]) | (refine wpDA_pure (v := ?_) rfl (fun u => ?_) ?_; rotate_left; (focus (go_simp; (try with_reducible rfl); done)); simp only [Act.put, List.setIfInBounds_toArray, List.set_cons_zero, List.set_cons_succ]))
          (refine wpDA_call (v := .tuple #[.agg (cells (vs 32 13 p a)), .int .i64 0]) rfl 14 ?_ (fun u => ?_) (fun D u hS => ?_) ?_; rotate_left 1; (focus (go_simp; (try with_reducible rfl); done)); (focus (refine (sh_32_13 a n p _ HP.out HNN.out).mono ?_; rintro e u2 ⟨rfl, hb⟩; exact ⟨rfl, hS.below hb⟩)); simp only [Act.put, List.setIfInBounds_toArray, List.set_cons_zero, List.set_cons_succ])
          repeat (refine wpDA_pure (v := ?_) rfl (fun u => ?_) ?_; rotate_left; (focus (go_simp; (try with_reducible rfl); done)); simp only [Act.put, List.setIfInBounds_toArray, List.set_cons_zero, List.set_cons_succ])
          refine wpDA_nil (fun x2 => ⟨rfl, rfl, fun wx hx => ?_⟩)
          unfold ptr
          simp only [Act.put, List.setIfInBounds_toArray, List.set_cons_zero, List.set_cons_succ]
          obtain ⟨hs, hk1⟩ := HL.after1 hs1 hx
          replace ho := hk1 _ _ ho
          clear hx hs1 hk1
          go_wp2_with fail
          go_loopw [15] (fun iv wr => ∃ i : Nat, i ≤ 4 ∧ iv = .int .i64 i ∧ SC w [(x2, (vs 32 13 p a)), (x1, (vb 32 21 a b)), (w.heap.size + 1, b), (w.heap.size, a)] OB wr) (fun iv _ => 4 - (intOf iv).toNat)
          case atStart => exact ⟨0, Nat.zero_le _, rfl, hs, ho⟩
          case round =>
            clear hs ho
            obtain ⟨i, hi, rfl, hs⟩ := hrel
            by_cases hlt : i < 4
            · have la : getN a 32 i < 4294967296 := getN_lt a 32 i
              have lb : getN b 32 i < 4294967296 := getN_lt b 32 i
              have HX := Lib.hid (sc32_21 a b i hlt)
              have HY := Lib.hid (sh32_13 a n i HNN.out hlt)
              obtain ⟨xv, hxv⟩ : ∃ v, v = getN (vb 32 21 a b) 32 i := ⟨_, rfl⟩
              obtain ⟨yv, hyv⟩ : ∃ v, v = getN (vs 32 13 p a) 32 i := ⟨_, rfl⟩
              have NB1 := fun W => nb 108 (getN a 32 i) (getN b 32 i) xv W (by omega) (by omega) (by decide) rfl (hxv.trans HX.out)
              have NB2 := fun W => nb 118 (getN a 32 i) n yv W (by omega) (by omega) (by decide) rfl (hyv.trans (HP.out ▸ HY.out))
              have HB1 := Lib.hid NB1
              have HB2 := Lib.hid NB2
              have GX := fun W => get32z (vb 32 21 a b) i i W rfl hlt
              have GY := fun W => get32z (vs 32 13 p a) i i W rfl hlt
              rw [← hxv] at GX
              rw [← hyv] at GY
              have HGX := Lib.hid GX
              have HGY := Lib.hid GY
              clear NB1 NB2 GX GY hxv hyv HX HY
              go_wp2_with fail
              refine region_do (SC w [(x2, (vs 32 13 p a)), (x1, (vb 32 21 a b)), (w.heap.size + 1, b), (w.heap.size, a)] OB) 16 (by kernel_rfl) (by kernel_rfl) hs.drew ?_
              simp only [List.take_succ_cons, List.take_zero, List.drop_succ_cons, List.drop_zero]
              repeat (first | (refine do_load rfl _ rfl _ rfl a (fun u hS => hS.hl.hold (_, a) (List.mem_cons_of_mem _ (List.mem_cons_of_mem _ (List.mem_cons_of_mem _ List.mem_cons_self)))) ?_; simp only [Act.put, List.setIfInBounds_toArray, List.set_cons_zero, List.set_cons_succ]) | (refine do_load rfl _ rfl _ rfl b (fun u hS => hS.hl.hold (_, b) (List.mem_cons_of_mem _ (List.mem_cons_of_mem _ List.mem_cons_self))) ?_; simp only [Act.put, List.setIfInBounds_toArray, List.set_cons_zero, List.set_cons_succ]) | (refine wpD_pure (v := ?_) rfl (fun u => ?_) ?_; rotate_left; (focus (go_simp; (try with_reducible rfl); done)); simp only [Act.put, List.setIfInBounds_toArray, List.set_cons_zero, List.set_cons_succ]))
              (refine wpD_call (v := .int .u64 (getN a 32 i : Nat)) rfl 16 ?_ (fun u => ?_) (fun u hS => ?_) ?_; rotate_left 1; (focus (go_simp; (try with_reducible rfl); done)); (focus (refine (get32z a _ i _ rfl hlt).mono ?_; rintro e u2 ⟨rfl, hb⟩; exact ⟨rfl, hS.below hb⟩)); simp only [Act.put, List.setIfInBounds_toArray, List.set_cons_zero, List.set_cons_succ])
              repeat (first | (refine do_load rfl _ rfl _ rfl a (fun u hS => hS.hl.hold (_, a) (List.mem_cons_of_mem _ (List.mem_cons_of_mem _ (List.mem_cons_of_mem _ List.mem_cons_self)))) ?_; simp only [Act.put, List.setIfInBounds_toArray, List.set_cons_zero, List.set_cons_succ]) | (refine do_load rfl _ rfl _ rfl b (fun u hS => hS.hl.hold (_, b) (List.mem_cons_of_mem _ (List.mem_cons_of_mem _ List.mem_cons_self))) ?_; simp only [Act.put, List.setIfInBounds_toArray, List.set_cons_zero, List.set_cons_succ]) | (refine wpD_pure (v := ?_) rfl (fun u => ?_) ?_; rotate_left; (focus (go_simp; (try with_reducible rfl); done)); simp only [Act.put, List.setIfInBounds_toArray, List.set_cons_zero, List.set_cons_succ]))
              (refine wpD_call (v := .int .u64 (getN b 32 i : Nat)) rfl 16 ?_ (fun u => ?_) (fun u hS => ?_) ?_; rotate_left 1; (focus (go_simp; (try with_reducible rfl); done)); (focus (refine (get32z b _ i _ rfl hlt).mono ?_; rintro e u2 ⟨rfl, hb⟩; exact ⟨rfl, hS.below hb⟩)); simp only [Act.put, List.setIfInBounds_toArray, List.set_cons_zero, List.set_cons_succ])
              repeat (refine wpD_pure (v := ?_) rfl (fun u => ?_) ?_; rotate_left; (focus (go_simp; (try with_reducible rfl); done)); simp only [Act.put, List.setIfInBounds_toArray, List.set_cons_zero, List.set_cons_succ])
              (refine wpD_call (v := .tuple #[.int .u64 (xv : Int), .int .i64 0]) rfl 26 ?_ (fun u => ?_) (fun u hS => ?_) ?_; rotate_left 1; (focus (go_simp; (try with_reducible rfl); done)); (focus (refine (HB1.out _).mono ?_; rintro e u2 ⟨rfl, hb⟩; exact ⟨rfl, hS.below hb⟩)); simp only [Act.put, List.setIfInBounds_toArray, List.set_cons_zero, List.set_cons_succ])
              repeat (refine wpD_pure (v := ?_) rfl (fun u => ?_) ?_; rotate_left; (focus (go_simp; (try with_reducible rfl); done)); simp only [Act.put, List.setIfInBounds_toArray, List.set_cons_zero, List.set_cons_succ])
              refine wpD_nil (fun wq hq => ?_)
              replace hs := hq
              clear hq HB1
              go_wp2_with (first | (with_reducible refine load_vec rfl _ rfl _ rfl a (hs.hl.hold (_, a) (List.mem_cons_of_mem _ (List.mem_cons_of_mem _ (List.mem_cons_of_mem _ List.mem_cons_self)))) ?_) | ((with_reducible refine load_vec_g ?_ _ rfl _ rfl a (hs.hl.hold (_, a) (List.mem_cons_of_mem _ (List.mem_cons_of_mem _ (List.mem_cons_of_mem _ List.mem_cons_self)))) ?_); (focus rfl)) | (with_reducible refine load_vec rfl _ rfl _ rfl (vb 32 21 a b) (hs.hl.hold (_, (vb 32 21 a b)) (List.mem_cons_of_mem _ List.mem_cons_self)) ?_) | ((with_reducible refine load_vec_g ?_ _ rfl _ rfl (vb 32 21 a b) (hs.hl.hold (_, (vb 32 21 a b)) (List.mem_cons_of_mem _ List.mem_cons_self)) ?_); (focus rfl)) | (with_reducible refine load_vec rfl _ rfl _ rfl (vs 32 13 p a) (hs.hl.hold (_, (vs 32 13 p a)) List.mem_cons_self) ?_) | ((with_reducible refine load_vec_g ?_ _ rfl _ rfl (vs 32 13 p a) (hs.hl.hold (_, (vs 32 13 p a)) List.mem_cons_self) ?_); (focus rfl)) | (go_at_call 16; (with_reducible refine (get32z a _ i _ rfl hlt).mono ?_); rintro e u ⟨rfl, hb⟩; replace hs := hs.below hb; clear hb) | (go_at_call 26; (with_reducible refine (HB2.out _).mono ?_); rintro e u ⟨rfl, hb⟩; replace hs := hs.below hb; clear hb) | (go_at_call 16; (with_reducible refine (HGX.out _).mono ?_); rintro e u ⟨rfl, hb⟩; replace hs := hs.below hb; clear hb) | (go_at_call 16; (with_reducible refine (HGY.out _).mono ?_); rintro e u ⟨rfl, hb⟩; replace hs := hs.below hb; clear hb))
              go_roundw
              case rel => first | exact ⟨i + 1, by omega, by go_num, hs⟩ | ((repeat apply Exists.intro); exact ⟨⟨i + 1, by omega, by go_num, hs⟩, rfl⟩)
              case measure => (simp [intOf] <;> omega)
            · obtain rfl : i = 4 := by omega
              go_wp2_with fail
              go_roundw
              case rel => first | exact ⟨3, by decide, rfl, HL.pop (HL.pop hs.hl), hs.ho⟩ | ((repeat apply Exists.intro); exact ⟨⟨3, by decide, rfl, HL.pop (HL.pop hs.hl), hs.ho⟩, rfl⟩)
              case measure => (simp [intOf] <;> omega)
        · go_wp2_with fail
          go_roundw
          case rel => first | exact ⟨64, by decide, rfl, hs⟩ | ((repeat apply Exists.intro); exact ⟨⟨64, by decide, rfl, hs⟩, rfl⟩)
          case measure => (simp [intOf] <;> omega)
    · go_wp2_with fail
      obtain ⟨OB, hOB⟩ : ∃ B, B = wr.heap.size := ⟨_, rfl⟩
      have ho : (wr.alloc (.cells #[.int .i64 14, .int .i64 17, .int .i64 21] 3)).heap[OB]? = some (.cells #[.int .i64 14, .int .i64 17, .int .i64 21] 3 (0, 0)) := by rw [hOB]; exact heap_alloc_new _ _
      replace hs := HL.allocz hs (.cells #[.int .i64 14, .int .i64 17, .int .i64 21] 3)
      rw [← hOB]
      generalize wr.alloc (.cells #[.int .i64 14, .int .i64 17, .int .i64 21] 3) = W1 at hs ho ⊢
      clear hOB wr
      go_loopw [11] (fun kv wr => ∃ k : Int, (k = 0 ∨ k = 1 ∨ k = 2 ∨ k = 3) ∧ kv = .int .i64 k ∧ HL w [(w.heap.size + 1, b), (w.heap.size, a)] wr ∧ wr.heap[OB]? = some (.cells #[.int .i64 14, .int .i64 17, .int .i64 21] 3 (0, 0))) (fun kv _ => (3 - intOf kv).toNat)
      case atStart => exact ⟨0, .inl rfl, rfl, hs, ho⟩
      case round =>
        clear hs ho
        obtain ⟨k, hk, rfl, hs, ho⟩ := hrel
        rcases hk with rfl | rfl | rfl | rfl
        · as_aux_lemma =>
          go_wp2_with fail
          refine region_new0z wr [(w.heap.size + 1, b), (w.heap.size, a)] 9 8 [0, 1, 2, 3, 4, 5, 6, 7] (by kernel_rfl) rfl rfl rfl (N1.start 0 (Below.refl _ _) hs.hold).drew ?_
          simp only [opsAt, List.getElem?_cons_zero, List.getElem?_cons_succ, List.drop_succ_cons, List.drop_zero]
          repeat (first | (refine do_loadIA rfl _ rfl _ _ rfl (.int .i64 14) (fun D u hS => by rw [cell_of_row u _ _ _ _ _ (blk_keep ho hS.bel)]; rfl) ?_; simp only [Act.put, List.setIfInBounds_toArray, List.set_cons_zero, List.set_cons_succ]) | (refine do_loadA rfl _ rfl _ rfl a (fun D u hS => hS.hold (_, a) (List.mem_cons_of_mem _ List.mem_cons_self)) ?_; simp only [Act.put, List.setIfInBounds_toArray, List.set_cons_zero, List.set_cons_succ]) | (refine do_loadA rfl _ rfl _ rfl b (fun D u hS => hS.hold (_, b) List.mem_cons_self) ?_; simp only [Act.put, List.setIfInBounds_toArray, List.set_cons_zero, List.set_cons_succ]) | (refine wpDA_pure (v := ?_) rfl (fun u => ?_) ?_; rotate_left; (focus (go_simp; (try with_reducible rfl); done)); simp only [Act.put, List.setIfInBounds_toArray, List.set_cons_zero, List.set_cons_succ]))
          (refine wpDA_call (v := .agg (cells (vb 64 14 a b))) rfl 19 ?_ (fun u => ?_) (fun D u hS => ?_) ?_; rotate_left 1; (focus (go_simp; (try with_reducible rfl); done)); (focus (refine (two_64_14 a b _).mono ?_; rintro e u2 ⟨rfl, hb⟩; exact ⟨rfl, hS.below hb⟩)); simp only [Act.put, List.setIfInBounds_toArray, List.set_cons_zero, List.set_cons_succ])
          refine wpDA_nil (fun x1 wx hx => ?_)
          unfold ptr
          simp only [Act.put, List.setIfInBounds_toArray, List.set_cons_zero, List.set_cons_succ]
          go_wp2_with (with_reducible refine store_vec rfl _ _ rfl _ _ rfl rfl 0 (hx.new x1 false rfl).1 ?_; intro wA hA)
          obtain ⟨hs1, hk1⟩ := HL.after0 hs hx hA
          replace ho := hk1 _ _ ho
          clear hx hA hs hk1
          refine region_new1 wA [(x1, (vb 64 14 a b)), (w.heap.size + 1, b), (w.heap.size, a)] (vs 64 11 q a) 13 11 12 [0, 1, 2, 3, 4, 5, 6, 7, 8, 9, 10] (by kernel_rfl) rfl rfl rfl rfl rfl _ _ rfl rfl (N1.start _ (Below.refl _ _) hs1.hold).drew ?_
          simp only [opsAt, List.getElem?_cons_zero, List.getElem?_cons_succ, List.drop_succ_cons, List.drop_zero]
          (refine wpDA_pure (v := ?_) rfl (fun u => ?_) ?_; rotate_left; (focus (go_simp; (try with_reducible rfl); done)); simp only [Act.put, List.setIfInBounds_toArray, List.set_cons_zero, List.set_cons_succ])
          (refine wpDA_call (v := .int .i64 64960) rfl 25 ?_ (fun u => ?_) (fun D u hS => ?_) ?_; rotate_left 1; (focus (go_simp; (try with_reducible rfl); done)); (focus (refine (same_below (base64 _)).mono ?_; rintro e u2 ⟨rfl, hb⟩; exact ⟨rfl, hS.below hb⟩)); simp only [Act.put, List.setIfInBounds_toArray, List.set_cons_zero, List.set_cons_succ])
          repeat (first | (refine do_loadA rfl _ rfl _ rfl a (fun D u hS => hS.hold (_, a) (List.mem_cons_of_mem _ (List.mem_cons_of_mem _ List.mem_cons_self))) ?_; simp only [Act.put, List.setIfInBounds_toArray, List.set_cons_zero, List.set_cons_succ]) | (refine wpDA_pure (v := ?_) rfl (fun u => ?_) ?_; rotate_left; (focus (go_simp; (try with_reducible rfl); done)); simp only [Act.put, List.setIfInBounds_toArray, List.set_cons_zero, List.set_cons_succ]))
          (refine wpDA_call (v := .tuple #[.agg (cells (vs 64 11 q a)), .int .i64 0]) rfl 14 ?_ (fun u => ?_) (fun D u hS => ?_) ?_; rotate_left 1; (focus (go_simp; (try with_reducible rfl); done)); (focus (refine (sh_64_11 a n q _ HQ.out HNN.out).mono ?_; rintro e u2 ⟨rfl, hb⟩; exact ⟨rfl, hS.below hb⟩)); simp only [Act.put, List.setIfInBounds_toArray, List.set_cons_zero, List.set_cons_succ])
          repeat (refine wpDA_pure (v := ?_) rfl (fun u => ?_) ?_; rotate_left; (focus (go_simp; (try with_reducible rfl); done)); simp only [Act.put, List.setIfInBounds_toArray, List.set_cons_zero, List.set_cons_succ])
          refine wpDA_nil (fun x2 => ⟨rfl, rfl, fun wx hx => ?_⟩)
          unfold ptr
          simp only [Act.put, List.setIfInBounds_toArray, List.set_cons_zero, List.set_cons_succ]
          obtain ⟨hs, hk1⟩ := HL.after1 hs1 hx
          replace ho := hk1 _ _ ho
          clear hx hs1 hk1
          go_wp2_with fail
          go_loopw [15] (fun iv wr => ∃ i : Nat, i ≤ 2 ∧ iv = .int .i64 i ∧ SC w [(x2, (vs 64 11 q a)), (x1, (vb 64 14 a b)), (w.heap.size + 1, b), (w.heap.size, a)] OB wr) (fun iv _ => 2 - (intOf iv).toNat)
          case atStart => exact ⟨0, Nat.zero_le _, rfl, hs, ho⟩
          case round =>
            clear hs ho
            obtain ⟨i, hi, rfl, hs⟩ := hrel
            by_cases hlt : i < 2
            · have la : getN a 64 i < 18446744073709551616 := getN_lt a 64 i
              have lb : getN b 64 i < 18446744073709551616 := getN_lt b 64 i
              have HX := Lib.hid (sc64_14 a b i hlt)
              have HY := Lib.hid (sh64_11 a n i HNN.out hlt)
              obtain ⟨xv, hxv⟩ : ∃ v, v = getN (vb 64 14 a b) 64 i := ⟨_, rfl⟩
              obtain ⟨yv, hyv⟩ : ∃ v, v = getN (vs 64 11 q a) 64 i := ⟨_, rfl⟩
              have NB1 := fun W => nb 124 (getN a 64 i) (getN b 64 i) xv W (by omega) (by omega) (by decide) rfl (hxv.trans HX.out)
              have NB2 := fun W => nb 134 (getN a 64 i) n yv W (by omega) (by omega) (by decide) rfl (hyv.trans (HQ.out ▸ HY.out))
              have HB1 := Lib.hid NB1
              have HB2 := Lib.hid NB2
              have GX := fun W => get64z (vb 64 14 a b) i i W rfl hlt
              have GY := fun W => get64z (vs 64 11 q a) i i W rfl hlt
              rw [← hxv] at GX
              rw [← hyv] at GY
              have HGX := Lib.hid GX
              have HGY := Lib.hid GY
              clear NB1 NB2 GX GY hxv hyv HX HY
              go_wp2_with fail
              refine region_do (SC w [(x2, (vs 64 11 q a)), (x1, (vb 64 14 a b)), (w.heap.size + 1, b), (w.heap.size, a)] OB) 16 (by kernel_rfl) (by kernel_rfl) hs.drew ?_
              simp only [List.take_succ_cons, List.take_zero, List.drop_succ_cons, List.drop_zero]
              repeat (first | (refine do_load rfl _ rfl _ rfl a (fun u hS => hS.hl.hold (_, a) (List.mem_cons_of_mem _ (List.mem_cons_of_mem _ (List.mem_cons_of_mem _ List.mem_cons_self)))) ?_; simp only [Act.put, List.setIfInBounds_toArray, List.set_cons_zero, List.set_cons_succ]) | (refine do_load rfl _ rfl _ rfl b (fun u hS => hS.hl.hold (_, b) (List.mem_cons_of_mem _ (List.mem_cons_of_mem _ List.mem_cons_self))) ?_; simp only [Act.put, List.setIfInBounds_toArray, List.set_cons_zero, List.set_cons_succ]) | (refine wpD_pure (v := ?_) rfl (fun u => ?_) ?_; rotate_left; (focus (go_simp; (try with_reducible rfl); done)); simp only [Act.put, List.setIfInBounds_toArray, List.set_cons_zero, List.set_cons_succ]))
              (refine wpD_call (v := .int .u64 (getN a 64 i : Nat)) rfl 16 ?_ (fun u => ?_) (fun u hS => ?_) ?_; rotate_left 1; (focus (go_simp; (try with_reducible rfl); done)); (focus (refine (get64z a _ i _ rfl hlt).mono ?_; rintro e u2 ⟨rfl, hb⟩; exact ⟨rfl, hS.below hb⟩)); simp only [Act.put, List.setIfInBounds_toArray, List.set_cons_zero, List.set_cons_succ])
              repeat (first | (refine do_load rfl _ rfl _ rfl a (fun u hS => hS.hl.hold (_, a) (List.mem_cons_of_mem _ (List.mem_cons_of_mem _ (List.mem_cons_of_mem _ List.mem_cons_self)))) ?_; simp only [Act.put, List.setIfInBounds_toArray, List.set_cons_zero, List.set_cons_succ]) | (refine do_load rfl _ rfl _ rfl b (fun u hS => hS.hl.hold (_, b) (List.mem_cons_of_mem _ (List.mem_cons_of_mem _ List.mem_cons_self))) ?_; simp only [Act.put, List.setIfInBounds_toArray, List.set_cons_zero, List.set_cons_succ]) | (refine wpD_pure (v := ?_) rfl (fun u => ?_) ?_; rotate_left; (focus (go_simp; (try with_reducible rfl); done)); simp only [Act.put, List.setIfInBounds_toArray, List.set_cons_zero, List.set_cons_succ]))
              (refine wpD_call (v := .int .u64 (getN b 64 i : Nat)) rfl 16 ?_ (fun u => ?_) (fun u hS => ?_) ?_; rotate_left 1; (focus (go_simp; (try with_reducible rfl); done)); (focus (refine (get64z b _ i _ rfl hlt).mono ?_; rintro e u2 ⟨rfl, hb⟩; exact ⟨rfl, hS.below hb⟩)); simp only [Act.put, List.setIfInBounds_toArray, List.set_cons_zero, List.set_cons_succ])
              repeat (refine wpD_pure (v := ?_) rfl (fun u => ?_) ?_; rotate_left; (focus (go_simp; (try with_reducible rfl); done)); simp only [Act.put, List.setIfInBounds_toArray, List.set_cons_zero, List.set_cons_succ])
              (refine wpD_call (v := .tuple #[.int .u64 (xv : Int), .int .i64 0]) rfl 26 ?_ (fun u => ?_) (fun u hS => ?_) ?_; rotate_left 1; (focus (go_simp; (try with_reducible rfl); done)); (focus (refine (HB1.out _).mono ?_; rintro e u2 ⟨rfl, hb⟩; exact ⟨rfl, hS.below hb⟩)); simp only [Act.put, List.setIfInBounds_toArray, List.set_cons_zero, List.set_cons_succ])
              repeat (refine wpD_pure (v := ?_) rfl (fun u => ?_) ?_; rotate_left; (focus (go_simp; (try with_reducible rfl); done)); simp only [Act.put, List.setIfInBounds_toArray, List.set_cons_zero, List.set_cons_succ])
              refine wpD_nil (fun wq hq => ?_)
              replace hs := hq
              clear hq HB1
              go_wp2_with (first | (with_reducible refine load_vec rfl _ rfl _ rfl a (hs.hl.hold (_, a) (List.mem_cons_of_mem _ (List.mem_cons_of_mem _ (List.mem_cons_of_mem _ List.mem_cons_self)))) ?_) | ((with_reducible refine load_vec_g ?_ _ rfl _ rfl a (hs.hl.hold (_, a) (List.mem_cons_of_mem _ (List.mem_cons_of_mem _ (List.mem_cons_of_mem _ List.mem_cons_self)))) ?_); (focus rfl)) | (with_reducible refine load_vec rfl _ rfl _ rfl (vb 64 14 a b) (hs.hl.hold (_, (vb 64 14 a b)) (List.mem_cons_of_mem _ List.mem_cons_self)) ?_) | ((with_reducible refine load_vec_g ?_ _ rfl _ rfl (vb 64 14 a b) (hs.hl.hold (_, (vb 64 14 a b)) (List.mem_cons_of_mem _ List.mem_cons_self)) ?_); (focus rfl)) | (with_reducible refine load_vec rfl _ rfl _ rfl (vs 64 11 q a) (hs.hl.hold (_, (vs 64 11 q a)) List.mem_cons_self) ?_) | ((with_reducible refine load_vec_g ?_ _ rfl _ rfl (vs 64 11 q a) (hs.hl.hold (_, (vs 64 11 q a)) List.mem_cons_self) ?_); (focus rfl)) | (go_at_call 16; (with_reducible refine (get64z a _ i _ rfl hlt).mono ?_); rintro e u ⟨rfl, hb⟩; replace hs := hs.below hb; clear hb) | (go_at_call 26; (with_reducible refine (HB2.out _).mono ?_); rintro e u ⟨rfl, hb⟩; replace hs := hs.below hb; clear hb) | (go_at_call 16; (with_reducible refine (HGX.out _).mono ?_); rintro e u ⟨rfl, hb⟩; replace hs := hs.below hb; clear hb) | (go_at_call 16; (with_reducible refine (HGY.out _).mono ?_); rintro e u ⟨rfl, hb⟩; replace hs := hs.below hb; clear hb))
              go_roundw
              case rel => first | exact ⟨i + 1, by omega, by go_num, hs⟩ | ((repeat apply Exists.intro); exact ⟨⟨i + 1, by omega, by go_num, hs⟩, rfl⟩)
              case measure => (simp [intOf] <;> omega)
            · obtain rfl : i = 2 := by omega
              go_wp2_with fail
              go_roundw
              case rel => first | exact ⟨1, by decide, rfl, HL.pop (HL.pop hs.hl), hs.ho⟩ | ((repeat apply Exists.intro); exact ⟨⟨1, by decide, rfl, HL.pop (HL.pop hs.hl), hs.ho⟩, rfl⟩)
              case measure => (simp [intOf] <;> omega)
        · as_aux_lemma =>
          go_wp2_with fail
          refine region_new0z wr [(w.heap.size + 1, b), (w.heap.size, a)] 9 8 [0, 1, 2, 3, 4, 5, 6, 7] (by kernel_rfl) rfl rfl rfl (N1.start 0 (Below.refl _ _) hs.hold).drew ?_
          simp only [opsAt, List.getElem?_cons_zero, List.getElem?_cons_succ, List.drop_succ_cons, List.drop_zero]
          repeat (first | (refine do_loadIA rfl _ rfl _ _ rfl (.int .i64 17) (fun D u hS => by rw [cell_of_row u _ _ _ _ _ (blk_keep ho hS.bel)]; rfl) ?_; simp only [Act.put, List.setIfInBounds_toArray, List.set_cons_zero, List.set_cons_succ]) | (refine do_loadA rfl _ rfl _ rfl a (fun D u hS => hS.hold (_, a) (List.mem_cons_of_mem _ List.mem_cons_self)) ?_; simp only [Act.put, List.setIfInBounds_toArray, List.set_cons_zero, List.set_cons_succ]) | (refine do_loadA rfl _ rfl _ rfl b (fun D u hS => hS.hold (_, b) List.mem_cons_self) ?_; simp only [Act.put, List.setIfInBounds_toArray, List.set_cons_zero, List.set_cons_succ]) | (refine wpDA_pure (v := ?_) rfl (fun u => ?_) ?_; rotate_left; (focus (go_simp; (try with_reducible rfl); done)); simp only [Act.put, List.setIfInBounds_toArray, List.set_cons_zero, List.set_cons_succ]))
          (refine wpDA_call (v := .agg (cells (vb 64 17 a b))) rfl 19 ?_ (fun u => ?_) (fun D u hS => ?_) ?_; rotate_left 1; (focus (go_simp; (try with_reducible rfl); done)); (focus (refine (two_64_17 a b _).mono ?_; rintro e u2 ⟨rfl, hb⟩; exact ⟨rfl, hS.below hb⟩)); simp only [Act.put, List.setIfInBounds_toArray, List.set_cons_zero, List.set_cons_succ])
          refine wpDA_nil (fun x1 wx hx => ?_)
          unfold ptr
          simp only [Act.put, List.setIfInBounds_toArray, List.set_cons_zero, List.set_cons_succ]
          go_wp2_with (with_reducible refine store_vec rfl _ _ rfl _ _ rfl rfl 0 (hx.new x1 false rfl).1 ?_; intro wA hA)
          obtain ⟨hs1, hk1⟩ := HL.after0 hs hx hA
          replace ho := hk1 _ _ ho
          clear hx hA hs hk1
          refine region_new1 wA [(x1, (vb 64 17 a b)), (w.heap.size + 1, b), (w.heap.size, a)] (vs 64 12 q a) 13 11 12 [0, 1, 2, 3, 4, 5, 6, 7, 8, 9, 10] (by kernel_rfl) rfl rfl rfl rfl rfl _ _ rfl rfl (N1.start _ (Below.refl _ _) hs1.hold).drew ?_
          simp only [opsAt, List.getElem?_cons_zero, List.getElem?_cons_succ, List.drop_succ_cons, List.drop_zero]
          (refine wpDA_pure (v := ?_) rfl (fun u => ?_) ?_; rotate_left; (focus (go_simp; (try with_reducible rfl); done)); simp only [Act.put, List.setIfInBounds_toArray, List.set_cons_zero, List.set_cons_succ])
          (refine wpDA_call (v := .int .i64 64960) rfl 25 ?_ (fun u => ?_) (fun D u hS => ?_) ?_; rotate_left 1; (focus (go_simp; (try with_reducible rfl); done)); (focus (refine (same_below (base64 _)).mono ?_; rintro e u2 ⟨rfl, hb⟩; exact ⟨rfl, hS.below hb⟩)); simp only [Act.put, List.setIfInBounds_toArray, List.set_cons_zero, List.set_cons_succ])
          repeat (first | (refine do_loadA rfl _ rfl _ rfl a (fun D u hS => hS.hold (_, a) (List.mem_cons_of_mem _ (List.mem_cons_of_mem _ List.mem_cons_self))) ?_; simp only [Act.put, List.setIfInBounds_toArray, List.set_cons_zero, List.set_cons_succ]) | (refine wpDA_pure (v := ?_) rfl (fun u => ?_) ?_; rotate_left; (focus (go_simp; (try with_reducible rfl); done)); simp only [Act.put, List.setIfInBounds_toArray, List.set_cons_zero, List.set_cons_succ]))
          (refine wpDA_call (v := .tuple #[.agg (cells (vs 64 12 q a)), .int .i64 0]) rfl 14 ?_ (fun u => ?_) (fun D u hS => ?_) ?_; rotate_left 1; (focus (go_simp; (try with_reducible rfl); done)); (focus (refine (sh_64_12 a n q _ HQ.out HNN.out).mono ?_; rintro e u2 ⟨rfl, hb⟩; exact ⟨rfl, hS.below hb⟩)); simp only [Act.put, List.setIfInBounds_toArray, List.set_cons_zero, List.set_cons_succ])
          repeat (refine wpDA_pure (v := ?_) rfl (fun u => ?_) ?_; rotate_left; (focus (go_simp; (try with_reducible rfl); done)); simp only [Act.put, List.setIfInBounds_toArray, List.set_cons_zero, List.set_cons_succ])
          refine wpDA_nil (fun x2 => ⟨rfl, rfl, fun wx hx => ?_⟩)
          unfold ptr
          simp only [Act.put, List.setIfInBounds_toArray, List.set_cons_zero, List.set_cons_succ]
          obtain ⟨hs, hk1⟩ := HL.after1 hs1 hx
          replace ho := hk1 _ _ ho
          clear hx hs1 hk1
          go_wp2_with fail
          go_loopw [15] (fun iv wr => ∃ i : Nat, i ≤ 2 ∧ iv = .int .i64 i ∧ SC w [(x2, (vs 64 12 q a)), (x1, (vb 64 17 a b)), (w.heap.size + 1, b), (w.heap.size, a)] OB wr) (fun iv _ => 2 - (intOf iv).toNat)
          case atStart => exact ⟨0, Nat.zero_le _, rfl, hs, ho⟩
          case round =>
            clear hs ho
            obtain ⟨i, hi, rfl, hs⟩ := hrel
            by_cases hlt : i < 2
            · have la : getN a 64 i < 18446744073709551616 := getN_lt a 64 i
              have lb : getN b 64 i < 18446744073709551616 := getN_lt b 64 i
              have HX := Lib.hid (sc64_17 a b i hlt)
              have HY := Lib.hid (sh64_12 a n i HNN.out hlt)
              obtain ⟨xv, hxv⟩ : ∃ v, v = getN (vb 64 17 a b) 64 i := ⟨_, rfl⟩
              obtain ⟨yv, hyv⟩ : ∃ v, v = getN (vs 64 12 q a) 64 i := ⟨_, rfl⟩
              have NB1 := fun W => nb 125 (getN a 64 i) (getN b 64 i) xv W (by omega) (by omega) (by decide) rfl (hxv.trans HX.out)
              have NB2 := fun W => nb 135 (getN a 64 i) n yv W (by omega) (by omega) (by decide) rfl (hyv.trans (HQ.out ▸ HY.out))
              have HB1 := Lib.hid NB1
              have HB2 := Lib.hid NB2
              have GX := fun W => get64z (vb 64 17 a b) i i W rfl hlt
              have GY := fun W => get64z (vs 64 12 q a) i i W rfl hlt
              rw [← hxv] at GX
              rw [← hyv] at GY
              have HGX := Lib.hid GX
              have HGY := Lib.hid GY
              clear NB1 NB2 GX GY hxv hyv HX HY
              go_wp2_with fail
              refine region_do (SC w [(x2, (vs 64 12 q a)), (x1, (vb 64 17 a b)), (w.heap.size + 1, b), (w.heap.size, a)] OB) 16 (by kernel_rfl) (by kernel_rfl) hs.drew ?_
              simp only [List.take_succ_cons, List.take_zero, List.drop_succ_cons, List.drop_zero]
              repeat (first | (refine do_load rfl _ rfl _ rfl a (fun u hS => hS.hl.hold (_, a) (List.mem_cons_of_mem _ (List.mem_cons_of_mem _ (List.mem_cons_of_mem _ List.mem_cons_self)))) ?_; simp only [Act.put, List.setIfInBounds_toArray, List.set_cons_zero, List.set_cons_succ]) | (refine do_load rfl _ rfl _ rfl b (fun u hS => hS.hl.hold (_, b) (List.mem_cons_of_mem _ (List.mem_cons_of_mem _ List.mem_cons_self))) ?_; simp only [Act.put, List.setIfInBounds_toArray, List.set_cons_zero, List.set_cons_succ]) | (refine wpD_pure (v := ?_) rfl (fun u => ?_) ?_; rotate_left; (focus (go_simp; (try with_reducible rfl); done)); simp only [Act.put, List.setIfInBounds_toArray, List.set_cons_zero, List.set_cons_succ]))
              (refine wpD_call (v := .int .u64 (getN a 64 i : Nat)) rfl 16 ?_ (fun u => ?_) (fun u hS => ?_) ?_; rotate_left 1; (focus (go_simp; (try with_reducible rfl); done)); (focus (refine (get64z a _ i _ rfl hlt).mono ?_; rintro e u2 ⟨rfl, hb⟩; exact ⟨rfl, hS.below hb⟩)); simp only [Act.put, List.setIfInBounds_toArray, List.set_cons_zero, List.set_cons_succ])
              repeat (first | (refine do_load rfl _ rfl _ rfl a (fun u hS => hS.hl.hold (_, a) (List.mem_cons_of_mem _ (List.mem_cons_of_mem _ (List.mem_cons_of_mem _ List.mem_cons_self)))) ?_; simp only [Act.put, List.setIfInBounds_toArray, List.set_cons_zero, List.set_cons_succ]) | (refine do_load rfl _ rfl _ rfl b (fun u hS => hS.hl.hold (_, b) (List.mem_cons_of_mem _ (List.mem_cons_of_mem _ List.mem_cons_self))) ?_; simp only [Act.put, List.setIfInBounds_toArray, List.set_cons_zero, List.set_cons_succ]) | (refine wpD_pure (v := ?_) rfl (fun u => ?_) ?_; rotate_left; (focus (go_simp; (try with_reducible rfl); done)); simp only [Act.put, List.setIfInBounds_toArray, List.set_cons_zero, List.set_cons_succ]))
              (refine wpD_call (v := .int .u64 (getN b 64 i : Nat)) rfl 16 ?_ (fun u => ?_) (fun u hS => ?_) ?_; rotate_left 1; (focus (go_simp; (try with_reducible rfl); done)); (focus (refine (get64z b _ i _ rfl hlt).mono ?_; rintro e u2 ⟨rfl, hb⟩; exact ⟨rfl, hS.below hb⟩)); simp only [Act.put, List.setIfInBounds_toArray, List.set_cons_zero, List.set_cons_succ])
              repeat (refine wpD_pure (v := ?_) rfl (fun u => ?_) ?_; rotate_left; (focus (go_simp; (try with_reducible rfl); done)); simp only [Act.put, List.setIfInBounds_toArray, List.set_cons_zero, List.set_cons_succ])
              (refine wpD_call (v := .tuple #[.int .u64 (xv : Int), .int .i64 0]) rfl 26 ?_ (fun u => ?_) (fun u hS => ?_) ?_; rotate_left 1; (focus (go_simp; (try with_reducible rfl); done)); (focus (refine (HB1.out _).mono ?_; rintro e u2 ⟨rfl, hb⟩; exact ⟨rfl, hS.below hb⟩)); simp only [Act.put, List.setIfInBounds_toArray, List.set_cons_zero, List.set_cons_succ])
              repeat (refine wpD_pure (v := ?_) rfl (fun u => ?_) ?_; rotate_left; (focus (go_simp; (try with_reducible rfl); done)); simp only [Act.put, List.setIfInBounds_toArray, List.set_cons_zero, List.set_cons_succ])
              refine wpD_nil (fun wq hq => ?_)
              replace hs := hq
              clear hq HB1
              go_wp2_with (first | (with_reducible refine load_vec rfl _ rfl _ rfl a (hs.hl.hold (_, a) (List.mem_cons_of_mem _ (List.mem_cons_of_mem _ (List.mem_cons_of_mem _ List.mem_cons_self)))) ?_) | ((with_reducible refine load_vec_g ?_ _ rfl _ rfl a (hs.hl.hold (_, a) (List.mem_cons_of_mem _ (List.mem_cons_of_mem _ (List.mem_cons_of_mem _ List.mem_cons_self)))) ?_); (focus rfl)) | (with_reducible refine load_vec rfl _ rfl _ rfl (vb 64 17 a b) (hs.hl.hold (_, (vb 64 17 a b)) (List.mem_cons_of_mem _ List.mem_cons_self)) ?_) | ((with_reducible refine load_vec_g ?_ _ rfl _ rfl (vb 64 17 a b) (hs.hl.hold (_, (vb 64 17 a b)) (List.mem_cons_of_mem _ List.mem_cons_self)) ?_); (focus rfl)) | (with_reducible refine load_vec rfl _ rfl _ rfl (vs 64 12 q a) (hs.hl.hold (_, (vs 64 12 q a)) List.mem_cons_self) ?_) | ((with_reducible refine load_vec_g ?_ _ rfl _ rfl (vs 64 12 q a) (hs.hl.hold (_, (vs 64 12 q a)) List.mem_cons_self) ?_); (focus rfl)) | (go_at_call 16; (with_reducible refine (get64z a _ i _ rfl hlt).mono ?_); rintro e u ⟨rfl, hb⟩; replace hs := hs.below hb; clear hb) | (go_at_call 26; (with_reducible refine (HB2.out _).mono ?_); rintro e u ⟨rfl, hb⟩; replace hs := hs.below hb; clear hb) | (go_at_call 16; (with_reducible refine (HGX.out _).mono ?_); rintro e u ⟨rfl, hb⟩; replace hs := hs.below hb; clear hb) | (go_at_call 16; (with_reducible refine (HGY.out _).mono ?_); rintro e u ⟨rfl, hb⟩; replace hs := hs.below hb; clear hb))
              go_roundw
              case rel => first | exact ⟨i + 1, by omega, by go_num, hs⟩ | ((repeat apply Exists.intro); exact ⟨⟨i + 1, by omega, by go_num, hs⟩, rfl⟩)
              case measure => (simp [intOf] <;> omega)
            · obtain rfl : i = 2 := by omega
              go_wp2_with fail
              go_roundw
              case rel => first | exact ⟨2, by decide, rfl, HL.pop (HL.pop hs.hl), hs.ho⟩ | ((repeat apply Exists.intro); exact ⟨⟨2, by decide, rfl, HL.pop (HL.pop hs.hl), hs.ho⟩, rfl⟩)
              case measure => (simp [intOf] <;> omega)
        · as_aux_lemma =>
          go_wp2_with fail
          refine region_new0z wr [(w.heap.size + 1, b), (w.heap.size, a)] 9 8 [0, 1, 2, 3, 4, 5, 6, 7] (by kernel_rfl) rfl rfl rfl (N1.start 0 (Below.refl _ _) hs.hold).drew ?_
          simp only [opsAt, List.getElem?_cons_zero, List.getElem?_cons_succ, List.drop_succ_cons, List.drop_zero]
          repeat (first | (refine do_loadIA rfl _ rfl _ _ rfl (.int .i64 21) (fun D u hS => by rw [cell_of_row u _ _ _ _ _ (blk_keep ho hS.bel)]; rfl) ?_; simp only [Act.put, List.setIfInBounds_toArray, List.set_cons_zero, List.set_cons_succ]) | (refine do_loadA rfl _ rfl _ rfl a (fun D u hS => hS.hold (_, a) (List.mem_cons_of_mem _ List.mem_cons_self)) ?_; simp only [Act.put, List.setIfInBounds_toArray, List.set_cons_zero, List.set_cons_succ]) | (refine do_loadA rfl _ rfl _ rfl b (fun D u hS => hS.hold (_, b) List.mem_cons_self) ?_; simp only [Act.put, List.setIfInBounds_toArray, List.set_cons_zero, List.set_cons_succ]) | (refine wpDA_pure (v := ?_) rfl (fun u => ?_) ?_; rotate_left; (focus (go_simp; (try with_reducible rfl); done)); simp only [Act.put, List.setIfInBounds_toArray, List.set_cons_zero, List.set_cons_succ]))
          (refine wpDA_call (v := .agg (cells (vb 64 21 a b))) rfl 19 ?_ (fun u => ?_) (fun D u hS => ?_) ?_; rotate_left 1; (focus (go_simp; (try with_reducible rfl); done)); (focus (refine (two_64_21 a b _).mono ?_; rintro e u2 ⟨rfl, hb⟩; exact ⟨rfl, hS.below hb⟩)); simp only [Act.put, List.setIfInBounds_toArray, List.set_cons_zero, List.set_cons_succ])
          refine wpDA_nil (fun x1 wx hx => ?_)
          unfold ptr
          simp only [Act.put, List.setIfInBounds_toArray, List.set_cons_zero, List.set_cons_succ]
          go_wp2_with (with_reducible refine store_vec rfl _ _ rfl _ _ rfl rfl 0 (hx.new x1 false rfl).1 ?_; intro wA hA)
          obtain ⟨hs1, hk1⟩ := HL.after0 hs hx hA
          replace ho := hk1 _ _ ho
          clear hx hA hs hk1
          refine region_new1 wA [(x1, (vb 64 21 a b)), (w.heap.size + 1, b), (w.heap.size, a)] (vs 64 13 q a) 13 11 12 [0, 1, 2, 3, 4, 5, 6, 7, 8, 9, 10] (by kernel_rfl) rfl rfl rfl rfl rfl _ _ rfl rfl (N1.start _ (Below.refl _ _) hs1.hold).drew ?_
          simp only [opsAt, List.getElem?_cons_zero, List.getElem?_cons_succ, List.drop_succ_cons, List.drop_zero]
          (refine wpDA_pure (v := ?_) rfl (fun u => ?_) ?_; rotate_left; (focus (go_simp; (try with_reducible rfl); done)); simp only [Act.put, List.setIfInBounds_toArray, List.set_cons_zero, List.set_cons_succ])
          (refine wpDA_call (v := .int .i64 64960) rfl 25 ?_ (fun u => ?_) (fun D u hS => ?_) ?_; rotate_left 1; (focus (go_simp; (try with_reducible rfl); done)); (focus (refine (same_below (base64 _)).mono ?_; rintro e u2 ⟨rfl, hb⟩; exact ⟨rfl, hS.below hb⟩)); simp only [Act.put, List.setIfInBounds_toArray, List.set_cons_zero, List.set_cons_succ])
          repeat (first | (refine do_loadA rfl _ rfl _ rfl a (fun D u hS => hS.hold (_, a) (List.mem_cons_of_mem _ (List.mem_cons_of_mem _ List.mem_cons_self))) ?_; simp only [Act.put, List.setIfInBounds_toArray, List.set_cons_zero, List.set_cons_succ]) | (refine wpDA_pure (v := ?_) rfl (fun u => ?_) ?_; rotate_left; (focus (go_simp; (try with_reducible rfl); done)); simp only [Act.put, List.setIfInBounds_toArray, List.set_cons_zero, List.set_cons_succ]))
          (refine wpDA_call (v := .tuple #[.agg (cells (vs 64 13 q a)), .int .i64 0]) rfl 14 ?_ (fun u => ?_) (fun D u hS => ?_) ?_; rotate_left 1; (focus (go_simp; (try with_reducible rfl); done)); (focus (refine (sh_64_13 a n q _ HQ.out HNN.out).mono ?_; rintro e u2 ⟨rfl, hb⟩; exact ⟨rfl, hS.below hb⟩)); simp only [Act.put, List.setIfInBounds_toArray, List.set_cons_zero, List.set_cons_succ])
          repeat (refine wpDA_pure (v := ?_) rfl (fun u => ?_) ?_; rotate_left; (focus (go_simp; (try with_reducible rfl); done)); simp only [Act.put, List.setIfInBounds_toArray, List.set_cons_zero, List.set_cons_succ])
          refine wpDA_nil (fun x2 => ⟨rfl, rfl, fun wx hx => ?_⟩)
          unfold ptr
          simp only [Act.put, List.setIfInBounds_toArray, List.set_cons_zero, List.set_cons_succ]
          obtain ⟨hs, hk1⟩ := HL.after1 hs1 hx
          replace ho := hk1 _ _ ho
          clear hx hs1 hk1
          go_wp2_with fail
          go_loopw [15] (fun iv wr => ∃ i : Nat, i ≤ 2 ∧ iv = .int .i64 i ∧ SC w [(x2, (vs 64 13 q a)), (x1, (vb 64 21 a b)), (w.heap.size + 1, b), (w.heap.size, a)] OB wr) (fun iv _ => 2 - (intOf iv).toNat)
          case atStart => exact ⟨0, Nat.zero_le _, rfl, hs, ho⟩
          case round =>
            clear hs ho
            obtain ⟨i, hi, rfl, hs⟩ := hrel
            by_cases hlt : i < 2
            · have la : getN a 64 i < 18446744073709551616 := getN_lt a 64 i
              have lb : getN b 64 i < 18446744073709551616 := getN_lt b 64 i
              have HX := Lib.hid (sc64_21 a b i hlt)
              have HY := Lib.hid (sh64_13 a n i HNN.out hlt)
              obtain ⟨xv, hxv⟩ : ∃ v, v = getN (vb 64 21 a b) 64 i := ⟨_, rfl⟩
              obtain ⟨yv, hyv⟩ : ∃ v, v = getN (vs 64 13 q a) 64 i := ⟨_, rfl⟩
              have NB1 := fun W => nb 126 (getN a 64 i) (getN b 64 i) xv W (by omega) (by omega) (by decide) rfl (hxv.trans HX.out)
              have NB2 := fun W => nb 136 (getN a 64 i) n yv W (by omega) (by omega) (by decide) rfl (hyv.trans (HQ.out ▸ HY.out))
              have HB1 := Lib.hid NB1
              have HB2 := Lib.hid NB2
              have GX := fun W => get64z (vb 64 21 a b) i i W rfl hlt
              have GY := fun W => get64z (vs 64 13 q a) i i W rfl hlt
              rw [← hxv] at GX
              rw [← hyv] at GY
              have HGX := Lib.hid GX
              have HGY := Lib.hid GY
              clear NB1 NB2 GX GY hxv hyv HX HY
              go_wp2_with fail
              refine region_do (SC w [(x2, (vs 64 13 q a)), (x1, (vb 64 21 a b)), (w.heap.size + 1, b), (w.heap.size, a)] OB) 16 (by kernel_rfl) (by kernel_rfl) hs.drew ?_
              simp only [List.take_succ_cons, List.take_zero, List.drop_succ_cons, List.drop_zero]
              repeat (first | (refine do_load rfl _ rfl _ rfl a (fun u hS => hS.hl.hold (_, a) (List.mem_cons_of_mem _ (List.mem_cons_of_mem _ (List.mem_cons_of_mem _ List.mem_cons_self)))) ?_; simp only [Act.put, List.setIfInBounds_toArray, List.set_cons_zero, List.set_cons_succ]) | (refine do_load rfl _ rfl _ rfl b (fun u hS => hS.hl.hold (_, b) (List.mem_cons_of_mem _ (List.mem_cons_of_mem _ List.mem_cons_self))) ?_; simp only [Act.put, List.setIfInBounds_toArray, List.set_cons_zero, List.set_cons_succ]) | (refine wpD_pure (v := ?_) rfl (fun u => ?_) ?_; rotate_left; (focus (go_simp; (try with_reducible rfl); done)); simp only [Act.put, List.setIfInBounds_toArray, List.set_cons_zero, List.set_cons_succ]))
              (refine wpD_call (v := .int .u64 (getN a 64 i : Nat)) rfl 16 ?_ (fun u => ?_) (fun u hS => ?_) ?_; rotate_left 1; (focus (go_simp; (try with_reducible rfl); done)); (focus (refine (get64z a _ i _ rfl hlt).mono ?_; rintro e u2 ⟨rfl, hb⟩; exact ⟨rfl, hS.below hb⟩)); simp only [Act.put, List.setIfInBounds_toArray, List.set_cons_zero, List.set_cons_succ])
              repeat (first | (refine do_load rfl _ rfl _ rfl a (fun u hS => hS.hl.hold (_, a) (List.mem_cons_of_mem _ (List.mem_cons_of_mem _ (List.mem_cons_of_mem _ List.mem_cons_self)))) ?_; simp only [Act.put, List.setIfInBounds_toArray, List.set_cons_zero, List.set_cons_succ]) | (refine do_load rfl _ rfl _ rfl b (fun u hS => hS.hl.hold (_, b) (List.mem_cons_of_mem _ (List.mem_cons_of_mem _ List.mem_cons_self))) ?_; simp only [Act.put, List.setIfInBounds_toArray, List.set_cons_zero, List.set_cons_succ]) | (refine wpD_pure (v := ?_) rfl (fun u => ?_) ?_; rotate_left; (focus (go_simp; (try with_reducible rfl); done)); simp only [Act.put, List.setIfInBounds_toArray, List.set_cons_zero, List.set_cons_succ]))
              (refine wpD_call (v := .int .u64 (getN b 64 i : Nat)) rfl 16 ?_ (fun u => ?_) (fun u hS => ?_) ?_; rotate_left 1; (focus (go_simp; (try with_reducible rfl); done)); (focus (refine (get64z b _ i _ rfl hlt).mono ?_; rintro e u2 ⟨rfl, hb⟩; exact ⟨rfl, hS.below hb⟩)); simp only [Act.put, List.setIfInBounds_toArray, List.set_cons_zero, List.set_cons_succ])
              repeat (refine wpD_pure (v := ?_) rfl (fun u => ?_) ?_; rotate_left; (focus (go_simp; (try with_reducible rfl); done)); simp only [Act.put, List.setIfInBounds_toArray, List.set_cons_zero, List.set_cons_succ])
              (refine wpD_call (v := .tuple #[.int .u64 (xv : Int), .int .i64 0]) rfl 26 ?_ (fun u => ?_) (fun u hS => ?_) ?_; rotate_left 1; (focus (go_simp; (try with_reducible rfl); done)); (focus (refine (HB1.out _).mono ?_; rintro e u2 ⟨rfl, hb⟩; exact ⟨rfl, hS.below hb⟩)); simp only [Act.put, List.setIfInBounds_toArray, List.set_cons_zero, List.set_cons_succ])
              repeat (refine wpD_pure (v := ?_) rfl (fun u => ?_) ?_; rotate_left; (focus (go_simp; (try with_reducible rfl); done)); simp only [Act.put, List.setIfInBounds_toArray, List.set_cons_zero, List.set_cons_succ])
              refine wpD_nil (fun wq hq => ?_)
              replace hs := hq
              clear hq HB1
              go_wp2_with (first | (with_reducible refine load_vec rfl _ rfl _ rfl a (hs.hl.hold (_, a) (List.mem_cons_of_mem _ (List.mem_cons_of_mem _ (List.mem_cons_of_mem _ List.mem_cons_self)))) ?_) | ((with_reducible refine load_vec_g ?_ _ rfl _ rfl a (hs.hl.hold (_, a) (List.mem_cons_of_mem _ (List.mem_cons_of_mem _ (List.mem_cons_of_mem _ List.mem_cons_self)))) ?_); (focus rfl)) | (with_reducible refine load_vec rfl _ rfl _ rfl (vb 64 21 a b) (hs.hl.hold (_, (vb 64 21 a b)) (List.mem_cons_of_mem _ List.mem_cons_self)) ?_) | ((with_reducible refine load_vec_g ?_ _ rfl _ rfl (vb 64 21 a b) (hs.hl.hold (_, (vb 64 21 a b)) (List.mem_cons_of_mem _ List.mem_cons_self)) ?_); (focus rfl)) | (with_reducible refine load_vec rfl _ rfl _ rfl (vs 64 13 q a) (hs.hl.hold (_, (vs 64 13 q a)) List.mem_cons_self) ?_) | ((with_reducible refine load_vec_g ?_ _ rfl _ rfl (vs 64 13 q a) (hs.hl.hold (_, (vs 64 13 q a)) List.mem_cons_self) ?_); (focus rfl)) | (go_at_call 16; (with_reducible refine (get64z a _ i _ rfl hlt).mono ?_); rintro e u ⟨rfl, hb⟩; replace hs := hs.below hb; clear hb) | (go_at_call 26; (with_reducible refine (HB2.out _).mono ?_); rintro e u ⟨rfl, hb⟩; replace hs := hs.below hb; clear hb) | (go_at_call 16; (with_reducible refine (HGX.out _).mono ?_); rintro e u ⟨rfl, hb⟩; replace hs := hs.below hb; clear hb) | (go_at_call 16; (with_reducible refine (HGY.out _).mono ?_); rintro e u ⟨rfl, hb⟩; replace hs := hs.below hb; clear hb))
              go_roundw
              case rel => first | exact ⟨i + 1, by omega, by go_num, hs⟩ | ((repeat apply Exists.intro); exact ⟨⟨i + 1, by omega, by go_num, hs⟩, rfl⟩)
              case measure => (simp [intOf] <;> omega)
            · obtain rfl : i = 2 := by omega
              go_wp2_with fail
              go_roundw
              case rel => first | exact ⟨3, by decide, rfl, HL.pop (HL.pop hs.hl), hs.ho⟩ | ((repeat apply Exists.intro); exact ⟨⟨3, by decide, rfl, HL.pop (HL.pop hs.hl), hs.ho⟩, rfl⟩)
              case measure => (simp [intOf] <;> omega)
        · go_wp2_with fail
          go_roundw
          case rel => first | exact ⟨128, by decide, rfl, hs⟩ | ((repeat apply Exists.intro); exact ⟨⟨128, by decide, rfl, hs⟩, rfl⟩)
          case measure => (simp [intOf] <;> omega)
    · go_wp2_with fail
      go_ret
      exact ⟨rfl, hs.bel⟩

end Go.Proofs.Ytgemlndpmbeaeaa
