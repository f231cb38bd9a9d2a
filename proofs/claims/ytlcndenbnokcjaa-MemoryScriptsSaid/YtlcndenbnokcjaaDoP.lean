/-
  Regions that draw their order and hold calls (plans); a region in which one call leaves a value that hangs on the state: the operations ahead of it and behind it in given orders.
-/
import Derived.Test.YtlcndenbnokcjaaDoA
set_option linter.unusedSimpArgs false
set_option linter.unusedVariables false
namespace Pl
open Go

section
variable {σ : Type} {P : Program} {ops : Array Oper} {md : Region.Mode} {S : σ → World → Prop} {step : Nat → σ → σ → Prop} {val : Nat → σ → Value}
/-- Special operation i (a builtin that makes memory, or a call of a function) takes state D to one of its next states. -/
def NewE (P : Program) (ops : Array Oper) (S : σ → World → Prop) (step : Nat → σ → σ → Prop) (val : Nat → σ → Value) (i : Nat) (D : σ) (o : Oper) (a : Act) : Prop :=
  Region.wanted o (yielded ops a.tmps) = true ∧ ∀ w, S D w → ∃ w1, (∃ D', step i D D' ∧ S D' w1 ∧
    ((execOp a.eval o).run P w = .ok (.value (val i D')) w1 ∨ ((execOp a.eval o).run P w = .ok .skip w1 ∧ val i D' = undef))) ∨
    ∃ f args, (execOp a.eval o).run P w = .ok (.enter f args) w1 ∧ Calls P f args w1 (fun e w2 => ∃ D', step i D D' ∧ S D' w2 ∧ e = .returned (val i D'))
theorem NewE.same {i : Nat} {D : σ} {o : Oper} {a b : Act} (h : NewE P ops S step val i D o a) (he : execOp b.eval o = execOp a.eval o)
    (hw : Region.wanted o (yielded ops b.tmps) = Region.wanted o (yielded ops a.tmps)) : NewE P ops S step val i D o b := by
  unfold NewE at *
  rw [he, hw]
  exact h
def newOpE (P : Program) (ops : Array Oper) (S : σ → World → Prop) (step : Nat → σ → σ → Prop) (val : Nat → σ → Value) (i : Nat) (D : σ) (K : σ → Act → Prop) (a : Act) : Prop :=
  ∃ o, ops[i]? = some o ∧ NewE P ops S step val i D o a ∧ ∀ D', step i D D' → K D' (a.put o.dst (val i D'))

theorem newOpE_mono {i : Nat} {D : σ} {a : Act} {K K' : σ → Act → Prop} (h : ∀ x a, K x a → K' x a) (hh : newOpE P ops S step val i D K a) : newOpE P ops S step val i D K' a := by
  obtain ⟨o, h1, h2, h3⟩ := hh
  exact ⟨o, h1, h2, fun x hx => h x _ (h3 x hx)⟩

theorem newOpE_put {j : Nat} {D : σ} {oi oj : Oper} {v : Value} (hj : ops[j]? = some oj) (hap : oi.apart ops oj = true)
    (hsi : ∀ cs b, oi.op ≠ .select cs b) (hsj : ∀ cs b, oj.op ≠ .select cs b) {K : σ → Act → Prop} {a : Act}
    (hy : DoesA P ops S oi v a) (h : newOpE P ops S step val j D K (a.put oi.dst v)) :
    newOpE P ops S step val j D (fun x b => DoesA P ops S oi v b ∧ K x (b.put oi.dst v)) a := by
  obtain ⟨h1, h2, h3⟩ := Oper.apart_spec hap
  obtain ⟨o, ho, hN, hK⟩ := h
  have : o = oj := Option.some.inj (ho.symm.trans hj)
  subst this
  refine ⟨o, ho, hN.same (execOp_put o hsj a oi.dst v h1).symm (wanted_put o a oi.dst v h1).symm, fun x hx => ⟨hy.same (execOp_put oi hsi a o.dst (val j x) h3) (wanted_put oi a o.dst (val j x) h3), ?_⟩⟩
  rw [← Act.put_comm a v (val j x) h2]
  exact hK x hx

/-- The head, in whatever order its edges allow; L is reached when it is done. -/
def wpHeadE (P : Program) (md : Region.Mode) (ops : Array Oper) (S : σ → World → Prop) (step : Nat → σ → σ → Prop) (val : Nat → σ → Value) (ps : List Nat) (n : Nat) (L : σ → Array Bool → Act → Prop) : Nat → σ → Array Bool → Act → Prop
  | 0, D, listed, a => L D listed a
  | f + 1, D, listed, a => Region.ready md ops listed ≠ [] ∧ ∀ i ∈ Region.ready md ops listed, i < n ∧
      ((i ∈ ps ∧ newOpE P ops S step val i D (fun D' => wpHeadE P md ops S step val ps n L f D' (listed.setIfInBounds i true)) a) ∨
       (i ∉ ps ∧ doOpA P ops S i (wpHeadE P md ops S step val ps n L f D (listed.setIfInBounds i true)) a))

theorem any_of_headE {ps : List Nat} {n g : Nat} {L : σ → Array Bool → Act → Prop} {Q : Exit → Act → World → Prop}
    (hL : ∀ D listed a, L D listed a → ∀ w, S D w → wpAny P md ops Q g listed a w) :
    ∀ (f : Nat) (D : σ) (listed : Array Bool) (a : Act), wpHeadE P md ops S step val ps n L f D listed a → ∀ w, S D w → wpAny P md ops Q (f + g) listed a w
  | 0, D, listed, a, h, w, hw => by rw [Nat.zero_add]; exact hL _ _ _ h w hw
  | f + 1, D, listed, a, h, w, hw => by
    rw [show f + 1 + g = (f + g) + 1 by omega]
    refine ⟨fun h0 => absurd h0 h.1, fun i hi => ?_⟩
    obtain ⟨_, ⟨hip, o, ho, hN, hk⟩ | ⟨hip, o, v, ho, hd, hk⟩⟩ := h.2 i hi
    · obtain ⟨hw1, hr⟩ := hN
      unfold wpOp
      simp only [ho]
      rw [if_pos hw1]
      refine .inl ?_
      unfold Oper.wp
      obtain ⟨w1, ⟨D', hst, hS1, hrun⟩ | ⟨f2, args, hrun, hcall⟩⟩ := hr w hw
      · rcases hrun with hrun | ⟨hrun, hv⟩
        · rw [hrun]
          exact any_of_headE hL f _ _ _ (hk D' hst) _ hS1
        · rw [hrun]
          have := any_of_headE hL f _ _ _ (hk D' hst) _ hS1
          rw [hv] at this
          exact this
      · rw [hrun]
        exact hcall.mono fun e w2 ⟨D', hst, hS1, he⟩ => by subst he; exact any_of_headE hL f _ _ _ (hk D' hst) _ hS1
    · exact (hd D).op ho hw fun w2 hS2 => any_of_headE hL f _ _ _ hk w2 hS2

theorem head_firstE {ps : List Nat} {n i : Nat} {oi : Oper} {v : Value} {L : σ → Array Bool → Act → Prop} (hi : ops[i]? = some oi) (hip : i ∉ ps) (hsel : ∀ (j : Nat) (o : Oper) cs b, ops[j]? = some o → o.op ≠ .select cs b)
    (hs : Region.sinkB md ops n = true) (hc : Region.chainB md ops n = true) (hn : n < ops.size) (hin : i < n)
    (hdone : ∀ D listed a, L D listed a → ∀ j ∈ Region.ready md ops listed, n ≤ j) :
    ∀ (f : Nat) (D : σ) (listed : Array Bool) (a : Act), HeadInv md ops n listed →
      (∀ j oj, ops[j]? = some oj → j ≠ i → listed.getD j true = false → (∀ e ∈ oj.after, Region.binds md e = true → e.on ≠ i) → oi.apart ops oj = true) →
      i ∈ Region.ready md ops listed → DoesA P ops S oi v a →
      wpHeadE P md ops S step val ps n L f D (listed.setIfInBounds i true) (a.put oi.dst v) → wpHeadE P md ops S step val ps n L (f + 1) D listed a := by
  intro f
  induction f with
  | zero =>
    intro D listed a inv _ hr hy H
    have hun := (mem_ready.1 hr).1
    refine ⟨fun h => (by rw [h] at hr; cases hr), fun j hj => ?_⟩
    have hjn : j < n := by
      rcases Nat.lt_or_ge j n with h | h
      · exact h
      · exact absurd hj (tail_waits hs hc hn inv _ i rfl hin hun j h)
    refine ⟨hjn, ?_⟩
    by_cases hji : j = i
    · subst hji; exact .inr ⟨hip, oi, v, hi, hy, H⟩
    · have := hdone _ _ _ H j (ready_mono hj hji)
      omega
  | succ f ih =>
    intro D listed a inv hfree hr hy H
    have hun := (mem_ready.1 hr).1
    refine ⟨fun h => (by rw [h] at hr; cases hr), fun j hj => ?_⟩
    have hjn : j < n := by
      rcases Nat.lt_or_ge j n with h | h
      · exact h
      · exact absurd hj (tail_waits hs hc hn inv _ i rfl hin hun j h)
    refine ⟨hjn, ?_⟩
    by_cases hji : j = i
    · subst hji; exact .inr ⟨hip, oi, v, hi, hy, H⟩
    · obtain ⟨hjun, oj, hoj, hall⟩ := mem_ready.1 hj
      have hnot : ∀ e ∈ oj.after, Region.binds md e = true → e.on ≠ i := fun e he hb heq => by
        have h1 := hall e he hb
        rw [heq, getD_both hun] at h1
        cases h1
      have hap := hfree j oj hoj hji hjun hnot
      have hfree' : ∀ k ok, ops[k]? = some ok → k ≠ i → (listed.setIfInBounds j true).getD k true = false →
          (∀ e ∈ ok.after, Region.binds md e = true → e.on ≠ i) → oi.apart ops ok = true := fun k ok hk hki hun hno => by
        refine hfree k ok hk hki ?_ hno
        by_cases hjk : j = k
        · subst hjk; exact hjun
        · rw [getD_set_ne true hjk] at hun; exact hun
      rcases (H.2 j (ready_mono hj hji)).2 with ⟨hjp, h1⟩ | ⟨hjp, h1⟩
      · have h2 := newOpE_put hoj hap (fun cs b => hsel i oi cs b hi) (fun cs b => hsel j oj cs b hoj) hy h1
        refine .inl ⟨hjp, newOpE_mono (fun x b h3 => ih x (listed.setIfInBounds j true) b (inv.set hj hjn) hfree' (ready_mono hr (Ne.symm hji)) h3.1 ?_) h2⟩
        rw [Array.setIfInBounds_comm _ _ hji]
        exact h3.2
      · have h2 := doOpA_put hoj hap (fun cs b => hsel i oi cs b hi) (fun cs b => hsel j oj cs b hoj) hy h1
        refine .inr ⟨hjp, doOpA_mono (fun b h3 => ih D (listed.setIfInBounds j true) b (inv.set hj hjn) hfree' (ready_mono hr (Ne.symm hji)) h3.1 ?_) h2⟩
        rw [Array.setIfInBounds_comm _ _ hji]
        exact h3.2

theorem head_takesE {ps : List Nat} {n f : Nat} {l : List Oper} {L : σ → Array Bool → Act → Prop} {D : σ} (hl : l.toArray = ops) (hsel : Region.noSelect ops = true) (hs : Region.sinkB md ops n = true) (hc : Region.chainB md ops n = true) (hn : n < ops.size)
    (hdone : ∀ D listed a, L D listed a → ∀ j ∈ Region.ready md ops listed, n ≤ j) :
    ∀ (order : List Nat) (listed : Array Bool) (a : Act), HeadInv md ops n listed → takes md ops ps n order listed = true →
      wpDA P ops S (fun a' => HeadInv md ops n (marks listed order) → wpHeadE P md ops S step val ps n L f D (marks listed order) a') (opsAt l order) a → wpHeadE P md ops S step val ps n L (order.length + f) D listed a
  | [], listed, a, inv, _, h => by rw [show ([] : List Nat).length + f = f by simp]; exact h inv
  | k :: order, listed, a, inv, hB, h => by
    simp only [takes, Bool.and_eq_true, decide_eq_true_eq, Bool.not_eq_true'] at hB
    obtain ⟨⟨⟨⟨hr, hf⟩, hk⟩, hp⟩, hB'⟩ := hB
    have hr' : k ∈ Region.ready md ops listed := by simpa using hr
    obtain ⟨_, o, ho, _⟩ := mem_ready.1 hr'
    have hlo : l[k]? = some o := by rw [← hl] at ho; simpa using ho
    simp only [opsAt, hlo] at h
    obtain ⟨v, hy, hK⟩ := h
    have hpk : k ∉ ps := by simpa using hp
    rw [show (k :: order).length + f = (order.length + f) + 1 by simp only [List.length_cons]; omega]
    exact head_firstE ho hpk (Region.noSelect_spec hsel) hs hc hn hk hdone (order.length + f) D listed a inv (Region.free_spec ho hf) hr' hy
      (head_takesE hl hsel hs hc hn hdone order _ _ (inv.set hr' hk) hB' hK)

end

section
variable {P : Program} {md : Region.Mode}
def checkE (ops : Array Oper) (n p : Nat) (order1 order2 : List Nat) : Bool :=
  Region.noSelect ops && decide (n < ops.size) && Region.sinkB .any ops n && Region.chainB .any ops n && takes .any ops [p] n order1 (Array.replicate ops.size false) &&
  (Region.ready .any ops (marks (Array.replicate ops.size false) order1) == [p]) && decide (p < n) && takes .any ops [p] n order2 ((marks (Array.replicate ops.size false) order1).setIfInBounds p true) &&
  decide (order1.length + (order2.length + 1) = n) && Region.seqB .any ops (ops.size - n) n (marks ((marks (Array.replicate ops.size false) order1).setIfInBounds p true) order2)
theorem wpDA_mono {σ : Type} {ops : Array Oper} {S : σ → World → Prop} : ∀ (os : List Oper) (a : Act) (K K' : Act → Prop), (∀ a, K a → K' a) → wpDA P ops S K os a → wpDA P ops S K' os a := by
  intro os
  induction os with
  | nil => intro a K K' hk h; exact hk _ h
  | cons o os ih => intro a K K' hk ⟨v, h1, h2⟩; exact ⟨v, h1, ih _ _ _ hk h2⟩
/-- A region that draws its order, in which operation p is a call that leaves some value. -/
theorem region_call {id : Nat} {Q : Exit → Act → World → Prop} {a : Act} {w : World} {l : List Oper} (S : Option Value → World → Prop) (C : Value → Prop) (n p : Nat) (order1 order2 : List Nat) (hm : P.follows .mixedOrders = true) (hB : checkE l.toArray n p order1 order2 = true)
    {op : Oper} (hop : l[p]? = some op) (hpn : op.guard = none) (hS : S none w.drew)
    (h : wpDA P l.toArray S (fun a1 => ∃ f args, (∀ w, (execOp a1.eval op).run P w = .ok (.enter f args) w) ∧ (∀ w, S none w → Calls P f args w (fun e w2 => ∃ v, C v ∧ S (some v) w2 ∧ e = .returned v)) ∧
      ∀ v, C v → wpDA P l.toArray S (fun a2 => ∀ w', S (some v) w' → wpList P l.toArray Q (l.drop n) a2 w') (opsAt l order2) (a1.put op.dst v)) (opsAt l order1) a) : (Code.region id l.toArray true).wp P Q a w := by
  simp only [checkE, Bool.and_eq_true, decide_eq_true_eq, beq_iff_eq] at hB
  obtain ⟨⟨⟨⟨⟨⟨⟨⟨⟨hsel, hn⟩, hs⟩, hc⟩, ht1⟩, hrd⟩, hp⟩, ht2⟩, hlen⟩, hseq⟩ := hB
  have hn' : n < l.length := by simpa using hn
  have hdl : (l.drop n).length = l.toArray.size - n := by simp
  have inv0 : HeadInv .any l.toArray n (Array.replicate l.toArray.size false) :=
    ⟨by simp, fun j oj _ hl => (by rw [getD_replicate_false] at hl; cases hl), fun t _ ht => getD_in (by simpa using ht) (getD_replicate_false _ _)⟩
  have hpr : p ∈ Region.ready .any l.toArray (marks (Array.replicate l.toArray.size false) order1) := by rw [hrd]; simp
  refine wp_region_any hm ?_
  have H := head_takesE (f := order2.length + 1) (step := fun i D D' => i = p ∧ D = none ∧ ∃ v, C v ∧ D' = some v) (val := fun _ D => D.getD undef) (D := none) (L := fun D listed a' => Region.seqB .any l.toArray (l.toArray.size - n) n listed = true ∧ ∀ w', S D w' → wpList P l.toArray Q (l.drop n) a' w') rfl hsel hs hc hn (fun D listed a hL => seqB_ready hL.1) order1 _ a inv0 ht1
    (wpDA_mono _ _ _ _ (fun a1 h1 inv => by
      obtain ⟨f, args, he, hcall, h2⟩ := h1
      refine ⟨by rw [hrd]; simp, fun j hj => ?_⟩
      rw [hrd] at hj
      have : j = p := by simpa using hj
      subst this
      refine ⟨hp, .inl ⟨by simp, op, by simpa using hop, ⟨by unfold Region.wanted; rw [hpn], fun w hw => ⟨w, .inr ⟨f, args, he w, (hcall w hw).mono fun e w2 ⟨v, hcv, hv, hev⟩ => ⟨some v, ⟨rfl, rfl, v, hcv, rfl⟩, hv, by rw [hev]; rfl⟩⟩⟩⟩, ?_⟩⟩
      rintro D' ⟨_, _, v, hcv, rfl⟩
      have inv2 := inv.set hpr hp
      have := head_takesE (f := 0) (step := fun i D D' => i = j ∧ D = none ∧ ∃ v, C v ∧ D' = some v) (val := fun _ D => D.getD undef) (D := some v) (L := fun D listed a' => Region.seqB .any l.toArray (l.toArray.size - n) n listed = true ∧ ∀ w', S D w' → wpList P l.toArray Q (l.drop n) a' w') rfl hsel hs hc hn (fun D listed a hL => seqB_ready hL.1) order2 _ (a1.put op.dst v) inv2 ht2
        (wpDA_mono _ _ _ _ (fun a2 h2 inv => ⟨hseq, h2⟩) (h2 v hcv))
      simpa using this) h)
  have := any_of_headE (Q := Q) (g := l.toArray.size - n) (fun D listed a' hL w' hS' => by
      have := wpAny_of_seq (md := .any) (Q' := Q) (l.drop n) n listed a' w' (fun j => by simp [List.getElem?_drop]) (by rw [hdl]; exact hL.1) (hL.2 w' hS')
      rwa [hdl] at this) _ _ _ _ H w.drew hS
  rw [hlen, show n + (l.toArray.size - n) = l.toArray.size by omega] at this
  exact this
end
section
variable {P : Program}
/-- Operations in given orders between special ones, each of which is the only one ready when it comes. -/
def planE {σ : Type} (P : Program) (ops : Array Oper) (S : σ → World → Prop) (step : Nat → σ → σ → Prop) (val : Nat → σ → Value) (l : List Oper) (L : σ → Act → Prop) (last : List Nat) : List (List Nat × Nat) → σ → Act → Prop
  | [], D, a => wpDA P ops S (L D) (opsAt l last) a
  | (ord, p) :: rest, D, a => wpDA P ops S (fun a1 => ∃ op, l[p]? = some op ∧ NewE P ops S step val p D op a1 ∧ ∀ D', step p D D' → planE P ops S step val l L last rest D' (a1.put op.dst (val p D'))) (opsAt l ord) a
def planB (ops : Array Oper) (n : Nat) (ps : List Nat) (last : List Nat) : List (List Nat × Nat) → Array Bool → Bool
  | [], listed => takes .any ops ps n last listed && Region.seqB .any ops (ops.size - n) n (marks listed last)
  | (ord, p) :: rest, listed => takes .any ops ps n ord listed && (Region.ready .any ops (marks listed ord) == [p]) && decide (p < n) && ps.contains p && planB ops n ps last rest ((marks listed ord).setIfInBounds p true)
def planN (last : List Nat) : List (List Nat × Nat) → Nat
  | [] => last.length
  | (ord, _) :: rest => ord.length + (planN last rest + 1)
theorem marks_inv {md : Region.Mode} {ops : Array Oper} {n : Nat} {ps : List Nat} : ∀ (ord : List Nat) (listed : Array Bool), HeadInv md ops n listed → takes md ops ps n ord listed = true → HeadInv md ops n (marks listed ord)
  | [], listed, inv, _ => inv
  | k :: ord, listed, inv, h => by
    simp only [takes, Bool.and_eq_true, decide_eq_true_eq] at h
    obtain ⟨⟨⟨⟨hr, _⟩, hk⟩, _⟩, h2⟩ := h
    exact marks_inv ord _ (inv.set (by simpa using hr) hk) h2
theorem head_plan {σ : Type} {Q : Exit → Act → World → Prop} {l : List Oper} {S : σ → World → Prop} {step : Nat → σ → σ → Prop} {val : Nat → σ → Value} {n : Nat} {ps last : List Nat} (hsel : Region.noSelect l.toArray = true) (hs : Region.sinkB .any l.toArray n = true) (hc : Region.chainB .any l.toArray n = true) (hn : n < l.toArray.size) :
    ∀ (segs : List (List Nat × Nat)) (D : σ) (listed : Array Bool) (a : Act), HeadInv .any l.toArray n listed → planB l.toArray n ps last segs listed = true →
      planE P l.toArray S step val l (fun D a' => ∀ w', S D w' → wpList P l.toArray Q (l.drop n) a' w') last segs D a →
      wpHeadE P .any l.toArray S step val ps n (fun D listed a' => Region.seqB .any l.toArray (l.toArray.size - n) n listed = true ∧ ∀ w', S D w' → wpList P l.toArray Q (l.drop n) a' w') (planN last segs) D listed a
  | [], D, listed, a, inv, hB, h => by
    simp only [planB, Bool.and_eq_true] at hB
    have := head_takesE (f := 0) (ps := ps) (step := step) (val := val) (D := D) (L := fun D listed a' => Region.seqB .any l.toArray (l.toArray.size - n) n listed = true ∧ ∀ w', S D w' → wpList P l.toArray Q (l.drop n) a' w') rfl hsel hs hc hn (fun D listed a hL => seqB_ready hL.1) last listed a inv hB.1 (wpDA_mono _ _ _ _ (fun a2 h2 inv => ⟨hB.2, h2⟩) h)
    simpa [planN] using this
  | (ord, p) :: rest, D, listed, a, inv, hB, h => by
    simp only [planB, Bool.and_eq_true, decide_eq_true_eq, beq_iff_eq] at hB
    obtain ⟨⟨⟨⟨ht, hrd⟩, hp⟩, hpp⟩, hB2⟩ := hB
    have hpr : p ∈ Region.ready .any l.toArray (marks listed ord) := by rw [hrd]; simp
    have inv2 := (marks_inv ord listed inv ht).set hpr hp
    exact head_takesE (f := planN last rest + 1) (ps := ps) (step := step) (val := val) (D := D) rfl hsel hs hc hn (fun D listed a hL => seqB_ready hL.1) ord listed a inv ht
      (wpDA_mono _ _ _ _ (fun a1 h1 _ => by
        obtain ⟨op, hop, hN, h2⟩ := h1
        refine ⟨by rw [hrd]; simp, fun j hj => ?_⟩
        rw [hrd] at hj
        have : j = p := by simpa using hj
        subst this
        exact ⟨hp, .inl ⟨by simpa using hpp, op, by simpa using hop, hN, fun D' hD => head_plan hsel hs hc hn rest D' _ _ inv2 hB2 (h2 D' hD)⟩⟩) h)
def checkP (ops : Array Oper) (n : Nat) (ps last : List Nat) (segs : List (List Nat × Nat)) : Bool :=
  Region.noSelect ops && decide (n < ops.size) && Region.sinkB .any ops n && Region.chainB .any ops n && planB ops n ps last segs (Array.replicate ops.size false) && decide (planN last segs = n)
theorem region_plan {σ : Type} {id : Nat} {Q : Exit → Act → World → Prop} {a : Act} {w : World} {l : List Oper} (S : σ → World → Prop) (step : Nat → σ → σ → Prop) (val : Nat → σ → Value) (D0 : σ) (n : Nat) (ps last : List Nat) (segs : List (List Nat × Nat)) (hm : P.follows .mixedOrders = true) (hB : checkP l.toArray n ps last segs = true)
    (hS : S D0 w.drew) (h : planE P l.toArray S step val l (fun D a' => ∀ w', S D w' → wpList P l.toArray Q (l.drop n) a' w') last segs D0 a) : (Code.region id l.toArray true).wp P Q a w := by
  simp only [checkP, Bool.and_eq_true, decide_eq_true_eq] at hB
  obtain ⟨⟨⟨⟨⟨hsel, hn⟩, hs⟩, hc⟩, hpl⟩, hlen⟩ := hB
  have hn' : n < l.length := by simpa using hn
  have hdl : (l.drop n).length = l.toArray.size - n := by simp
  have inv0 : HeadInv .any l.toArray n (Array.replicate l.toArray.size false) :=
    ⟨by simp, fun j oj _ hl => (by rw [getD_replicate_false] at hl; cases hl), fun t _ ht => getD_in (by simpa using ht) (getD_replicate_false _ _)⟩
  refine wp_region_any hm ?_
  have H := head_plan (P := P) (Q := Q) (ps := ps) (step := step) (val := val) hsel hs hc hn segs D0 _ a inv0 hpl h
  have := any_of_headE (Q := Q) (g := l.toArray.size - n) (fun D listed a' hL w' hS' => by
      have := wpAny_of_seq (md := .any) (Q' := Q) (l.drop n) n listed a' w' (fun j => by simp [List.getElem?_drop]) (by rw [hdl]; exact hL.1) (hL.2 w' hS')
      rwa [hdl] at this) _ _ _ _ H w.drew hS
  rw [hlen, show n + (l.toArray.size - n) = l.toArray.size by omega] at this
  exact this
variable {σ : Type} {ops : Array Oper} {S : σ → World → Prop}
theorem wpDA_skip {L : Act → Prop} {o : Oper} {rest : List Oper} {a : Act} (hg : Region.wanted o (yielded ops a.tmps) = false)
    (hr : wpDA P ops S L rest (a.put o.dst undef)) : wpDA P ops S L (o :: rest) a := ⟨undef, fun _ => .inr ⟨hg, rfl⟩, hr⟩
theorem wpDA_pureg {L : Act → Prop} {o : Oper} {rest : List Oper} {v : Value} {a : Act} (hg : Region.wanted o (yielded ops a.tmps) = true) (h : ∀ w, (execOp a.eval o).run P w = .ok (.value v) w)
    (hr : wpDA P ops S L rest (a.put o.dst v)) : wpDA P ops S L (o :: rest) a :=
  ⟨v, fun D => .inl ⟨hg, fun w hS => ⟨w, .inl ⟨h w, hS⟩⟩⟩, hr⟩
theorem wpDA_hereg {L : Act → Prop} {o : Oper} {rest : List Oper} {v : Value} {a : Act} (hg : Region.wanted o (yielded ops a.tmps) = true) (h : ∀ D w, S D w → (execOp a.eval o).run P w = .ok (.value v) w)
    (hr : wpDA P ops S L rest (a.put o.dst v)) : wpDA P ops S L (o :: rest) a :=
  ⟨v, fun D => .inl ⟨hg, fun w hS => ⟨w, .inl ⟨h D w hS, hS⟩⟩⟩, hr⟩
theorem wpDA_callg {L : Act → Prop} {o : Oper} {rest : List Oper} {v : Value} {a : Act} (hg : Region.wanted o (yielded ops a.tmps) = true) (f : FuncId) (args : Array Value)
    (h : ∀ w, (execOp a.eval o).run P w = .ok (.enter f args) w) (hc : ∀ D w, S D w → Calls P f args w (fun e w2 => e = .returned v ∧ S D w2))
    (hr : wpDA P ops S L rest (a.put o.dst v)) : wpDA P ops S L (o :: rest) a :=
  ⟨v, fun D => .inl ⟨hg, fun w hS => ⟨w, .inr (.inr ⟨f, args, h w, hc D w hS⟩)⟩⟩, hr⟩
end
end Pl
