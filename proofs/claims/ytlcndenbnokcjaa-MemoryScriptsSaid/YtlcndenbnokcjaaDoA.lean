/-
  A region that draws its order, in which calls make memory and some special operations make and fill new variables: the other operations of the head in a given order; each keeps a condition S on the world, in whatever state D the new variables are.
-/
import Derived.Test.YtlcndenbnokcjaaDo
set_option linter.unusedSimpArgs false
set_option linter.unusedVariables false
namespace Pl
open Go

section
variable {σ : Type} {P : Program} {ops : Array Oper} {md : Region.Mode} {S : σ → World → Prop} {step : Nat → σ → σ → Prop} {val : Nat → σ → Value}

def ptr (x : Nat) : Value := .pointer (some ⟨x, 0, none⟩)
/-- Whichever variables have been made, operation o leaves v and keeps S. -/
def DoesA (P : Program) (ops : Array Oper) (S : σ → World → Prop) (o : Oper) (v : Value) (a : Act) : Prop := ∀ D, Does P ops (S D) o v a

theorem DoesA.same {o : Oper} {v : Value} {a b : Act} (h : DoesA P ops S o v a) (he : execOp b.eval o = execOp a.eval o)
    (hw : Region.wanted o (yielded ops b.tmps) = Region.wanted o (yielded ops a.tmps)) : DoesA P ops S o v b := fun D => (h D).same he hw

def doOpA (P : Program) (ops : Array Oper) (S : σ → World → Prop) (i : Nat) (K : Act → Prop) (a : Act) : Prop := ∃ o v, ops[i]? = some o ∧ DoesA P ops S o v a ∧ K (a.put o.dst v)
/-- Special operation i takes state D to one of its next states. -/
def NewA (P : Program) (ops : Array Oper) (S : σ → World → Prop) (step : Nat → σ → σ → Prop) (val : Nat → σ → Value) (i : Nat) (D : σ) (o : Oper) (a : Act) : Prop :=
  Region.wanted o (yielded ops a.tmps) = true ∧ ∀ w, S D w → ∃ D' w1, step i D D' ∧ S D' w1 ∧
    ((execOp a.eval o).run P w = .ok (.value (val i D')) w1 ∨ ((execOp a.eval o).run P w = .ok .skip w1 ∧ val i D' = undef))
theorem NewA.same {i : Nat} {D : σ} {o : Oper} {a b : Act} (h : NewA P ops S step val i D o a) (he : execOp b.eval o = execOp a.eval o)
    (hw : Region.wanted o (yielded ops b.tmps) = Region.wanted o (yielded ops a.tmps)) : NewA P ops S step val i D o b := by
  unfold NewA at *
  rw [he, hw]
  exact h
def newOp (P : Program) (ops : Array Oper) (S : σ → World → Prop) (step : Nat → σ → σ → Prop) (val : Nat → σ → Value) (i : Nat) (D : σ) (K : σ → Act → Prop) (a : Act) : Prop :=
  ∃ o, ops[i]? = some o ∧ NewA P ops S step val i D o a ∧ ∀ D', step i D D' → K D' (a.put o.dst (val i D'))

theorem doOpA_mono {i : Nat} {a : Act} {K K' : Act → Prop} (h : ∀ a, K a → K' a) (hh : doOpA P ops S i K a) : doOpA P ops S i K' a := by
  obtain ⟨o, v, h1, h2, h3⟩ := hh
  exact ⟨o, v, h1, h2, h _ h3⟩
theorem newOp_mono {i : Nat} {D : σ} {a : Act} {K K' : σ → Act → Prop} (h : ∀ x a, K x a → K' x a) (hh : newOp P ops S step val i D K a) : newOp P ops S step val i D K' a := by
  obtain ⟨o, h1, h2, h3⟩ := hh
  exact ⟨o, h1, h2, fun x hx => h x _ (h3 x hx)⟩

theorem doOpA_put {j : Nat} {oi oj : Oper} {v : Value} (hj : ops[j]? = some oj) (hap : oi.apart ops oj = true)
    (hsi : ∀ cs b, oi.op ≠ .select cs b) (hsj : ∀ cs b, oj.op ≠ .select cs b) {K : Act → Prop} {a : Act}
    (hy : DoesA P ops S oi v a) (h : doOpA P ops S j K (a.put oi.dst v)) :
    doOpA P ops S j (fun b => DoesA P ops S oi v b ∧ K (b.put oi.dst v)) a := by
  obtain ⟨h1, h2, h3⟩ := Oper.apart_spec hap
  obtain ⟨o, u, ho, hu, hK⟩ := h
  have : o = oj := Option.some.inj (ho.symm.trans hj)
  subst this
  refine ⟨o, u, ho, hu.same (execOp_put o hsj a oi.dst v h1).symm (wanted_put o a oi.dst v h1).symm, hy.same (execOp_put oi hsi a o.dst u h3) (wanted_put oi a o.dst u h3), ?_⟩
  rw [← Act.put_comm a v u h2]
  exact hK
theorem newOp_put {j : Nat} {D : σ} {oi oj : Oper} {v : Value} (hj : ops[j]? = some oj) (hap : oi.apart ops oj = true)
    (hsi : ∀ cs b, oi.op ≠ .select cs b) (hsj : ∀ cs b, oj.op ≠ .select cs b) {K : σ → Act → Prop} {a : Act}
    (hy : DoesA P ops S oi v a) (h : newOp P ops S step val j D K (a.put oi.dst v)) :
    newOp P ops S step val j D (fun x b => DoesA P ops S oi v b ∧ K x (b.put oi.dst v)) a := by
  obtain ⟨h1, h2, h3⟩ := Oper.apart_spec hap
  obtain ⟨o, ho, hN, hK⟩ := h
  have : o = oj := Option.some.inj (ho.symm.trans hj)
  subst this
  refine ⟨o, ho, hN.same (execOp_put o hsj a oi.dst v h1).symm (wanted_put o a oi.dst v h1).symm, fun x hx => ⟨hy.same (execOp_put oi hsi a o.dst (val j x) h3) (wanted_put oi a o.dst (val j x) h3), ?_⟩⟩
  rw [← Act.put_comm a v (val j x) h2]
  exact hK x hx

/-- The head, in whatever order its edges allow; L is reached when it is done. -/
def wpHeadA (P : Program) (md : Region.Mode) (ops : Array Oper) (S : σ → World → Prop) (step : Nat → σ → σ → Prop) (val : Nat → σ → Value) (ps : List Nat) (n : Nat) (L : σ → Array Bool → Act → Prop) : Nat → σ → Array Bool → Act → Prop
  | 0, D, listed, a => L D listed a
  | f + 1, D, listed, a => Region.ready md ops listed ≠ [] ∧ ∀ i ∈ Region.ready md ops listed, i < n ∧
      ((i ∈ ps ∧ newOp P ops S step val i D (fun D' => wpHeadA P md ops S step val ps n L f D' (listed.setIfInBounds i true)) a) ∨
       (i ∉ ps ∧ doOpA P ops S i (wpHeadA P md ops S step val ps n L f D (listed.setIfInBounds i true)) a))

theorem any_of_headA {ps : List Nat} {n g : Nat} {L : σ → Array Bool → Act → Prop} {Q : Exit → Act → World → Prop}
    (hL : ∀ D listed a, L D listed a → ∀ w, S D w → wpAny P md ops Q g listed a w) :
    ∀ (f : Nat) (D : σ) (listed : Array Bool) (a : Act), wpHeadA P md ops S step val ps n L f D listed a → ∀ w, S D w → wpAny P md ops Q (f + g) listed a w
  | 0, D, listed, a, h, w, hw => by rw [Nat.zero_add]; exact hL _ _ _ h w hw
  | f + 1, D, listed, a, h, w, hw => by
    rw [show f + 1 + g = (f + g) + 1 by omega]
    refine ⟨fun h0 => absurd h0 h.1, fun i hi => ?_⟩
    obtain ⟨_, ⟨hip, o, ho, hN, hk⟩ | ⟨hip, o, v, ho, hd, hk⟩⟩ := h.2 i hi
    · obtain ⟨hw1, hr⟩ := hN
      obtain ⟨D', w1, hst, hS1, hrun⟩ := hr w hw
      unfold wpOp
      simp only [ho]
      rw [if_pos hw1]
      refine .inl ?_
      unfold Oper.wp
      rcases hrun with hrun | ⟨hrun, hv⟩
      · rw [hrun]
        exact any_of_headA hL f _ _ _ (hk D' hst) _ hS1
      · rw [hrun]
        have := any_of_headA hL f _ _ _ (hk D' hst) _ hS1
        rw [hv] at this
        exact this
    · exact (hd D).op ho hw fun w2 hS2 => any_of_headA hL f _ _ _ hk w2 hS2

theorem head_firstA {ps : List Nat} {n i : Nat} {oi : Oper} {v : Value} {L : σ → Array Bool → Act → Prop} (hi : ops[i]? = some oi) (hip : i ∉ ps) (hsel : ∀ (j : Nat) (o : Oper) cs b, ops[j]? = some o → o.op ≠ .select cs b)
    (hs : Region.sinkB md ops n = true) (hc : Region.chainB md ops n = true) (hn : n < ops.size) (hin : i < n)
    (hdone : ∀ D listed a, L D listed a → ∀ j ∈ Region.ready md ops listed, n ≤ j) :
    ∀ (f : Nat) (D : σ) (listed : Array Bool) (a : Act), HeadInv md ops n listed →
      (∀ j oj, ops[j]? = some oj → j ≠ i → listed.getD j true = false → (∀ e ∈ oj.after, Region.binds md e = true → e.on ≠ i) → oi.apart ops oj = true) →
      i ∈ Region.ready md ops listed → DoesA P ops S oi v a →
      wpHeadA P md ops S step val ps n L f D (listed.setIfInBounds i true) (a.put oi.dst v) → wpHeadA P md ops S step val ps n L (f + 1) D listed a := by
  intro f
  induction f with
  | zero =>
    intro D listed a inv _ hr hy H
    have hun := (mem_ready.1 hr).1
    refine ⟨fun h => (by rw [h] at hr; cases hr), fun j hj => ?_⟩
    have hjn : j < n := by
      rcases Nat.lt_or_ge j n with h | h
      · exact h
      · exact absurd hj (tail_waits hs hc hn inv _ i rfl hin hun j h)
    refine ⟨hjn, ?_⟩
    by_cases hji : j = i
    · subst hji; exact .inr ⟨hip, oi, v, hi, hy, H⟩
    · have := hdone _ _ _ H j (ready_mono hj hji)
      omega
  | succ f ih =>
    intro D listed a inv hfree hr hy H
    have hun := (mem_ready.1 hr).1
    refine ⟨fun h => (by rw [h] at hr; cases hr), fun j hj => ?_⟩
    have hjn : j < n := by
      rcases Nat.lt_or_ge j n with h | h
      · exact h
      · exact absurd hj (tail_waits hs hc hn inv _ i rfl hin hun j h)
    refine ⟨hjn, ?_⟩
    by_cases hji : j = i
    · subst hji; exact .inr ⟨hip, oi, v, hi, hy, H⟩
    · obtain ⟨hjun, oj, hoj, hall⟩ := mem_ready.1 hj
      have hnot : ∀ e ∈ oj.after, Region.binds md e = true → e.on ≠ i := fun e he hb heq => by
        have h1 := hall e he hb
        rw [heq, getD_both hun] at h1
        cases h1
      have hap := hfree j oj hoj hji hjun hnot
      have hfree' : ∀ k ok, ops[k]? = some ok → k ≠ i → (listed.setIfInBounds j true).getD k true = false →
          (∀ e ∈ ok.after, Region.binds md e = true → e.on ≠ i) → oi.apart ops ok = true := fun k ok hk hki hun hno => by
        refine hfree k ok hk hki ?_ hno
        by_cases hjk : j = k
        · subst hjk; exact hjun
        · rw [getD_set_ne true hjk] at hun; exact hun
      rcases (H.2 j (ready_mono hj hji)).2 with ⟨hjp, h1⟩ | ⟨hjp, h1⟩
      · have h2 := newOp_put hoj hap (fun cs b => hsel i oi cs b hi) (fun cs b => hsel j oj cs b hoj) hy h1
        refine .inl ⟨hjp, newOp_mono (fun x b h3 => ih x (listed.setIfInBounds j true) b (inv.set hj hjn) hfree' (ready_mono hr (Ne.symm hji)) h3.1 ?_) h2⟩
        rw [Array.setIfInBounds_comm _ _ hji]
        exact h3.2
      · have h2 := doOpA_put hoj hap (fun cs b => hsel i oi cs b hi) (fun cs b => hsel j oj cs b hoj) hy h1
        refine .inr ⟨hjp, doOpA_mono (fun b h3 => ih D (listed.setIfInBounds j true) b (inv.set hj hjn) hfree' (ready_mono hr (Ne.symm hji)) h3.1 ?_) h2⟩
        rw [Array.setIfInBounds_comm _ _ hji]
        exact h3.2

/-- Operations in a given order. -/
def wpDA (P : Program) (ops : Array Oper) (S : σ → World → Prop) (L : Act → Prop) : List Oper → Act → Prop
  | [], a => L a
  | o :: rest, a => ∃ v, DoesA P ops S o v a ∧ wpDA P ops S L rest (a.put o.dst v)

def marks (listed : Array Bool) : List Nat → Array Bool
  | [] => listed
  | k :: l => marks (listed.setIfInBounds k true) l
/-- May these operations be taken one behind the other? -/
def takes (md : Region.Mode) (ops : Array Oper) (ps : List Nat) (n : Nat) : List Nat → Array Bool → Bool
  | [], _ => true
  | k :: l, listed => (Region.ready md ops listed).contains k && Region.free md ops listed k && decide (k < n) && !ps.contains k && takes md ops ps n l (listed.setIfInBounds k true)
def opsAt (l : List Oper) : List Nat → List Oper
  | [] => []
  | k :: r => match l[k]? with | some o => o :: opsAt l r | none => opsAt l r

theorem head_takes {ps : List Nat} {n f : Nat} {l : List Oper} {L : σ → Array Bool → Act → Prop} {D : σ} (hl : l.toArray = ops) (hsel : Region.noSelect ops = true) (hs : Region.sinkB md ops n = true) (hc : Region.chainB md ops n = true) (hn : n < ops.size)
    (hdone : ∀ D listed a, L D listed a → ∀ j ∈ Region.ready md ops listed, n ≤ j) :
    ∀ (order : List Nat) (listed : Array Bool) (a : Act), HeadInv md ops n listed → takes md ops ps n order listed = true →
      wpDA P ops S (fun a' => HeadInv md ops n (marks listed order) → wpHeadA P md ops S step val ps n L f D (marks listed order) a') (opsAt l order) a → wpHeadA P md ops S step val ps n L (order.length + f) D listed a
  | [], listed, a, inv, _, h => by rw [show ([] : List Nat).length + f = f by simp]; exact h inv
  | k :: order, listed, a, inv, hB, h => by
    simp only [takes, Bool.and_eq_true, decide_eq_true_eq, Bool.not_eq_true'] at hB
    obtain ⟨⟨⟨⟨hr, hf⟩, hk⟩, hp⟩, hB'⟩ := hB
    have hr' : k ∈ Region.ready md ops listed := by simpa using hr
    obtain ⟨_, o, ho, _⟩ := mem_ready.1 hr'
    have hlo : l[k]? = some o := by rw [← hl] at ho; simpa using ho
    simp only [opsAt, hlo] at h
    obtain ⟨v, hy, hK⟩ := h
    have hpk : k ∉ ps := by simpa using hp
    rw [show (k :: order).length + f = (order.length + f) + 1 by simp only [List.length_cons]; omega]
    exact head_firstA ho hpk (Region.noSelect_spec hsel) hs hc hn hk hdone (order.length + f) D listed a inv (Region.free_spec ho hf) hr' hy
      (head_takes hl hsel hs hc hn hdone order _ _ (inv.set hr' hk) hB' hK)

end

section
variable {P : Program} {md : Region.Mode}

def checkA (ops : Array Oper) (n : Nat) (ps order : List Nat) : Bool :=
  Region.noSelect ops && decide (n < ops.size) && Region.sinkB .any ops n && Region.chainB .any ops n && takes .any ops ps n order (Array.replicate ops.size false) && decide (order.length + ps.length = n)

theorem region_news {σ : Type} {id : Nat} {Q : Exit → Act → World → Prop} {a : Act} {w : World} {l : List Oper} (S : σ → World → Prop) (step : Nat → σ → σ → Prop) (val : Nat → σ → Value) (D0 : σ) (n : Nat) (ps order : List Nat) (hm : P.follows .mixedOrders = true) (hB : checkA l.toArray n ps order = true)
    (hS : S D0 w.drew)
    (h : wpDA P l.toArray S (fun a' => wpHeadA P .any l.toArray S step val ps n (fun D listed a' => Region.seqB .any l.toArray (l.toArray.size - n) n listed = true ∧ ∀ w', S D w' → wpList P l.toArray Q (l.drop n) a' w') ps.length D0 (marks (Array.replicate l.toArray.size false) order) a') (opsAt l order) a) : (Code.region id l.toArray true).wp P Q a w := by
  simp only [checkA, Bool.and_eq_true, decide_eq_true_eq] at hB
  obtain ⟨⟨⟨⟨⟨hsel, hn⟩, hs⟩, hc⟩, htk⟩, hlen⟩ := hB
  have hn' : n < l.length := by simpa using hn
  have hdl : (l.drop n).length = l.toArray.size - n := by simp
  have inv0 : HeadInv .any l.toArray n (Array.replicate l.toArray.size false) :=
    ⟨by simp, fun j oj _ hl => (by rw [getD_replicate_false] at hl; cases hl), fun t _ ht => getD_in (by simpa using ht) (getD_replicate_false _ _)⟩
  refine wp_region_any hm ?_
  have mono : ∀ (os : List Oper) (a : Act) (K K' : Act → Prop), (∀ a, K a → K' a) → wpDA P l.toArray S K os a → wpDA P l.toArray S K' os a := by
    intro os
    induction os with
    | nil => intro a K K' hk h; exact hk _ h
    | cons o os ih => intro a K K' hk ⟨v, h1, h2⟩; exact ⟨v, h1, ih _ _ _ hk h2⟩
  have H := head_takes (f := ps.length) (step := step) (val := val) rfl hsel hs hc hn (fun D listed a hL => seqB_ready hL.1) order _ a inv0 htk (mono _ _ _ _ (fun a' h' inv => h') h)
  have := any_of_headA (Q := Q) (g := l.toArray.size - n) (fun D listed a' hL w' hS' => by
      have := wpAny_of_seq (md := .any) (Q' := Q) (l.drop n) n listed a' w' (fun j => by simp [List.getElem?_drop]) (by rw [hdl]; exact hL.1) (hL.2 w' hS')
      rwa [hdl] at this) _ _ _ _ H w.drew hS
  rw [hlen, show n + (l.toArray.size - n) = l.toArray.size by omega] at this
  exact this

theorem special_one {σ : Type} {P : Program} {md : Region.Mode} {ops : Array Oper} {S : σ → World → Prop} {step : Nat → σ → σ → Prop} {val : Nat → σ → Value} {ps : List Nat} {n f : Nat} {L : σ → Array Bool → Act → Prop} {D : σ} {listed : Array Bool} {a : Act} (i : Nat) {o : Oper}
    (hr : Region.ready md ops listed = [i]) (hi : i < n) (hip : i ∈ ps) (ho : ops[i]? = some o) (hN : NewA P ops S step val i D o a) (hk : ∀ D', step i D D' → wpHeadA P md ops S step val ps n L f D' (listed.setIfInBounds i true) (a.put o.dst (val i D'))) :
    wpHeadA P md ops S step val ps n L (f + 1) D listed a := by
  refine ⟨by rw [hr]; simp, fun j hj => ?_⟩
  rw [hr] at hj
  have : j = i := by simpa using hj
  subst this
  exact ⟨hi, .inl ⟨hip, o, ho, hN, hk⟩⟩

/-! ### the steps -/
variable {σ : Type} {ops : Array Oper} {S : σ → World → Prop}
theorem wpDA_nil {L : Act → Prop} {a : Act} (h : L a) : wpDA P ops S L [] a := h
theorem wpDA_pure {L : Act → Prop} {o : Oper} {rest : List Oper} {v : Value} {a : Act} (hg : o.guard = none) (h : ∀ w, (execOp a.eval o).run P w = .ok (.value v) w)
    (hr : wpDA P ops S L rest (a.put o.dst v)) : wpDA P ops S L (o :: rest) a :=
  ⟨v, fun D => .inl ⟨by unfold Region.wanted; rw [hg], fun w hS => ⟨w, .inl ⟨h w, hS⟩⟩⟩, hr⟩
theorem wpDA_here {L : Act → Prop} {o : Oper} {rest : List Oper} {v : Value} {a : Act} (hg : o.guard = none) (h : ∀ D w, S D w → (execOp a.eval o).run P w = .ok (.value v) w)
    (hr : wpDA P ops S L rest (a.put o.dst v)) : wpDA P ops S L (o :: rest) a :=
  ⟨v, fun D => .inl ⟨by unfold Region.wanted; rw [hg], fun w hS => ⟨w, .inl ⟨h D w hS, hS⟩⟩⟩, hr⟩
theorem wpDA_call {L : Act → Prop} {o : Oper} {rest : List Oper} {v : Value} {a : Act} (hg : o.guard = none) (f : FuncId) (args : Array Value)
    (h : ∀ w, (execOp a.eval o).run P w = .ok (.enter f args) w) (hc : ∀ D w, S D w → Calls P f args w (fun e w2 => e = .returned v ∧ S D w2))
    (hr : wpDA P ops S L rest (a.put o.dst v)) : wpDA P ops S L (o :: rest) a :=
  ⟨v, fun D => .inl ⟨by unfold Region.wanted; rw [hg], fun w hS => ⟨w, .inr (.inr ⟨f, args, h w, hc D w hS⟩)⟩⟩, hr⟩
end
end Pl
