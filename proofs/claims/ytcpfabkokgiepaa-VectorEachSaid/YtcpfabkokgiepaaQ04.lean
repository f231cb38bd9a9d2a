/-
  Texts AriLaws, WideSpec, DoP.
-/
import Derived.Test.YtcpfabkokgiepaaQ02
set_option linter.unusedSimpArgs false
set_option linter.unusedVariables false
set_option maxHeartbeats 8000000
open Pl
section
namespace Pl
def t9 (w k : Nat) (x y : Nat) (s t : Int) : Int :=
 if k = 14 then x + y else if k = 15 then min (max (s + t) (-2 ^ (w - 1))) (2 ^ (w - 1) - 1) else if k = 16 then min (x + y) (2 ^ w - 1)
 else if k = 17 then x - y else if k = 18 then min (max (s - t) (-2 ^ (w - 1))) (2 ^ (w - 1) - 1) else if k = 19 then x - min x y
 else if k = 21 then x * y else if k = 22 then min s t else if k = 23 then min x y else if k = 24 then max s t else if k = 25 then max x y else (x + y + 1) / 2
def pU (w k : Nat) (a b : Vec) (i : Nat) : Nat := u64 (t9 w k (mT a w i) (mT b w i) (sgn w (mT a w i)) (sgn w (mT b w i)))
def vb (w k : Nat) (a b : Vec) : Vec := mJ 0 w (pU w k a b) (128 / w)
def unR (w k : Nat) (v : Vec) (i : Nat) : Nat := if k = 0 then (if sgn w (mT v w i) < 0 then u64 (-(mT v w i : Int)) else mT v w i) else u64 (-(mT v w i : Int))
end Pl
end
section
namespace Pl
def tG (v : Vec) (w k i : Nat) : Nat := if k < 2 then u64 (sgn w (mT v w (i + k % 2 * (64 / w)))) else mT v w (i + k % 2 * (64 / w))
theorem vX {a : Int} {b : Nat} (h : a = b) : Go.Ending.returned (.int .u64 a) = Go.Ending.returned (.int .u64 (b : Int)) := by rw [h]
theorem ret_pair {a b c d : Int} (h : a = c) (k : b = d) : Go.Ending.returned (.tuple #[.int .i64 a, .int .i64 b]) = Go.Ending.returned (.tuple #[.int .i64 c, .int .i64 d]) := by rw [h, k]
end Pl
namespace Pl
open Go
def pZ (s : Bool) (w : Nat) (v : Vec) (i : Nat) : Nat := if s then u64 (sgn w (mT v w (2 * i)) + sgn w (mT v w (2 * i + 1))) else mT v w (2 * i) + mT v w (2 * i + 1)
theorem sgn_bd (w n : Nat) (hw : w ≤ 32) (hw0 : 0 < w) (h : n < 2 ^ w) : -2147483648 ≤ sgn w n ∧ sgn w n ≤ 2147483647 := by
 have e : 2 ^ w = 2 * 2 ^ (w - 1) := by rw [← Nat.pow_succ']; congr 1; omega
 have hp : 2 ^ (w - 1) ≤ 2147483648 := Nat.pow_le_pow_right (show 0 < 2 by decide) (show w - 1 ≤ 31 by omega)
 unfold sgn
 have e' : (2 : Int) ^ w = ((2 ^ w : Nat) : Int) := by simp
 rw [e']
 split <;> omega
theorem dM (v : Vec) (w i : Nat) (hw : w ≤ 32) : mT v w i ≤ 4294967295 := by
 have := mL v w i
 have hp : 2 ^ w ≤ 4294967296 := Nat.pow_le_pow_right (show 0 < 2 by decide) hw
 omega
theorem pair_s (w : Nat) (v : Vec) (k : Nat) (hw : w ≤ 32) (hw0 : 0 < w) : IntKind.u64.wrap (Go.RowKit.wrap64 (sgn w (mT v w (2 * k)) + sgn w (mT v w (2 * k + 1)))) = ((pZ true w v k : Nat) : Int) := by
 have h1 := sgn_bd w _ hw hw0 (mL v w (2 * k))
 have h2 := sgn_bd w _ hw hw0 (mL v w (2 * k + 1))
 rw [IntWalk.wrap64_in _ (by omega), wrap_u64]
 rfl
theorem pair_u (w : Nat) (v : Vec) (k : Nat) (hw : w ≤ 32) : IntKind.u64.wrap ((mT v w (2 * k) : Int) + (mT v w (2 * k + 1) : Int)) = ((pZ false w v k : Nat) : Int) := by
 have h1 := dM v w (2 * k) hw
 have h2 := dM v w (2 * k + 1) hw
 rw [IntWalk.u64_in _ (by omega)]
 simp [pZ]
def unW (op : Int) (v : Vec) : Vec × Int :=
 if 64903 ≤ op ∧ op < 64907 then (mJ 0 16 (tG v 8 (op - 64903).toNat) 8, 0)
 else if 64935 ≤ op ∧ op < 64939 then (mJ 0 32 (tG v 16 (op - 64935).toNat) 4, 0)
 else if 64967 ≤ op ∧ op < 64971 then (mJ 0 64 (tG v 32 (op - 64967).toNat) 2, 0)
 else if op = 64892 then (mJ 0 16 (pZ true 8 v) 8, 0)
 else if op = 64893 then (mJ 0 16 (pZ false 8 v) 8, 0)
 else if op = 64894 then (mJ 0 32 (pZ true 16 v) 4, 0)
 else if op = 64895 then (mJ 0 32 (pZ false 16 v) 4, 0)
 else (0, 1)
end Pl
namespace Pl
open Go
def vS (s : Bool) (w : Nat) (v : Vec) (i : Nat) : Int := if s then sgn w (mT v w i) else (mT v w i : Int)
theorem lane_u (w : Nat) (v : Vec) (i : Nat) (hw : w ≤ 32) : RowKit.wrap64 (mT v w i : Int) = vS false w v i := by
 have := dM v w i hw
 rw [IntWalk.wrap64_in _ (by omega)]
 rfl
theorem u64_lane (w : Nat) (v : Vec) (i k : Nat) (hw : w ≤ 32) : u64 (vS (decide (k < 2)) w v (i + k % 2 * (64 / w))) = tG v w k i := by
 unfold vS tG
 by_cases h : k < 2
 ·simp [h]
 ·have := dM v w (i + k % 2 * (64 / w)) hw
  simp only [h, decide_false, if_false, Bool.false_eq_true]
  exact u64_nat _ (by omega)
end Pl
namespace Pl
open Go
theorem fT (v : Vec) (w k i : Nat) (hw : w ≤ 32) : tG v w k i < 2 ^ 64 := by
 rw [← u64_lane w v i k hw]; exact tR _
theorem fN (w : Nat) (v : Vec) (i k : Nat) (hw : w ≤ 32) (hk : k < 2) (j : Nat) (hj : j = i + k % 2 * (64 / w)) : u64 (vS true w v j) = tG v w k i := by
 subst hj; have := u64_lane w v i k hw; rwa [decide_eq_true hk] at this
theorem fM (w : Nat) (v : Vec) (i k : Nat) (hw : w ≤ 32) (hk : ¬ k < 2) (j : Nat) (hj : j = i + k % 2 * (64 / w)) : u64 (vS false w v j) = tG v w k i := by
 subst hj; have := u64_lane w v i k hw; rwa [decide_eq_false hk] at this
end Pl
namespace Pl
open Go
theorem lane_bd (s : Bool) (w : Nat) (v : Vec) (i : Nat) (hw : w ≤ 32) (hw0 : 0 < w) : -2147483648 ≤ vS s w v i ∧ vS s w v i ≤ 4294967295 := by
 have h1 := sgn_bd w _ hw hw0 (mL v w i)
 have h2 := dM v w i hw
 unfold vS
 split <;> omega
theorem rpair (w : Nat) (v : Vec) (k : Nat) (s : Bool) (hw : w ≤ 32) (hw0 : 0 < w) : IntKind.u64.wrap (IntKind.i64.wrap (vS s w v (2 * k) + vS s w v (2 * k + 1))) = ((pZ s w v k : Nat) : Int) := by
 have h1 := lane_bd s w v (2 * k) hw hw0
 have h2 := lane_bd s w v (2 * k + 1) hw hw0
 rw [IntWalk.i64_in _ (by omega), wrap_u64]
 unfold vS pZ
 cases s
 ·have h3 := dM v w (2 * k) hw
  have h4 := dM v w (2 * k + 1) hw
  simp only [Bool.false_eq_true, if_false]
  unfold u64
  omega
 ·rfl
theorem pair_lt (w : Nat) (v : Vec) (k : Nat) (s : Bool) (hw : w ≤ 32) : pZ s w v k < 2 ^ 64 := by
 have h3 := dM v w (2 * k) hw
 have h4 := dM v w (2 * k + 1) hw
 unfold pZ
 split
 ·exact tR _
 ·omega
end Pl
end
section
namespace Pl
open Go
section
variable {σ : Type} {P : Program} {ops : Array Oper} {md : Region.Mode} {S : σ → World → Prop} {step : Nat → σ → σ → Prop} {val : Nat → σ → Value}
def NewE (P : Program) (ops : Array Oper) (S : σ → World → Prop) (step : Nat → σ → σ → Prop) (val : Nat → σ → Value) (i : Nat) (D : σ) (o : Oper) (a : Act) : Prop :=
 Region.wanted o (yielded ops a.tmps) = true ∧ ∀ w, S D w → ∃ w1, (∃ D', step i D D' ∧ S D' w1 ∧
  ((execOp a.eval o).run P w = .ok (.value (val i D')) w1 ∨ ((execOp a.eval o).run P w = .ok .skip w1 ∧ val i D' = undef))) ∨
  ∃ f args, (execOp a.eval o).run P w = .ok (.enter f args) w1 ∧ Calls P f args w1 (fun e w2 => ∃ D', step i D D' ∧ S D' w2 ∧ e = .returned (val i D'))
theorem NewE.same {i : Nat} {D : σ} {o : Oper} {a b : Act} (h : NewE P ops S step val i D o a) (he : execOp b.eval o = execOp a.eval o)
 (hw : Region.wanted o (yielded ops b.tmps) = Region.wanted o (yielded ops a.tmps)) : NewE P ops S step val i D o b := by
 unfold NewE at *
 rw [he, hw]
 exact h
def newOpE (P : Program) (ops : Array Oper) (S : σ → World → Prop) (step : Nat → σ → σ → Prop) (val : Nat → σ → Value) (i : Nat) (D : σ) (K : σ → Act → Prop) (a : Act) : Prop :=
 ∃ o, ops[i]? = some o ∧ NewE P ops S step val i D o a ∧ ∀ D', step i D D' → K D' (a.put o.dst (val i D'))
theorem newOpE_mono {i : Nat} {D : σ} {a : Act} {K K' : σ → Act → Prop} (h : ∀ x a, K x a → K' x a) (hh : newOpE P ops S step val i D K a) : newOpE P ops S step val i D K' a := wZ
theorem newOpE_put {j : Nat} {D : σ} {oi oj : Oper} {v : Value} (hj : ops[j]? = some oj) (hap : oi.apart ops oj = true)
 (hsi : ∀ cs b, oi.op ≠ .select cs b) (hsj : ∀ cs b, oj.op ≠ .select cs b) {K : σ → Act → Prop} {a : Act}
 (hy : dK P ops S oi v a) (h : newOpE P ops S step val j D K (a.put oi.dst v)) :
 newOpE P ops S step val j D (fun x b => dK P ops S oi v b ∧ K x (b.put oi.dst v)) a := qN
def eJ (P : Program) (md : Region.Mode) (ops : Array Oper) (S : σ → World → Prop) (step : Nat → σ → σ → Prop) (val : Nat → σ → Value) (ps : List Nat) (n : Nat) (L : σ → Array Bool → Act → Prop) : Nat → σ → Array Bool → Act → Prop
 | 0, D, listed, a => L D listed a
 | f + 1, D, listed, a => Region.ready md ops listed ≠ [] ∧ ∀ i ∈ Region.ready md ops listed, i < n ∧
  ((i ∈ ps ∧ newOpE P ops S step val i D (fun D' => eJ P md ops S step val ps n L f D' (listed.setIfInBounds i true)) a) ∨
   (i ∉ ps ∧ doOpA P ops S i (eJ P md ops S step val ps n L f D (listed.setIfInBounds i true)) a))
theorem uL {ps : List Nat} {n g : Nat} {L : σ → Array Bool → Act → Prop} {Q : Exit → Act → World → Prop}
 (hL : ∀ D listed a, L D listed a → ∀ w, S D w → wpAny P md ops Q g listed a w) :
 ∀ (f : Nat) (D : σ) (listed : Array Bool) (a : Act), eJ P md ops S step val ps n L f D listed a → ∀ w, S D w → wpAny P md ops Q (f + g) listed a w
 | 0, D, listed, a, h, w, hw => by rw [Nat.zero_add]; exact hL _ _ _ h w hw
 | f + 1, D, listed, a, h, w, hw => by
   rw [show f + 1 + g = (f + g) + 1 by omega]
   refine ⟨fun h0 => absurd h0 h.1, fun i hi => ?_⟩
   obtain ⟨_, ⟨hip, o, ho, hN, hk⟩ | ⟨hip, o, v, ho, hd, hk⟩⟩ := h.2 i hi
   ·obtain ⟨hw1, hr⟩ := hN
    unfold wpOp
    simp only [ho]
    rw [if_pos hw1]
    refine .inl ?_
    unfold Oper.wp
    obtain ⟨w1, ⟨D', hst, hS1, hrun⟩ | ⟨f2, args, hrun, hcall⟩⟩ := hr w hw
    ·rcases hrun with hrun | ⟨hrun, hv⟩
     ·rw [hrun]
      exact uL hL f _ _ _ (hk D' hst) _ hS1
     ·rw [hrun]
      have := uL hL f _ _ _ (hk D' hst) _ hS1
      rw [hv] at this
      exact this
    ·rw [hrun]
     exact hcall.mono fun e w2 ⟨D', hst, hS1, he⟩ => by subst he; exact uL hL f _ _ _ (hk D' hst) _ hS1
   ·exact (hd D).op ho hw fun w2 hS2 => uL hL f _ _ _ hk w2 hS2
theorem head_firstE {ps : List Nat} {n i : Nat} {oi : Oper} {v : Value} {L : σ → Array Bool → Act → Prop} (hi : ops[i]? = some oi) (hip : i ∉ ps) (hsel : ∀ (j : Nat) (o : Oper) cs b, ops[j]? = some o → o.op ≠ .select cs b)
 (hs : Region.sinkB md ops n = true) (hc : Region.chainB md ops n = true) (hn : n < ops.size) (hin : i < n)
 (hdone : ∀ D listed a, L D listed a → ∀ j ∈ Region.ready md ops listed, n ≤ j) :
 ∀ (f : Nat) (D : σ) (listed : Array Bool) (a : Act), HeadInv md ops n listed →
  (∀ j oj, ops[j]? = some oj → j ≠ i → listed.getD j true = false → (∀ e ∈ oj.after, Region.binds md e = true → e.on ≠ i) → oi.apart ops oj = true) →
  i ∈ Region.ready md ops listed → dK P ops S oi v a →
  eJ P md ops S step val ps n L f D (listed.setIfInBounds i true) (a.put oi.dst v) → eJ P md ops S step val ps n L (f + 1) D listed a := by
 intro f
 induction f with
 | zero =>
   intro D listed a inv _ hr hy H
   have hun := (mem_ready.1 hr).1
   refine ⟨fun h => (by rw [h] at hr; cases hr), fun j hj => ?_⟩
   have hjn : j < n := qZ
   refine ⟨hjn, ?_⟩
   by_cases hji : j = i
   ·exact jF
   ·have := hdone _ _ _ H j (ready_mono hj hji)
    omega
 | succ f ih =>
   intro D listed a inv hfree hr hy H
   have hun := (mem_ready.1 hr).1
   refine ⟨fun h => (by rw [h] at hr; cases hr), fun j hj => ?_⟩
   have hjn : j < n := qZ
   refine ⟨hjn, ?_⟩
   by_cases hji : j = i
   ·exact jF
   ·obtain ⟨hjun, oj, hoj, hall⟩ := mem_ready.1 hj
    have hnot : ∀ e ∈ oj.after, Region.binds md e = true → e.on ≠ i := fun e he hb heq => k0
    have hap := hfree j oj hoj hji hjun hnot
    have hfree' : ∀ k ok, ops[k]? = some ok → k ≠ i → (listed.setIfInBounds j true).getD k true = false →
     (∀ e ∈ ok.after, Region.binds md e = true → e.on ≠ i) → oi.apart ops ok = true := fun k ok hk hki hun hno => gP
    rcases (H.2 j (ready_mono hj hji)).2 with ⟨hjp, h1⟩ | ⟨hjp, h1⟩
    ·have h2 := newOpE_put hoj hap (fun cs b => hsel i oi cs b hi) (fun cs b => hsel j oj cs b hoj) hy h1
     refine .inl ⟨hjp, newOpE_mono (fun x b h3 => ih x (listed.setIfInBounds j true) b (inv.set hj hjn) hfree' (ready_mono hr (Ne.symm hji)) h3.1 ?_) h2⟩
     exact jY
    ·exact g9
theorem fJ {ps : List Nat} {n f : Nat} {l : List Oper} {L : σ → Array Bool → Act → Prop} {D : σ} (hl : l.toArray = ops) (hsel : Region.noSelect ops = true) (hs : Region.sinkB md ops n = true) (hc : Region.chainB md ops n = true) (hn : n < ops.size)
 (hdone : ∀ D listed a, L D listed a → ∀ j ∈ Region.ready md ops listed, n ≤ j) :
 ∀ (order : List Nat) (listed : Array Bool) (a : Act), HeadInv md ops n listed → takes md ops ps n order listed = true →
  vJ P ops S (fun a' => HeadInv md ops n (rX listed order) → eJ P md ops S step val ps n L f D (rX listed order) a') (vW l order) a → eJ P md ops S step val ps n L (order.length + f) D listed a
 | [], listed, a, inv, _, h => by rw [show ([] : List Nat).length + f = f by simp]; exact h inv
 | k :: order, listed, a, inv, hB, h => by
   simp only [takes, Bool.and_eq_true, decide_eq_true_eq, Bool.not_eq_true'] at hB
   obtain ⟨⟨⟨⟨hr, hf⟩, hk⟩, hp⟩, hB'⟩ := hB
   have hr' : k ∈ Region.ready md ops listed := by simpa using hr
   obtain ⟨_, o, ho, _⟩ := mem_ready.1 hr'
   have hlo : l[k]? = some o := by rw [← hl] at ho; simpa using ho
   simp only [vW, hlo] at h
   obtain ⟨v, hy, hK⟩ := h
   have hpk : k ∉ ps := by simpa using hp
   rw [show (k :: order).length + f = (order.length + f) + 1 by simp only [List.length_cons]; omega]
   exact head_firstE ho hpk (Region.noSelect_spec hsel) hs hc hn hk hdone (order.length + f) D listed a inv (Region.free_spec ho hf) hr' hy
    (fJ hl hsel hs hc hn hdone order _ _ (inv.set hr' hk) hB' hK)
end
section
variable {P : Program} {md : Region.Mode}
def checkE (ops : Array Oper) (n p : Nat) (order1 order2 : List Nat) : Bool :=
 Region.noSelect ops && decide (n < ops.size) && Region.sinkB .any ops n && Region.chainB .any ops n && takes .any ops [p] n order1 (Array.replicate ops.size false) &&
 (Region.ready .any ops (rX (Array.replicate ops.size false) order1) == [p]) && decide (p < n) && takes .any ops [p] n order2 ((rX (Array.replicate ops.size false) order1).setIfInBounds p true) &&
 decide (order1.length + (order2.length + 1) = n) && Region.seqB .any ops (ops.size - n) n (rX ((rX (Array.replicate ops.size false) order1).setIfInBounds p true) order2)
theorem wpDA_mono {σ : Type} {ops : Array Oper} {S : σ → World → Prop} : ∀ (os : List Oper) (a : Act) (K K' : Act → Prop), (∀ a, K a → K' a) → vJ P ops S K os a → vJ P ops S K' os a := yT
theorem region_call {id : Nat} {Q : Exit → Act → World → Prop} {a : Act} {w : World} {l : List Oper} (S : Option Value → World → Prop) (C : Value → Prop) (n p : Nat) (order1 order2 : List Nat) (hm : P.follows .mixedOrders = true) (hB : checkE l.toArray n p order1 order2 = true)
 {op : Oper} (hop : l[p]? = some op) (hpn : op.guard = none) (hS : S none w.drew)
 (h : vJ P l.toArray S (fun a1 => ∃ f args, (∀ w, (execOp a1.eval op).run P w = .ok (.enter f args) w) ∧ (∀ w, S none w → Calls P f args w (fun e w2 => ∃ v, C v ∧ S (some v) w2 ∧ e = .returned v)) ∧
  ∀ v, C v → vJ P l.toArray S (fun a2 => ∀ w', S (some v) w' → wpList P l.toArray Q (l.drop n) a2 w') (vW l order2) (a1.put op.dst v)) (vW l order1) a) : (Code.region id l.toArray true).wp P Q a w := by
 simp only [checkE, Bool.and_eq_true, decide_eq_true_eq, beq_iff_eq] at hB
 obtain ⟨⟨⟨⟨⟨⟨⟨⟨⟨hsel, hn⟩, hs⟩, hc⟩, ht1⟩, hrd⟩, hp⟩, ht2⟩, hlen⟩, hseq⟩ := hB
 have hn' : n < l.length := by simpa using hn
 have hdl : (l.drop n).length = l.toArray.size - n := by simp
 have inv0 : HeadInv .any l.toArray n (Array.replicate l.toArray.size false) :=
  ⟨by simp, fun j oj _ hl => (by rw [getD_replicate_false] at hl; cases hl), fun t _ ht => getD_in (by simpa using ht) (getD_replicate_false _ _)⟩
 have hpr : p ∈ Region.ready .any l.toArray (rX (Array.replicate l.toArray.size false) order1) := by rw [hrd]; simp
 refine wp_region_any hm ?_
 have H := fJ (f := order2.length + 1) (step := fun i D D' => i = p ∧ D = none ∧ ∃ v, C v ∧ D' = some v) (val := fun _ D => D.getD undef) (D := none) (L := fun D listed a' => Region.seqB .any l.toArray (l.toArray.size - n) n listed = true ∧ ∀ w', S D w' → wpList P l.toArray Q (l.drop n) a' w') rfl hsel hs hc hn (fun D listed a hL => seqB_ready hL.1) order1 _ a inv0 ht1
  (wpDA_mono _ _ _ _ (fun a1 h1 inv => by
   obtain ⟨f, args, he, hcall, h2⟩ := h1
   refine ⟨by rw [hrd]; simp, fun j hj => ?_⟩
   rw [hrd] at hj
   have : j = p := by simpa using hj
   subst this
   refine ⟨hp, .inl ⟨by simp, op, by simpa using hop, ⟨by unfold Region.wanted; rw [hpn], fun w hw => ⟨w, .inr ⟨f, args, he w, (hcall w hw).mono fun e w2 ⟨v, hcv, hv, hev⟩ => ⟨some v, ⟨rfl, rfl, v, hcv, rfl⟩, hv, by rw [hev]; rfl⟩⟩⟩⟩, ?_⟩⟩
   rintro D' ⟨_, _, v, hcv, rfl⟩
   have inv2 := inv.set hpr hp
   have := fJ (f := 0) (step := fun i D D' => i = j ∧ D = none ∧ ∃ v, C v ∧ D' = some v) (val := fun _ D => D.getD undef) (D := some v) (L := fun D listed a' => Region.seqB .any l.toArray (l.toArray.size - n) n listed = true ∧ ∀ w', S D w' → wpList P l.toArray Q (l.drop n) a' w') rfl hsel hs hc hn (fun D listed a hL => seqB_ready hL.1) order2 _ (a1.put op.dst v) inv2 ht2
    (wpDA_mono _ _ _ _ (fun a2 h2 inv => ⟨hseq, h2⟩) (h2 v hcv))
   simpa using this) h)
 exact qH
end
section
variable {P : Program}
def planE {σ : Type} (P : Program) (ops : Array Oper) (S : σ → World → Prop) (step : Nat → σ → σ → Prop) (val : Nat → σ → Value) (l : List Oper) (L : σ → Act → Prop) (last : List Nat) : List (List Nat × Nat) → σ → Act → Prop
 | [], D, a => vJ P ops S (L D) (vW l last) a
 | (ord, p) :: rest, D, a => vJ P ops S (fun a1 => ∃ op, l[p]? = some op ∧ NewE P ops S step val p D op a1 ∧ ∀ D', step p D D' → planE P ops S step val l L last rest D' (a1.put op.dst (val p D'))) (vW l ord) a
def planB (ops : Array Oper) (n : Nat) (ps : List Nat) (last : List Nat) : List (List Nat × Nat) → Array Bool → Bool
 | [], listed => takes .any ops ps n last listed && Region.seqB .any ops (ops.size - n) n (rX listed last)
 | (ord, p) :: rest, listed => takes .any ops ps n ord listed && (Region.ready .any ops (rX listed ord) == [p]) && decide (p < n) && ps.contains p && planB ops n ps last rest ((rX listed ord).setIfInBounds p true)
def planN (last : List Nat) : List (List Nat × Nat) → Nat
 | [] => last.length
 | (ord, _) :: rest => ord.length + (planN last rest + 1)
theorem marks_inv {md : Region.Mode} {ops : Array Oper} {n : Nat} {ps : List Nat} : ∀ (ord : List Nat) (listed : Array Bool), HeadInv md ops n listed → takes md ops ps n ord listed = true → HeadInv md ops n (rX listed ord)
 | [], listed, inv, _ => inv
 | k :: ord, listed, inv, h => by
   simp only [takes, Bool.and_eq_true, decide_eq_true_eq] at h
   obtain ⟨⟨⟨⟨hr, _⟩, hk⟩, _⟩, h2⟩ := h
   exact marks_inv ord _ (inv.set (by simpa using hr) hk) h2
theorem head_plan {σ : Type} {Q : Exit → Act → World → Prop} {l : List Oper} {S : σ → World → Prop} {step : Nat → σ → σ → Prop} {val : Nat → σ → Value} {n : Nat} {ps last : List Nat} (hsel : Region.noSelect l.toArray = true) (hs : Region.sinkB .any l.toArray n = true) (hc : Region.chainB .any l.toArray n = true) (hn : n < l.toArray.size) :
 ∀ (segs : List (List Nat × Nat)) (D : σ) (listed : Array Bool) (a : Act), HeadInv .any l.toArray n listed → planB l.toArray n ps last segs listed = true →
  planE P l.toArray S step val l (fun D a' => ∀ w', S D w' → wpList P l.toArray Q (l.drop n) a' w') last segs D a →
  eJ P .any l.toArray S step val ps n (fun D listed a' => Region.seqB .any l.toArray (l.toArray.size - n) n listed = true ∧ ∀ w', S D w' → wpList P l.toArray Q (l.drop n) a' w') (planN last segs) D listed a
 | [], D, listed, a, inv, hB, h => by
   simp only [planB, Bool.and_eq_true] at hB
   have := fJ (f := 0) (ps := ps) (step := step) (val := val) (D := D) (L := fun D listed a' => Region.seqB .any l.toArray (l.toArray.size - n) n listed = true ∧ ∀ w', S D w' → wpList P l.toArray Q (l.drop n) a' w') rfl hsel hs hc hn (fun D listed a hL => seqB_ready hL.1) last listed a inv hB.1 (wpDA_mono _ _ _ _ (fun a2 h2 inv => ⟨hB.2, h2⟩) h)
   simpa [planN] using this
 | (ord, p) :: rest, D, listed, a, inv, hB, h => by
   simp only [planB, Bool.and_eq_true, decide_eq_true_eq, beq_iff_eq] at hB
   obtain ⟨⟨⟨⟨ht, hrd⟩, hp⟩, hpp⟩, hB2⟩ := hB
   have hpr : p ∈ Region.ready .any l.toArray (rX listed ord) := by rw [hrd]; simp
   have inv2 := (marks_inv ord listed inv ht).set hpr hp
   exact fJ (f := planN last rest + 1) (ps := ps) (step := step) (val := val) (D := D) rfl hsel hs hc hn (fun D listed a hL => seqB_ready hL.1) ord listed a inv ht
    (wpDA_mono _ _ _ _ (fun a1 h1 _ => by
     obtain ⟨op, hop, hN, h2⟩ := h1
     refine ⟨by rw [hrd]; simp, fun j hj => ?_⟩
     rw [hrd] at hj
     have : j = p := by simpa using hj
     subst this
     exact ⟨hp, .inl ⟨by simpa using hpp, op, by simpa using hop, hN, fun D' hD => head_plan hsel hs hc hn rest D' _ _ inv2 hB2 (h2 D' hD)⟩⟩) h)
def checkP (ops : Array Oper) (n : Nat) (ps last : List Nat) (segs : List (List Nat × Nat)) : Bool :=
 Region.noSelect ops && decide (n < ops.size) && Region.sinkB .any ops n && Region.chainB .any ops n && planB ops n ps last segs (Array.replicate ops.size false) && decide (planN last segs = n)
theorem region_plan {σ : Type} {id : Nat} {Q : Exit → Act → World → Prop} {a : Act} {w : World} {l : List Oper} (S : σ → World → Prop) (step : Nat → σ → σ → Prop) (val : Nat → σ → Value) (D0 : σ) (n : Nat) (ps last : List Nat) (segs : List (List Nat × Nat)) (hm : P.follows .mixedOrders = true) (hB : checkP l.toArray n ps last segs = true)
 (hS : S D0 w.drew) (h : planE P l.toArray S step val l (fun D a' => ∀ w', S D w' → wpList P l.toArray Q (l.drop n) a' w') last segs D0 a) : (Code.region id l.toArray true).wp P Q a w := by
 simp only [checkP, Bool.and_eq_true, decide_eq_true_eq] at hB
 obtain ⟨⟨⟨⟨⟨hsel, hn⟩, hs⟩, hc⟩, hpl⟩, hlen⟩ := hB
 have hn' : n < l.length := by simpa using hn
 have hdl : (l.drop n).length = l.toArray.size - n := by simp
 have inv0 : HeadInv .any l.toArray n (Array.replicate l.toArray.size false) :=
  ⟨by simp, fun j oj _ hl => (by rw [getD_replicate_false] at hl; cases hl), fun t _ ht => getD_in (by simpa using ht) (getD_replicate_false _ _)⟩
 refine wp_region_any hm ?_
 have H := head_plan (P := P) (Q := Q) (ps := ps) (step := step) (val := val) hsel hs hc hn segs D0 _ a inv0 hpl h
 exact qH
variable {σ : Type} {ops : Array Oper} {S : σ → World → Prop}
theorem wpDA_skip {L : Act → Prop} {o : Oper} {rest : List Oper} {a : Act} (hg : Region.wanted o (yielded ops a.tmps) = false)
 (hr : vJ P ops S L rest (a.put o.dst undef)) : vJ P ops S L (o :: rest) a := ⟨undef, fun _ => .inr ⟨hg, rfl⟩, hr⟩
theorem wpDA_pureg {L : Act → Prop} {o : Oper} {rest : List Oper} {v : Value} {a : Act} (hg : Region.wanted o (yielded ops a.tmps) = true) (h : ∀ w, (execOp a.eval o).run P w = .ok (.value v) w)
 (hr : vJ P ops S L rest (a.put o.dst v)) : vJ P ops S L (o :: rest) a :=
 ⟨v, fun D => .inl ⟨hg, fun w hS => ⟨w, .inl ⟨h w, hS⟩⟩⟩, hr⟩
theorem wpDA_hereg {L : Act → Prop} {o : Oper} {rest : List Oper} {v : Value} {a : Act} (hg : Region.wanted o (yielded ops a.tmps) = true) (h : ∀ D w, S D w → (execOp a.eval o).run P w = .ok (.value v) w)
 (hr : vJ P ops S L rest (a.put o.dst v)) : vJ P ops S L (o :: rest) a :=
 ⟨v, fun D => .inl ⟨hg, fun w hS => ⟨w, .inl ⟨h D w hS, hS⟩⟩⟩, hr⟩
theorem wpDA_callg {L : Act → Prop} {o : Oper} {rest : List Oper} {v : Value} {a : Act} (hg : Region.wanted o (yielded ops a.tmps) = true) (f : FuncId) (args : Array Value)
 (h : ∀ w, (execOp a.eval o).run P w = .ok (.enter f args) w) (hc : ∀ D w, S D w → Calls P f args w (fun e w2 => e = .returned v ∧ S D w2))
 (hr : vJ P ops S L rest (a.put o.dst v)) : vJ P ops S L (o :: rest) a :=
 ⟨v, fun D => .inl ⟨hg, fun w hS => ⟨w, .inr (.inr ⟨f, args, h w, hc D w hS⟩)⟩⟩, hr⟩
end
end Pl
end
