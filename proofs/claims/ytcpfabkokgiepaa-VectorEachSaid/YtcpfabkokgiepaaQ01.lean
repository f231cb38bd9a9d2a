/-
  Texts Vec, Do.
-/
import Derived.Test.YtcpfabkokgiepaaQ00
set_option linter.unusedSimpArgs false
set_option linter.unusedVariables false
set_option maxHeartbeats 8000000
open Pl
section
namespace Pl
abbrev Vec := BitVec 128
def tW (v : Vec) (s l : Nat) : Nat := v.toNat / 2 ^ s % 2 ^ l
def pN (v : Vec) (s l x : Nat) : Vec := BitVec.ofNat 128 (v.toNat ^^^ ((tW v s l ^^^ x % 2 ^ l) <<< s))
theorem mA (v : Vec) (s l j : Nat) : (tW v s l).testBit j = (decide (j < l) && v.toNat.testBit (s + j)) := by
 unfold tW
 rw [Nat.testBit_mod_two_pow, Nat.testBit_div_two_pow, Nat.add_comm]
theorem dT (v : Vec) (j : Nat) (h : 128 ≤ j) : v.toNat.testBit j = false :=
 Nat.testBit_lt_two_pow (Nat.lt_of_lt_of_le v.isLt (Nat.pow_le_pow_right (by decide) h))
theorem pQ (v : Vec) (s l x j : Nat) (h : s + l ≤ 128) :
 (pN v s l x).toNat.testBit j = if s ≤ j ∧ j < s + l then x.testBit (j - s) else v.toNat.testBit j := by
 unfold pN
 rw [BitVec.toNat_ofNat, Nat.testBit_mod_two_pow, Nat.testBit_xor, Nat.testBit_shiftLeft, Nat.testBit_xor, mA, Nat.testBit_mod_two_pow]
 by_cases h1 : s ≤ j
 ·have e : s + (j - s) = j := by omega
  rw [e]
  by_cases h2 : j < s + l
  ·have h3 : j - s < l := by omega
   have h4 : j < 128 := by omega
   simp [h1, h2, h3, h4]
  ·have h3 : ¬ (j - s < l) := by omega
   by_cases h4 : j < 128
   ·simp [h1, h2, h3, h4]
   ·simp [h1, h2, h3, h4, dT v j (by omega)]
 ·by_cases h4 : j < 128
  ·simp [h1, h4]
  ·omega
theorem fS {u v : Vec} (h : ∀ j, j < 128 → u.toNat.testBit j = v.toNat.testBit j) : u = v := by
 apply BitVec.eq_of_toNat_eq
 apply Nat.eq_of_testBit_eq
 intro j
 by_cases hj : j < 128
 ·exact h j hj
 ·rw [dT u j (by omega), dT v j (by omega)]
theorem r9 (v : Vec) (s l : Nat) : tW v s l < 2 ^ l := Nat.mod_lt _ (Nat.two_pow_pos _)
theorem eL (v : Vec) (s l x : Nat) (h : s + l ≤ 128) : tW (pN v s l x) s l = x % 2 ^ l := by
 apply Nat.eq_of_testBit_eq
 intro j
 rw [mA, pQ _ _ _ _ _ h, Nat.testBit_mod_two_pow]
 by_cases hj : j < l
 ·rw [if_pos ⟨by omega, by omega⟩]
  simp [hj, show s + j - s = j by omega]
 ·simp [hj]
theorem eZ (v : Vec) (s l x s' l' : Nat) (h : s + l ≤ 128) (hd : s' + l' ≤ s ∨ s + l ≤ s') : tW (pN v s l x) s' l' = tW v s' l' := by
 apply Nat.eq_of_testBit_eq
 intro j
 rw [mA, mA, pQ _ _ _ _ _ h]
 by_cases hj : j < l'
 ·rw [if_neg (by omega)]
 ·simp [hj]
theorem fB (v : Vec) (s x : Nat) (h : s ≤ 128) : pN v s 0 x = v := by
 apply fS
 intro j _
 rw [pQ _ _ _ _ _ (by omega), if_neg (by omega)]
theorem v8 (v : Vec) (s l m x : Nat) (h : s + l + m ≤ 128) : pN (pN v s l x) (s + l) m (x / 2 ^ l) = pN v s (l + m) x := by
 apply fS
 intro j _
 rw [pQ _ _ _ _ _ h, pQ _ _ _ _ _ (by omega), pQ _ _ _ _ _ (by omega), Nat.testBit_div_two_pow]
 by_cases h1 : s + l ≤ j ∧ j < s + l + m
 ·rw [if_pos h1, if_pos ⟨by omega, by omega⟩, show j - (s + l) + l = j - s by omega]
 ·rw [if_neg h1]
  by_cases h2 : s ≤ j ∧ j < s + l
  ·rw [if_pos h2, if_pos ⟨by omega, by omega⟩]
  ·rw [if_neg h2, if_neg (by omega)]
theorem putAt_mod (v : Vec) (s l x : Nat) : pN v s l (x % 2 ^ l) = pN v s l x := by
 unfold pN; rw [Nat.mod_mod]
theorem fV (v : Vec) (s l m : Nat) : tW v s (l + m) = tW v s l + 2 ^ l * tW v (s + l) m := by
 unfold tW
 rw [Nat.pow_add 2 l m, Nat.mod_mul, Nat.pow_add 2 s l, Nat.div_div_eq_div_mul]
def mT (v : Vec) (w i : Nat) : Nat := tW v (w * i) w
def t7 (v : Vec) (w i x : Nat) : Vec := pN v (w * i) w x
theorem mL (v : Vec) (w i : Nat) : mT v w i < 2 ^ w := r9 _ _ _
theorem lane_in {w i : Nat} (h : i < 128 / w) : w * i + w ≤ 128 := by
 have h1 : i + 1 ≤ 128 / w := h
 have h2 := Nat.mul_le_mul_left w h1
 have h3 := Nat.mul_div_le 128 w
 rw [Nat.mul_add, Nat.mul_one] at h2
 omega
theorem getN_setN_same (v : Vec) (w i x : Nat) (h : i < 128 / w) : mT (t7 v w i x) w i = x % 2 ^ w :=
 eL _ _ _ _ (lane_in h)
theorem getN_setN_other (v : Vec) (w i j x : Nat) (h : i < 128 / w) (hij : j ≠ i) : mT (t7 v w i x) w j = mT v w j := by
 unfold mT t7
 refine eZ _ _ _ _ _ _ (lane_in h) ?_
 rcases Nat.lt_or_gt_of_ne hij with h1 | h1
 ·left
  have := Nat.mul_le_mul_left w (show j + 1 ≤ i from h1)
  rw [Nat.mul_add, Nat.mul_one] at this
  exact this
 ·right
  have := Nat.mul_le_mul_left w (show i + 1 ≤ j from h1)
  rw [Nat.mul_add, Nat.mul_one] at this
  exact this
theorem uY (v : Vec) (w i j x : Nat) (h : i < 128 / w) : mT (t7 v w i x) w j = if j = i then x % 2 ^ w else mT v w j := by
 split
 ·subst j; exact getN_setN_same v w i x h
 ·exact getN_setN_other v w i j x h ‹_›
theorem rL {u v : Vec} (w n : Nat) (hw : 0 < w) (hn : w * n = 128) (h : ∀ i, i < n → mT u w i = mT v w i) : u = v := by
 apply fS
 intro j hj
 have hi : j / w < n := by
  rw [Nat.div_lt_iff_lt_mul hw, Nat.mul_comm]; omega
 have e := congrArg (fun n => n.testBit (j % w)) (h (j / w) hi)
 simp only [mT, mA, Nat.div_add_mod] at e
 simpa [Nat.mod_lt j hw] using e
theorem setN_mod (v : Vec) (w i x : Nat) : t7 v w i (x % 2 ^ w) = t7 v w i x := putAt_mod _ _ _ _
theorem setN_congr (v : Vec) (w i x y : Nat) (h : x % 2 ^ w = y % 2 ^ w) : t7 v w i x = t7 v w i y := by
 rw [← setN_mod v w i x, h, setN_mod]
def mJ (v : Vec) (w : Nat) (f : Nat → Nat) : Nat → Vec
 | 0 => v
 | n + 1 => t7 (mJ v w f n) w n (f n)
theorem pX (v : Vec) (w : Nat) (f : Nat → Nat) (n j : Nat) (h : n ≤ 128 / w) : mT (mJ v w f n) w j = if j < n then f j % 2 ^ w else mT v w j := by
 induction n with
 | zero => simp [mJ]
 | succ n ih =>
   rw [mJ, uY _ _ _ _ _ (by omega), ih (by omega)]
   by_cases h1 : j = n
   ·subst h1; simp
   ·rw [if_neg h1]
    by_cases h2 : j < n
    ·rw [if_pos h2, if_pos (by omega)]
    ·rw [if_neg h2, if_neg (by omega)]
theorem buildOn_congr (v : Vec) (w : Nat) (f g : Nat → Nat) (n : Nat) (h : ∀ i, i < n → f i % 2 ^ w = g i % 2 ^ w) : mJ v w f n = mJ v w g n := by
 induction n with
 | zero => rfl
 | succ n ih => rw [mJ, mJ, ih (fun i hi => h i (by omega)), setN_congr _ _ _ _ _ (h n (by omega))]
def sgn (w n : Nat) : Int := if n < 2 ^ (w - 1) then n else (n : Int) - 2 ^ w
end Pl
end
section
namespace Pl
open Go
section
variable {P : Program} {ops : Array Oper} {md : Region.Mode} {S : World → Prop}
def Does (P : Program) (ops : Array Oper) (S : World → Prop) (o : Oper) (v : Value) (a : Act) : Prop :=
 (Region.wanted o (yielded ops a.tmps) = true ∧ ∀ w, S w → ∃ w1,
  ((execOp a.eval o).run P w = .ok (.value v) w1 ∧ S w1) ∨ ((execOp a.eval o).run P w = .ok .skip w1 ∧ v = undef ∧ S w1) ∨
  ∃ f args, (execOp a.eval o).run P w = .ok (.enter f args) w1 ∧ Calls P f args w1 (fun e w2 => e = .returned v ∧ S w2)) ∨
 (Region.wanted o (yielded ops a.tmps) = false ∧ v = undef)
theorem Does.same {o : Oper} {v : Value} {a b : Act} (h : Does P ops S o v a) (he : execOp b.eval o = execOp a.eval o)
 (hw : Region.wanted o (yielded ops b.tmps) = Region.wanted o (yielded ops a.tmps)) : Does P ops S o v b := by
 unfold Does at *
 rw [he, hw]
 exact h
theorem Does.op {i : Nat} {o : Oper} {v : Value} {a : Act} {w : World} {K : Act → World → Prop} {Q : Exit → Act → World → Prop} (hi : ops[i]? = some o) (h : Does P ops S o v a) (hS : S w)
 (hk : ∀ w2, S w2 → K (a.put o.dst v) w2) : wpOp P ops Q i K a w := by
 unfold wpOp
 simp only [hi]
 rcases h with ⟨hw, hv⟩ | ⟨hw, rfl⟩
 ·rw [if_pos hw]
  refine .inl ?_
  unfold Oper.wp
  obtain ⟨w1, h1 | h1 | ⟨f, args, h1, h2⟩⟩ := hv w hS
  ·rw [h1.1]; exact hk _ h1.2
  ·rw [h1.1]; have := hk _ h1.2.2; rw [h1.2.1] at this; exact this
  ·rw [h1]
   exact h2.mono fun e w2 ⟨he, hs⟩ => by subst he; exact hk _ hs
 ·rw [if_neg (by rw [hw]; decide)]
  exact hk _ hS
def doOp (P : Program) (ops : Array Oper) (S : World → Prop) (i : Nat) (K : Act → Prop) (a : Act) : Prop := ∃ o v, ops[i]? = some o ∧ Does P ops S o v a ∧ K (a.put o.dst v)
theorem doOp_mono {i : Nat} {a : Act} {K K' : Act → Prop} (h : ∀ a, K a → K' a) (hh : doOp P ops S i K a) : doOp P ops S i K' a := by
 obtain ⟨o, v, h1, h2, h3⟩ := hh
 exact ⟨o, v, h1, h2, h _ h3⟩
theorem doOp_put {j : Nat} {oi oj : Oper} {v : Value} (hj : ops[j]? = some oj) (hap : oi.apart ops oj = true)
 (hsi : ∀ cs b, oi.op ≠ .select cs b) (hsj : ∀ cs b, oj.op ≠ .select cs b) {K : Act → Prop} {a : Act}
 (hy : Does P ops S oi v a) (h : doOp P ops S j K (a.put oi.dst v)) :
 doOp P ops S j (fun b => Does P ops S oi v b ∧ K (b.put oi.dst v)) a := qF
def wpHead (P : Program) (md : Region.Mode) (ops : Array Oper) (S : World → Prop) (n : Nat) (L : Array Bool → Act → Prop) : Nat → Array Bool → Act → Prop
 | 0, listed, a => L listed a
 | f + 1, listed, a => Region.ready md ops listed ≠ [] ∧ ∀ i ∈ Region.ready md ops listed, i < n ∧ doOp P ops S i (wpHead P md ops S n L f (listed.setIfInBounds i true)) a
theorem any_of_head {n g : Nat} {L : Array Bool → Act → Prop} {Q : Exit → Act → World → Prop} (hL : ∀ listed a, L listed a → ∀ w, S w → wpAny P md ops Q g listed a w) :
 ∀ (f : Nat) (listed : Array Bool) (a : Act), wpHead P md ops S n L f listed a → ∀ w, S w → wpAny P md ops Q (f + g) listed a w
 | 0, listed, a, h, w, hS => by rw [Nat.zero_add]; exact hL _ _ h w hS
 | f + 1, listed, a, h, w, hS => by
   rw [show f + 1 + g = (f + g) + 1 by omega]
   refine ⟨fun h0 => absurd h0 h.1, fun i hi => ?_⟩
   obtain ⟨_, o, v, ho, hd, hk⟩ := h.2 i hi
   exact hd.op ho hS fun w2 hS2 => any_of_head hL f _ _ hk w2 hS2
theorem head_first {n i : Nat} {oi : Oper} {v : Value} {L : Array Bool → Act → Prop} (hi : ops[i]? = some oi) (hsel : ∀ (j : Nat) (o : Oper) cs b, ops[j]? = some o → o.op ≠ .select cs b)
 (hs : Region.sinkB md ops n = true) (hc : Region.chainB md ops n = true) (hn : n < ops.size) (hin : i < n)
 (hdone : ∀ listed a, L listed a → ∀ j ∈ Region.ready md ops listed, n ≤ j) :
 ∀ (f : Nat) (listed : Array Bool) (a : Act), HeadInv md ops n listed →
  (∀ j oj, ops[j]? = some oj → j ≠ i → listed.getD j true = false → (∀ e ∈ oj.after, Region.binds md e = true → e.on ≠ i) → oi.apart ops oj = true) →
  i ∈ Region.ready md ops listed → Does P ops S oi v a →
  wpHead P md ops S n L f (listed.setIfInBounds i true) (a.put oi.dst v) → wpHead P md ops S n L (f + 1) listed a := by
 intro f
 induction f with
 | zero =>
   intro listed a inv _ hr hy H
   have hun := (mem_ready.1 hr).1
   refine ⟨fun h => (by rw [h] at hr; cases hr), fun j hj => ?_⟩
   have hjn : j < n := qZ
   refine ⟨hjn, ?_⟩
   by_cases hji : j = i
   ·subst hji; exact ⟨oi, v, hi, hy, H⟩
   ·have := hdone _ _ H j (ready_mono hj hji)
    omega
 | succ f ih =>
   intro listed a inv hfree hr hy H
   have hun := (mem_ready.1 hr).1
   refine ⟨fun h => (by rw [h] at hr; cases hr), fun j hj => ?_⟩
   have hjn : j < n := qZ
   refine ⟨hjn, ?_⟩
   by_cases hji : j = i
   ·subst hji; exact ⟨oi, v, hi, hy, H⟩
   ·have h1 := (H.2 j (ready_mono hj hji)).2
    obtain ⟨hjun, oj, hoj, hall⟩ := mem_ready.1 hj
    have hnot : ∀ e ∈ oj.after, Region.binds md e = true → e.on ≠ i := fun e he hb heq => k0
    have h2 := doOp_put hoj (hfree j oj hoj hji hjun hnot) (fun cs b => hsel i oi cs b hi) (fun cs b => hsel j oj cs b hoj) hy h1
    have hfree' : ∀ k ok, ops[k]? = some ok → k ≠ i → (listed.setIfInBounds j true).getD k true = false →
     (∀ e ∈ ok.after, Region.binds md e = true → e.on ≠ i) → oi.apart ops ok = true := fun k ok hk hki hun hno => gP
    refine doOp_mono (fun b h3 => ih (listed.setIfInBounds j true) b (inv.set hj hjn) hfree' (ready_mono hr (Ne.symm hji)) h3.1 ?_) h2
    exact jY
def wpD (P : Program) (ops : Array Oper) (S : World → Prop) (L : Act → Prop) : List Oper → Act → Prop
 | [], a => L a
 | o :: rest, a => ∃ v, Does P ops S o v a ∧ wpD P ops S L rest (a.put o.dst v)
theorem head_lex {n g : Nat} {Lq : Act → Prop} (hsel : Region.noSelect ops = true) (hs : Region.sinkB md ops n = true) (hc : Region.chainB md ops n = true) (hn : n < ops.size) :
 ∀ (l : List Oper) (k : Nat) (listed : Array Bool) (a : Act), (∀ j, j < l.length → l[j]? = ops[k + j]?) → k + l.length = n → HeadInv md ops n listed →
 Region.lexHead md ops g l.length k listed = true → wpD P ops S Lq l a →
 wpHead P md ops S n (fun listed' a' => Region.seqB md ops g n listed' = true ∧ Lq a') l.length listed a
 | [], k, listed, a, _, hk, _, hB, h => by
   have : k = n := by simpa using hk
   subst this
   exact ⟨by simpa [Region.lexHead] using hB, h⟩
 | o :: l, k, listed, a, hl, hk, inv, hB, h => by
   have h0 : ops[k]? = some o := by simpa using (hl 0 (by simp)).symm
   simp only [List.length_cons, Region.lexHead, Bool.and_eq_true] at hB
   obtain ⟨⟨hr, hf⟩, hB'⟩ := hB
   have hkn : k < n := by simp only [List.length_cons] at hk; omega
   have hr' : k ∈ Region.ready md ops listed := by simpa using hr
   obtain ⟨v, hy, hK⟩ := h
   exact head_first h0 (Region.noSelect_spec hsel) hs hc hn hkn (fun listed' a' hL => seqB_ready hL.1) l.length listed a inv (Region.free_spec h0 hf) hr' hy
    (head_lex hsel hs hc hn l (k + 1) _ _ (fun j hj => by have := hl (j + 1) (by simp; omega); simpa [Nat.add_assoc, Nat.add_comm 1 j] using this) (by simp only [List.length_cons] at hk; omega) (inv.set hr' hkn) hB' hK)
theorem mN {id : Nat} {Q : Exit → Act → World → Prop} {a : Act} {w : World} {l : List Oper} (S : World → Prop) (n : Nat) (hm : P.follows .mixedOrders = true) (hB : Region.lexTailB .any l.toArray n = true)
 (hS : S w.drew)
 (h : wpD P l.toArray S (fun a' => ∀ w', S w' → wpList P l.toArray Q (l.drop n) a' w') (l.take n) a) : (Code.region id l.toArray true).wp P Q a w := by
 simp only [Region.lexTailB, Bool.and_eq_true, decide_eq_true_eq] at hB
 obtain ⟨⟨⟨⟨hsel, hn⟩, hs⟩, hc⟩, hlex⟩ := hB
 have hn' : n < l.length := by simpa using hn
 have htl : (l.take n).length = n := by simp; omega
 have hdl : (l.drop n).length = l.toArray.size - n := by simp
 have inv0 : HeadInv .any l.toArray n (Array.replicate l.toArray.size false) :=
  ⟨by simp, fun j oj _ hl => (by rw [getD_replicate_false] at hl; cases hl), fun t _ ht => getD_in (by simpa using ht) (getD_replicate_false _ _)⟩
 have H := head_lex (md := .any) (g := l.toArray.size - n) hsel hs hc hn (l.take n) 0 _ a (fun j hj => by
  have hj' : j < n := by rw [htl] at hj; exact hj
  simp [hj']) (by simpa using htl) inv0 (by rw [htl]; exact hlex) h
 refine wp_region_any hm ?_
 have := any_of_head (Q := Q) (g := l.toArray.size - n) (fun listed a' hL w' hS' => by
  have := wpAny_of_seq (md := .any) (Q' := Q) (l.drop n) n listed a' w' (fun j => by simp [List.getElem?_drop]) (by rw [hdl]; exact hL.1) (hL.2 w' hS')
  rwa [hdl] at this) _ _ _ H w.drew hS
 rw [htl, show n + (l.toArray.size - n) = l.toArray.size by omega] at this
 exact this
theorem mH {L : Act → Prop} {a : Act} (h : L a) : wpD P ops S L [] a := h
theorem wpD_pure {L : Act → Prop} {o : Oper} {rest : List Oper} {v : Value} {a : Act} (hg : o.guard = none) (h : ∀ w, (execOp a.eval o).run P w = .ok (.value v) w)
 (hr : wpD P ops S L rest (a.put o.dst v)) : wpD P ops S L (o :: rest) a :=
 ⟨v, .inl ⟨by unfold Region.wanted; rw [hg], fun w hS => ⟨w, .inl ⟨h w, hS⟩⟩⟩, hr⟩
theorem wpD_here {L : Act → Prop} {o : Oper} {rest : List Oper} {v : Value} {a : Act} (hg : o.guard = none) (h : ∀ w, S w → (execOp a.eval o).run P w = .ok (.value v) w)
 (hr : wpD P ops S L rest (a.put o.dst v)) : wpD P ops S L (o :: rest) a :=
 ⟨v, .inl ⟨by unfold Region.wanted; rw [hg], fun w hS => ⟨w, .inl ⟨h w hS, hS⟩⟩⟩, hr⟩
theorem wpD_call {L : Act → Prop} {o : Oper} {rest : List Oper} {v : Value} {a : Act} (hg : o.guard = none) (f : FuncId) (args : Array Value)
 (h : ∀ w, (execOp a.eval o).run P w = .ok (.enter f args) w) (hc : ∀ w, S w → Calls P f args w (fun e w2 => e = .returned v ∧ S w2))
 (hr : wpD P ops S L rest (a.put o.dst v)) : wpD P ops S L (o :: rest) a :=
 ⟨v, .inl ⟨by unfold Region.wanted; rw [hg], fun w hS => ⟨w, .inr (.inr ⟨f, args, h w, hc w hS⟩)⟩⟩, hr⟩
end
end Pl
namespace Pl
open Go Go.RowKit Pl
theorem z8 {P : Program} {ops : Array Oper} {S : World → Prop} {L : Act → Prop} {o : Oper} {rest : List Oper} {v : Value} {a a1 : Act} (hr : wpD P ops S L rest a1) (hg : o.guard = none := by rfl) (h : ∀ w, (execOp a.eval o).run P w = .ok (.value v) w := by intro u; go_simp; first | done | with_reducible rfl) (ha : a.put o.dst v = a1 := by simp only [Act.put, z5, z6, z7]; rfl) : wpD P ops S L (o :: rest) a := by
 subst ha
 exact wpD_pure hg h hr
theorem zZ {P : Program} {ops : Array Oper} {S : World → Prop} {L : Act → Prop} {o : Oper} {rest : List Oper} {a a1 : Act} {args : Array Value} {v' : Value} (v : Value) (f : FuncId) (hg : o.guard = none := by rfl) (h : ∀ w, (execOp a.eval o).run P w = .ok (.enter f args) w := by intro u; go_simp; first | done | with_reducible rfl) (c : ∀ w, S w → Calls P f args w fun e w2 => e = .returned v' ∧ Below w.heap.size w w2) (r : wpD P ops S L rest a1) (hv : v' = v := by rfl) (hs : ∀ u u2, S u → Below u.heap.size u u2 → S u2 := by intro u u2 hS hb; first | exact hS.below hb | exact hS.trans (hb.mono hS.size)) (ha : a.put o.dst v = a1 := by simp only [Act.put, z5, z6, z7]; rfl) : wpD P ops S L (o :: rest) a := by
 subst ha hv
 exact wpD_call hg f args h (fun w hS => (c w hS).mono fun e w2 hh => ⟨hh.1, hs w w2 hS hh.2⟩) r
theorem zQ {P : Program} {ops : Array Oper} {S : World → Prop} {L : Act → Prop} {o : Oper} {rest : List Oper} {v : Value} {a a1 : Act} (hg : o.guard = none) (h : ∀ w, S w → (execOp a.eval o).run P w = .ok (.value v) w) (hr : wpD P ops S L rest a1) (ha : a.put o.dst v = a1 := by simp only [Act.put, z5, z6, z7]; rfl) : wpD P ops S L (o :: rest) a := by
 subst ha
 exact wpD_here hg h hr
end Pl
end
