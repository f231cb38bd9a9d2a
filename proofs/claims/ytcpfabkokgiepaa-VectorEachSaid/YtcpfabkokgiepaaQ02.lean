/-
  Texts Cells, DoG, DoA.
-/
import Derived.Test.YtcpfabkokgiepaaQ01
set_option linter.unusedSimpArgs false
set_option linter.unusedVariables false
set_option maxHeartbeats 8000000
open Pl
section
namespace Pl
open Go
def sP (v : Vec) (j : Nat) : Value := .int .u8 (tW v (8 * j) 8 : Nat)
def mY (v : Vec) : Array Value := ((List.range 16).map (sP v)).toArray
@[simp] theorem size_cells (v : Vec) : (mY v).size = 16 := by simp [mY]
theorem getElem?_cells (v : Vec) (j : Nat) (h : j < 16) : (mY v)[j]? = some (sP v j) := by simp [mY, h]
theorem all_cells (v : Vec) : (mY v).all (·.oneCell') = true := by
 simp [mY, sP, Value.oneCell']
theorem set_cells (v : Vec) (j n : Nat) (h : j < 16) : (mY v).setIfInBounds j (.int .u8 ((n % 256 : Nat) : Int)) = mY (pN v (8 * j) 8 n) := by
 apply Array.ext_getElem?
 intro k
 by_cases hk : k < 16
 ·rw [getElem?_cells _ _ hk, Array.getElem?_setIfInBounds]
  by_cases e : j = k
  ·subst e
   rw [if_pos rfl, if_pos (by simpa using h)]
   unfold sP
   rw [eL _ _ _ _ (by omega)]
  ·rw [if_neg e, getElem?_cells _ _ hk]
   unfold sP
   rw [eZ _ _ _ _ _ _ (by omega) (by omega)]
 ·rw [Array.getElem?_eq_none (by simp; omega), Array.getElem?_eq_none (by simp; omega)]
theorem cells_inj {u v : Vec} (h : mY u = mY v) : u = v := by
 refine rL 8 16 (by decide) (by decide) fun i hi => ?_
 have := congrArg (fun a => a[i]?) h
 simp only [getElem?_cells _ _ hi, sP, Option.some.injEq, Value.int.injEq, true_and] at this
 exact_mod_cast this
theorem mU : mY 0 = #[.int .u8 0, .int .u8 0, .int .u8 0, .int .u8 0, .int .u8 0, .int .u8 0, .int .u8 0, .int .u8 0, .int .u8 0, .int .u8 0, .int .u8 0, .int .u8 0, .int .u8 0, .int .u8 0, .int .u8 0, .int .u8 0] := by
 simp [mY, sP, tW, List.range, List.range.loop]
theorem or_step (v : Vec) (s k : Nat) (hk : k < 8) : bits BinOp.or IntKind.u64 (↑(tW v (8 * s) (8 * k)))
 (IntKind.u64.wrap (IntKind.u64.wrap ↑(tW v (8 * (s + k)) 8) * 2 ^ (8 * k))) = ((tW v (8 * s) (8 * (k + 1)) : Nat) : Int) := by
 have h1 := r9 v (8 * (s + k)) 8
 have h2 := r9 v (8 * s) (8 * k)
 have hp : (2 : Nat) ^ (8 * k) * 256 ≤ 18446744073709551616 := by
  have := Nat.pow_le_pow_right (show 0 < 2 by decide) (show 8 * k + 8 ≤ 64 by omega)
  rw [Nat.pow_add] at this
  simpa using this
 have h3 : tW v (8 * (s + k)) 8 * 2 ^ (8 * k) < 18446744073709551616 := by
  have := Nat.mul_le_mul_right (2 ^ (8 * k)) (show tW v (8 * (s + k)) 8 ≤ 255 by omega)
  have h0 : 0 < 2 ^ (8 * k) := Nat.two_pow_pos _
  omega
 have e1 : IntKind.u64.wrap ((tW v (8 * (s + k)) 8 : Nat) : Int) = ((tW v (8 * (s + k)) 8 : Nat) : Int) := IntWalk.u64_in _ (by omega)
 have e2 : ((tW v (8 * (s + k)) 8 : Nat) : Int) * 2 ^ (8 * k) = ((tW v (8 * (s + k)) 8 * 2 ^ (8 * k) : Nat) : Int) := by simp
 rw [e1, e2, IntWalk.u64_in _ (by omega), u64_or_nat _ _ (by have : 0 < 2 ^ (8 * k) := Nat.two_pow_pos _; omega) h3]
 congr 1
 apply Nat.eq_of_testBit_eq
 intro j
 rw [← Nat.shiftLeft_eq, Nat.testBit_or, Nat.testBit_shiftLeft, mA, mA, mA]
 by_cases hj : 8 * k ≤ j
 ·have e : 8 * (s + k) + (j - 8 * k) = 8 * s + j := by omega
  rw [e]
  by_cases hj2 : j < 8 * (k + 1)
  ·simp [hj, hj2, show j - 8 * k < 8 by omega]
  ·simp [hj2, show ¬ j - 8 * k < 8 by omega, show ¬ j < 8 * k by omega]
 ·simp [hj, show j < 8 * (k + 1) by omega, show j < 8 * k by omega]
def sE (w : Int) : Int := if w = 8 then 16 else if w = 16 then 8 else if w = 32 then 4 else if w = 64 then 2 else 0
open Go.RowKit
theorem sgn_8 (n : Nat) (h : n < 2 ^ 8) : wrap64 (wrap64 ↑n * 72057594037927936) / 72057594037927936 = sgn 8 n := by unfold wrap64 sgn; simp at h; simp; split <;> omega
theorem sgn_16 (n : Nat) (h : n < 2 ^ 16) : wrap64 (wrap64 ↑n * 281474976710656) / 281474976710656 = sgn 16 n := by unfold wrap64 sgn; simp at h; simp; split <;> omega
theorem sgn_32 (n : Nat) (h : n < 2 ^ 32) : wrap64 (wrap64 ↑n * 4294967296) / 4294967296 = sgn 32 n := by unfold wrap64 sgn; simp at h; simp; split <;> omega
theorem sgn_64 (n : Nat) (h : n < 2 ^ 64) : wrap64 (wrap64 ↑n) = sgn 64 n := by unfold wrap64 sgn; simp at h; simp; split <;> omega
theorem get_step (X c : Nat) (hc : c < 2 ^ 8) (h : X * 256 + 256 ≤ 18446744073709551616) :
 Value.int IntKind.u64 (IntKind.u64.wrap (IntKind.u64.wrap ((X : Int) * 256) + IntKind.u64.wrap (c : Int))) = .int .u64 ((X * 256 + c : Nat) : Int) := by
 rw [IntWalk.u64_in ((X : Int) * 256) (by omega), IntWalk.u64_in (c : Int) (by omega), IntWalk.u64_in _ (by omega)]
 simp
theorem u64_div (X d : Nat) (h : X < 2 ^ 64) : IntKind.u64.wrap ((X : Int) / (d : Int)) = ((X / d : Nat) : Int) := by
 have h1 : X / d < 2 ^ 64 := Nat.lt_of_le_of_lt (Nat.div_le_self X d) h
 have e : (X : Int) / (d : Int) = ((X / d : Nat) : Int) := by simp
 rw [e]
 generalize X / d = q at *
 exact IntWalk.u64_in _ (by omega)
theorem dU (X : Nat) (h : X < 2 ^ 64) : IntKind.u64.wrap ((X : Int) / 256) = ((X / 256 : Nat) : Int) := u64_div X 256 h
def u64 (z : Int) : Nat := (z % 18446744073709551616).toNat
theorem wrap_u64 (z : Int) : IntKind.u64.wrap z = (u64 z : Int) := by rw [IntKind.wrap_u64]; unfold u64; omega
theorem tR (z : Int) : u64 z < 2 ^ 64 := by unfold u64; omega
theorem u64_nat (n : Nat) (h : n < 2 ^ 64) : u64 (n : Int) = n := by unfold u64; omega
theorem pB (w : World) (A B C : Obj) : (((w.alloc A).alloc B).alloc C).heap[w.heap.size]? = some A := by
 rw [heap_alloc_old _ _ (by simp; omega), heap_alloc2_old]
theorem pC (w : World) (A B C : Obj) : (((w.alloc A).alloc B).alloc C).heap[w.heap.size + 1]? = some B := by
 rw [heap_alloc_old _ _ (by simp), heap_alloc2_new]
theorem pK (w : World) (A B C : Obj) : (((w.alloc A).alloc B).alloc C).heap[w.heap.size + 2]? = some C := by
 have := heap_alloc_new ((w.alloc A).alloc B) C
 simpa using this
theorem rU (w : World) (A B C D : Obj) : ((((w.alloc A).alloc B).alloc C).alloc D).heap[w.heap.size]? = some A := by
 rw [heap_alloc_old _ _ (by simp; omega), pB]
theorem rV (w : World) (A B C D : Obj) : ((((w.alloc A).alloc B).alloc C).alloc D).heap[w.heap.size + 1]? = some B := by
 rw [heap_alloc_old _ _ (by simp), pC]
theorem rG (w : World) (A B C D : Obj) : ((((w.alloc A).alloc B).alloc C).alloc D).heap[w.heap.size + 2]? = some C := by
 rw [heap_alloc_old _ _ (by simp), pK]
theorem rK (w : World) (A B C D : Obj) : ((((w.alloc A).alloc B).alloc C).alloc D).heap[w.heap.size + 3]? = some D := by
 have := heap_alloc_new (((w.alloc A).alloc B).alloc C) D
 simpa using this
theorem pL (w : World) (A B C : Obj) : Below w.heap.size w (((w.alloc A).alloc B).alloc C) := (((Below.refl _ _).alloc (Nat.le_refl _) _).alloc (by simp) _).alloc (by simp; omega) _
theorem vY (w : World) (A B C D : Obj) : Below w.heap.size w ((((w.alloc A).alloc B).alloc C).alloc D) := (pL w A B C).alloc (by simp; omega) _
end Pl
namespace Go.Proofs.Ytcpfabkokgiepaa
open Go.RowKit Pl
theorem zF (w : World) (v : Vec) : ∃ W, W = ((w.alloc (.cells (mY v) 45)).alloc (.cells (mY 0) 45)) ∧ W.heap[w.heap.size]? = some (.cells (mY v) 45 (0, 0)) ∧ W.heap[w.heap.size + 1]? = some (.cells (mY 0) 45 (0, 0)) ∧ Below w.heap.size w W :=
 ⟨_, rfl, heap_alloc2_old _ _ _, heap_alloc2_new _ _ _, ((Below.refl _ _).alloc (Nat.le_refl _) _).alloc (by simp) _⟩
theorem zE (w : World) (v : Vec) : ∃ W, W = (w.alloc (.cells (mY v) 45)).alloc (.cells #[.int .u64 0, .int .u64 0] 47) ∧ W.heap[w.heap.size]? = some (.cells (mY v) 45 (0, 0)) ∧ W.heap[w.heap.size + 1]? = some (.cells #[.int .u64 0, .int .u64 0] 47 (0, 0)) ∧ Below w.heap.size w W :=
 ⟨_, rfl, heap_alloc2_old _ _ _, heap_alloc2_new _ _ _, ((Below.refl _ _).alloc (Nat.le_refl _) _).alloc (by simp) _⟩
theorem zD (w : World) (a b : Vec) : ∃ W, W = (((((w.alloc (.cells (mY a) 45)).alloc (.cells (mY b) 45)).alloc (.cells (mY 0) 45)).alloc (.cells (mY 0) 45))) ∧ W.heap[w.heap.size]? = some (.cells (mY a) 45 (0, 0)) ∧ W.heap[w.heap.size + 1]? = some (.cells (mY b) 45 (0, 0)) ∧ W.heap[w.heap.size + 2]? = some (.cells (mY 0) 45 (0, 0)) ∧ W.heap[w.heap.size + 3]? = some (.cells (mY 0) 45 (0, 0)) ∧ Below w.heap.size w W :=
 ⟨_, rfl, rU _ _ _ _ _, rV _ _ _ _ _, rG _ _ _ _ _, rK _ _ _ _ _, vY _ _ _ _ _⟩
theorem zC (w : World) (v : Vec) : ∃ W, W = (w.alloc (.cells (mY v) 45)).alloc (.cells (mY 0) 45) ∧ W.heap[w.heap.size]? = some (.cells (mY v) 45 (0, 0)) ∧ W.heap[w.heap.size + 1]? = some (.cells (mY 0) 45 (0, 0)) ∧ Below w.heap.size w W :=
 ⟨_, rfl, heap_alloc2_old _ _ _, heap_alloc2_new _ _ _, ((Below.refl _ _).alloc (Nat.le_refl _) _).alloc (by simp) _⟩
theorem zB (w : World) (a b : Vec) : ∃ W, W = (((((w.alloc (.cells (mY a) 45)).alloc (.cells (mY b) 45)).alloc (.cells (mY 0) 45)).alloc (.cells (mY 0) 45)).drew) ∧ W.heap[w.heap.size]? = some (.cells (mY a) 45 (0, 0)) ∧ W.heap[w.heap.size + 1]? = some (.cells (mY b) 45 (0, 0)) ∧ W.heap[w.heap.size + 2]? = some (.cells (mY 0) 45 (0, 0)) ∧ W.heap[w.heap.size + 3]? = some (.cells (mY 0) 45 (0, 0)) :=
 ⟨_, rfl, rU _ _ _ _ _, rV _ _ _ _ _, rG _ _ _ _ _, rK _ _ _ _ _⟩
theorem zA (w : World) (v : Vec) : ∃ W, W = ((w.alloc (.cells (mY v) 45)).alloc (.cells (mY 0) 45)).alloc (.cells (mY 0) 45) ∧ W.heap[w.heap.size]? = some (.cells (mY v) 45 (0, 0)) ∧ W.heap[w.heap.size + 1]? = some (.cells (mY 0) 45 (0, 0)) ∧ W.heap[w.heap.size + 2]? = some (.cells (mY 0) 45 (0, 0)) ∧ Below w.heap.size w W :=
 ⟨_, rfl, pB _ _ _ _, pC _ _ _ _, pK _ _ _ _, pL _ _ _ _⟩
theorem x9 (w : World) : ∃ W, W = (w.alloc (.cells (mY 0) 45)).alloc (.cells (mY 0) 45) ∧ W.heap[w.heap.size]? = some (.cells (mY 0) 45 (0, 0)) ∧ W.heap[w.heap.size + 1]? = some (.cells (mY 0) 45 (0, 0)) ∧ Below w.heap.size w W :=
 ⟨_, rfl, heap_alloc2_old _ _ _, heap_alloc2_new _ _ _, ((Below.refl _ _).alloc (Nat.le_refl _) _).alloc (by simp) _⟩
theorem xQ (w : World) (a b : Vec) : ∃ W, W = ((((w.alloc (.cells (mY a) 45)).alloc (.cells (mY b) 45)).alloc (.cells (mY 0) 45)).alloc (.cells (mY 0) 45)) ∧ W.heap[w.heap.size]? = some (.cells (mY a) 45 (0, 0)) ∧ W.heap[w.heap.size + 2]? = some (.cells (mY 0) 45 (0, 0)) ∧ W.heap[w.heap.size + 3]? = some (.cells (mY 0) 45 (0, 0)) ∧ Below w.heap.size w W :=
 ⟨_, rfl, rU _ _ _ _ _, rG _ _ _ _ _, rK _ _ _ _ _, vY _ _ _ _ _⟩
theorem xZ (w : World) (a b : Vec) : ∃ W, W = (((((w.alloc (.cells (mY a) 45)).alloc (.cells (mY b) 45)).alloc (.cells (mY 0) 45)).alloc (.cells (mY 0) 45)).drew.drew) ∧ W.heap[w.heap.size]? = some (.cells (mY a) 45 (0, 0)) ∧ W.heap[w.heap.size + 1]? = some (.cells (mY b) 45 (0, 0)) ∧ W.heap[w.heap.size + 2]? = some (.cells (mY 0) 45 (0, 0)) ∧ W.heap[w.heap.size + 3]? = some (.cells (mY 0) 45 (0, 0)) :=
 ⟨_, rfl, rU _ _ _ _ _, rV _ _ _ _ _, rG _ _ _ _ _, rK _ _ _ _ _⟩
end Go.Proofs.Ytcpfabkokgiepaa
end
section
namespace Pl
open Go Go.RowKit
section
variable {P : Program} {ops : Array Oper} {md : Region.Mode} {S : World → Prop}
theorem fZ {L : Act → Prop} {o : Oper} {rest : List Oper} {a : Act} (hg : Region.wanted o (yielded ops a.tmps) = false)
 (hr : wpD P ops S L rest (a.put o.dst undef)) : wpD P ops S L (o :: rest) a :=
 ⟨undef, .inr ⟨hg, rfl⟩, hr⟩
theorem wpD_pureg {L : Act → Prop} {o : Oper} {rest : List Oper} {v : Value} {a : Act} (hg : Region.wanted o (yielded ops a.tmps) = true) (h : ∀ w, (execOp a.eval o).run P w = .ok (.value v) w)
 (hr : wpD P ops S L rest (a.put o.dst v)) : wpD P ops S L (o :: rest) a :=
 ⟨v, .inl ⟨hg, fun w hS => ⟨w, .inl ⟨h w, hS⟩⟩⟩, hr⟩
end
end Pl
namespace Pl
open Go Go.RowKit Pl
theorem z9 {P : Program} {ops : Array Oper} {S : World → Prop} {L : Act → Prop} {o : Oper} {rest : List Oper} {v : Value} {a a1 : Act} (hr : wpD P ops S L rest a1) (hg : Region.wanted o (yielded ops a.tmps) = true := by rfl) (h : ∀ w, (execOp a.eval o).run P w = .ok (.value v) w := by intro u; go_simp; first | done | with_reducible rfl) (ha : a.put o.dst v = a1 := by simp only [Act.put, z5, z6, z7]; rfl) : wpD P ops S L (o :: rest) a := by
 subst ha
 exact wpD_pureg hg h hr
end Pl
end
section
namespace Pl
open Go
section
variable {σ : Type} {P : Program} {ops : Array Oper} {md : Region.Mode} {S : σ → World → Prop} {step : Nat → σ → σ → Prop} {val : Nat → σ → Value}
def ptr (x : Nat) : Value := .pointer (some ⟨x, 0, none⟩)
def dK (P : Program) (ops : Array Oper) (S : σ → World → Prop) (o : Oper) (v : Value) (a : Act) : Prop := ∀ D, Does P ops (S D) o v a
theorem dK.same {o : Oper} {v : Value} {a b : Act} (h : dK P ops S o v a) (he : execOp b.eval o = execOp a.eval o)
 (hw : Region.wanted o (yielded ops b.tmps) = Region.wanted o (yielded ops a.tmps)) : dK P ops S o v b := fun D => (h D).same he hw
def doOpA (P : Program) (ops : Array Oper) (S : σ → World → Prop) (i : Nat) (K : Act → Prop) (a : Act) : Prop := ∃ o v, ops[i]? = some o ∧ dK P ops S o v a ∧ K (a.put o.dst v)
def NewA (P : Program) (ops : Array Oper) (S : σ → World → Prop) (step : Nat → σ → σ → Prop) (val : Nat → σ → Value) (i : Nat) (D : σ) (o : Oper) (a : Act) : Prop :=
 Region.wanted o (yielded ops a.tmps) = true ∧ ∀ w, S D w → ∃ D' w1, step i D D' ∧ S D' w1 ∧
  ((execOp a.eval o).run P w = .ok (.value (val i D')) w1 ∨ ((execOp a.eval o).run P w = .ok .skip w1 ∧ val i D' = undef))
theorem NewA.same {i : Nat} {D : σ} {o : Oper} {a b : Act} (h : NewA P ops S step val i D o a) (he : execOp b.eval o = execOp a.eval o)
 (hw : Region.wanted o (yielded ops b.tmps) = Region.wanted o (yielded ops a.tmps)) : NewA P ops S step val i D o b := by
 unfold NewA at *
 rw [he, hw]
 exact h
def newOp (P : Program) (ops : Array Oper) (S : σ → World → Prop) (step : Nat → σ → σ → Prop) (val : Nat → σ → Value) (i : Nat) (D : σ) (K : σ → Act → Prop) (a : Act) : Prop :=
 ∃ o, ops[i]? = some o ∧ NewA P ops S step val i D o a ∧ ∀ D', step i D D' → K D' (a.put o.dst (val i D'))
theorem doOpA_mono {i : Nat} {a : Act} {K K' : Act → Prop} (h : ∀ a, K a → K' a) (hh : doOpA P ops S i K a) : doOpA P ops S i K' a := by
 obtain ⟨o, v, h1, h2, h3⟩ := hh
 exact ⟨o, v, h1, h2, h _ h3⟩
theorem newOp_mono {i : Nat} {D : σ} {a : Act} {K K' : σ → Act → Prop} (h : ∀ x a, K x a → K' x a) (hh : newOp P ops S step val i D K a) : newOp P ops S step val i D K' a := wZ
theorem doOpA_put {j : Nat} {oi oj : Oper} {v : Value} (hj : ops[j]? = some oj) (hap : oi.apart ops oj = true)
 (hsi : ∀ cs b, oi.op ≠ .select cs b) (hsj : ∀ cs b, oj.op ≠ .select cs b) {K : Act → Prop} {a : Act}
 (hy : dK P ops S oi v a) (h : doOpA P ops S j K (a.put oi.dst v)) :
 doOpA P ops S j (fun b => dK P ops S oi v b ∧ K (b.put oi.dst v)) a := qF
theorem newOp_put {j : Nat} {D : σ} {oi oj : Oper} {v : Value} (hj : ops[j]? = some oj) (hap : oi.apart ops oj = true)
 (hsi : ∀ cs b, oi.op ≠ .select cs b) (hsj : ∀ cs b, oj.op ≠ .select cs b) {K : σ → Act → Prop} {a : Act}
 (hy : dK P ops S oi v a) (h : newOp P ops S step val j D K (a.put oi.dst v)) :
 newOp P ops S step val j D (fun x b => dK P ops S oi v b ∧ K x (b.put oi.dst v)) a := qN
def uJ (P : Program) (md : Region.Mode) (ops : Array Oper) (S : σ → World → Prop) (step : Nat → σ → σ → Prop) (val : Nat → σ → Value) (ps : List Nat) (n : Nat) (L : σ → Array Bool → Act → Prop) : Nat → σ → Array Bool → Act → Prop
 | 0, D, listed, a => L D listed a
 | f + 1, D, listed, a => Region.ready md ops listed ≠ [] ∧ ∀ i ∈ Region.ready md ops listed, i < n ∧
  ((i ∈ ps ∧ newOp P ops S step val i D (fun D' => uJ P md ops S step val ps n L f D' (listed.setIfInBounds i true)) a) ∨
   (i ∉ ps ∧ doOpA P ops S i (uJ P md ops S step val ps n L f D (listed.setIfInBounds i true)) a))
theorem fP {ps : List Nat} {n g : Nat} {L : σ → Array Bool → Act → Prop} {Q : Exit → Act → World → Prop}
 (hL : ∀ D listed a, L D listed a → ∀ w, S D w → wpAny P md ops Q g listed a w) :
 ∀ (f : Nat) (D : σ) (listed : Array Bool) (a : Act), uJ P md ops S step val ps n L f D listed a → ∀ w, S D w → wpAny P md ops Q (f + g) listed a w
 | 0, D, listed, a, h, w, hw => by rw [Nat.zero_add]; exact hL _ _ _ h w hw
 | f + 1, D, listed, a, h, w, hw => by
   rw [show f + 1 + g = (f + g) + 1 by omega]
   refine ⟨fun h0 => absurd h0 h.1, fun i hi => ?_⟩
   obtain ⟨_, ⟨hip, o, ho, hN, hk⟩ | ⟨hip, o, v, ho, hd, hk⟩⟩ := h.2 i hi
   ·obtain ⟨hw1, hr⟩ := hN
    obtain ⟨D', w1, hst, hS1, hrun⟩ := hr w hw
    unfold wpOp
    simp only [ho]
    rw [if_pos hw1]
    refine .inl ?_
    unfold Oper.wp
    rcases hrun with hrun | ⟨hrun, hv⟩
    ·rw [hrun]
     exact fP hL f _ _ _ (hk D' hst) _ hS1
    ·rw [hrun]
     have := fP hL f _ _ _ (hk D' hst) _ hS1
     rw [hv] at this
     exact this
   ·exact (hd D).op ho hw fun w2 hS2 => fP hL f _ _ _ hk w2 hS2
theorem head_firstA {ps : List Nat} {n i : Nat} {oi : Oper} {v : Value} {L : σ → Array Bool → Act → Prop} (hi : ops[i]? = some oi) (hip : i ∉ ps) (hsel : ∀ (j : Nat) (o : Oper) cs b, ops[j]? = some o → o.op ≠ .select cs b)
 (hs : Region.sinkB md ops n = true) (hc : Region.chainB md ops n = true) (hn : n < ops.size) (hin : i < n)
 (hdone : ∀ D listed a, L D listed a → ∀ j ∈ Region.ready md ops listed, n ≤ j) :
 ∀ (f : Nat) (D : σ) (listed : Array Bool) (a : Act), HeadInv md ops n listed →
  (∀ j oj, ops[j]? = some oj → j ≠ i → listed.getD j true = false → (∀ e ∈ oj.after, Region.binds md e = true → e.on ≠ i) → oi.apart ops oj = true) →
  i ∈ Region.ready md ops listed → dK P ops S oi v a →
  uJ P md ops S step val ps n L f D (listed.setIfInBounds i true) (a.put oi.dst v) → uJ P md ops S step val ps n L (f + 1) D listed a := by
 intro f
 induction f with
 | zero =>
   intro D listed a inv _ hr hy H
   have hun := (mem_ready.1 hr).1
   refine ⟨fun h => (by rw [h] at hr; cases hr), fun j hj => ?_⟩
   have hjn : j < n := qZ
   refine ⟨hjn, ?_⟩
   by_cases hji : j = i
   ·exact jF
   ·have := hdone _ _ _ H j (ready_mono hj hji)
    omega
 | succ f ih =>
   intro D listed a inv hfree hr hy H
   have hun := (mem_ready.1 hr).1
   refine ⟨fun h => (by rw [h] at hr; cases hr), fun j hj => ?_⟩
   have hjn : j < n := qZ
   refine ⟨hjn, ?_⟩
   by_cases hji : j = i
   ·exact jF
   ·obtain ⟨hjun, oj, hoj, hall⟩ := mem_ready.1 hj
    have hnot : ∀ e ∈ oj.after, Region.binds md e = true → e.on ≠ i := fun e he hb heq => k0
    have hap := hfree j oj hoj hji hjun hnot
    have hfree' : ∀ k ok, ops[k]? = some ok → k ≠ i → (listed.setIfInBounds j true).getD k true = false →
     (∀ e ∈ ok.after, Region.binds md e = true → e.on ≠ i) → oi.apart ops ok = true := fun k ok hk hki hun hno => gP
    rcases (H.2 j (ready_mono hj hji)).2 with ⟨hjp, h1⟩ | ⟨hjp, h1⟩
    ·have h2 := newOp_put hoj hap (fun cs b => hsel i oi cs b hi) (fun cs b => hsel j oj cs b hoj) hy h1
     refine .inl ⟨hjp, newOp_mono (fun x b h3 => ih x (listed.setIfInBounds j true) b (inv.set hj hjn) hfree' (ready_mono hr (Ne.symm hji)) h3.1 ?_) h2⟩
     exact jY
    ·exact g9
def vJ (P : Program) (ops : Array Oper) (S : σ → World → Prop) (L : Act → Prop) : List Oper → Act → Prop
 | [], a => L a
 | o :: rest, a => ∃ v, dK P ops S o v a ∧ vJ P ops S L rest (a.put o.dst v)
def rX (listed : Array Bool) : List Nat → Array Bool
 | [] => listed
 | k :: l => rX (listed.setIfInBounds k true) l
def takes (md : Region.Mode) (ops : Array Oper) (ps : List Nat) (n : Nat) : List Nat → Array Bool → Bool
 | [], _ => true
 | k :: l, listed => (Region.ready md ops listed).contains k && Region.free md ops listed k && decide (k < n) && !ps.contains k && takes md ops ps n l (listed.setIfInBounds k true)
def vW (l : List Oper) : List Nat → List Oper
 | [] => []
 | k :: r => match l[k]? with | some o => o :: vW l r | none => vW l r
theorem head_takes {ps : List Nat} {n f : Nat} {l : List Oper} {L : σ → Array Bool → Act → Prop} {D : σ} (hl : l.toArray = ops) (hsel : Region.noSelect ops = true) (hs : Region.sinkB md ops n = true) (hc : Region.chainB md ops n = true) (hn : n < ops.size)
 (hdone : ∀ D listed a, L D listed a → ∀ j ∈ Region.ready md ops listed, n ≤ j) :
 ∀ (order : List Nat) (listed : Array Bool) (a : Act), HeadInv md ops n listed → takes md ops ps n order listed = true →
  vJ P ops S (fun a' => HeadInv md ops n (rX listed order) → uJ P md ops S step val ps n L f D (rX listed order) a') (vW l order) a → uJ P md ops S step val ps n L (order.length + f) D listed a
 | [], listed, a, inv, _, h => by rw [show ([] : List Nat).length + f = f by simp]; exact h inv
 | k :: order, listed, a, inv, hB, h => by
   simp only [takes, Bool.and_eq_true, decide_eq_true_eq, Bool.not_eq_true'] at hB
   obtain ⟨⟨⟨⟨hr, hf⟩, hk⟩, hp⟩, hB'⟩ := hB
   have hr' : k ∈ Region.ready md ops listed := by simpa using hr
   obtain ⟨_, o, ho, _⟩ := mem_ready.1 hr'
   have hlo : l[k]? = some o := by rw [← hl] at ho; simpa using ho
   simp only [vW, hlo] at h
   obtain ⟨v, hy, hK⟩ := h
   have hpk : k ∉ ps := by simpa using hp
   rw [show (k :: order).length + f = (order.length + f) + 1 by simp only [List.length_cons]; omega]
   exact head_firstA ho hpk (Region.noSelect_spec hsel) hs hc hn hk hdone (order.length + f) D listed a inv (Region.free_spec ho hf) hr' hy
    (head_takes hl hsel hs hc hn hdone order _ _ (inv.set hr' hk) hB' hK)
end
section
variable {P : Program} {md : Region.Mode}
def checkA (ops : Array Oper) (n : Nat) (ps order : List Nat) : Bool :=
 Region.noSelect ops && decide (n < ops.size) && Region.sinkB .any ops n && Region.chainB .any ops n && takes .any ops ps n order (Array.replicate ops.size false) && decide (order.length + ps.length = n)
theorem eR {σ : Type} {id : Nat} {Q : Exit → Act → World → Prop} {a : Act} {w : World} {l : List Oper} (S : σ → World → Prop) (step : Nat → σ → σ → Prop) (val : Nat → σ → Value) (D0 : σ) (n : Nat) (ps order : List Nat) (hm : P.follows .mixedOrders = true) (hB : checkA l.toArray n ps order = true)
 (hS : S D0 w.drew)
 (h : vJ P l.toArray S (fun a' => uJ P .any l.toArray S step val ps n (fun D listed a' => Region.seqB .any l.toArray (l.toArray.size - n) n listed = true ∧ ∀ w', S D w' → wpList P l.toArray Q (l.drop n) a' w') ps.length D0 (rX (Array.replicate l.toArray.size false) order) a') (vW l order) a) : (Code.region id l.toArray true).wp P Q a w := by
 simp only [checkA, Bool.and_eq_true, decide_eq_true_eq] at hB
 obtain ⟨⟨⟨⟨⟨hsel, hn⟩, hs⟩, hc⟩, htk⟩, hlen⟩ := hB
 have hn' : n < l.length := by simpa using hn
 have hdl : (l.drop n).length = l.toArray.size - n := by simp
 have inv0 : HeadInv .any l.toArray n (Array.replicate l.toArray.size false) :=
  ⟨by simp, fun j oj _ hl => (by rw [getD_replicate_false] at hl; cases hl), fun t _ ht => getD_in (by simpa using ht) (getD_replicate_false _ _)⟩
 refine wp_region_any hm ?_
 have mono : ∀ (os : List Oper) (a : Act) (K K' : Act → Prop), (∀ a, K a → K' a) → vJ P l.toArray S K os a → vJ P l.toArray S K' os a := yT
 have H := head_takes (f := ps.length) (step := step) (val := val) rfl hsel hs hc hn (fun D listed a hL => seqB_ready hL.1) order _ a inv0 htk (mono _ _ _ _ (fun a' h' inv => h') h)
 have := fP (Q := Q) (g := l.toArray.size - n) (fun D listed a' hL w' hS' => by
  have := wpAny_of_seq (md := .any) (Q' := Q) (l.drop n) n listed a' w' (fun j => by simp [List.getElem?_drop]) (by rw [hdl]; exact hL.1) (hL.2 w' hS')
  rwa [hdl] at this) _ _ _ _ H w.drew hS
 exact m6
theorem sJ {σ : Type} {P : Program} {md : Region.Mode} {ops : Array Oper} {S : σ → World → Prop} {step : Nat → σ → σ → Prop} {val : Nat → σ → Value} {ps : List Nat} {n f : Nat} {L : σ → Array Bool → Act → Prop} {D : σ} {listed : Array Bool} {a : Act} (i : Nat) {o : Oper}
 (hr : Region.ready md ops listed = [i]) (hi : i < n) (hip : i ∈ ps) (ho : ops[i]? = some o) (hN : NewA P ops S step val i D o a) (hk : ∀ D', step i D D' → uJ P md ops S step val ps n L f D' (listed.setIfInBounds i true) (a.put o.dst (val i D'))) :
 uJ P md ops S step val ps n L (f + 1) D listed a := by
 refine ⟨by rw [hr]; simp, fun j hj => ?_⟩
 rw [hr] at hj
 have : j = i := by simpa using hj
 subst this
 exact ⟨hi, .inl ⟨hip, o, ho, hN, hk⟩⟩
variable {σ : Type} {ops : Array Oper} {S : σ → World → Prop}
theorem pG {L : Act → Prop} {a : Act} (h : L a) : vJ P ops S L [] a := h
theorem wpDA_pure {L : Act → Prop} {o : Oper} {rest : List Oper} {v : Value} {a : Act} (hg : o.guard = none) (h : ∀ w, (execOp a.eval o).run P w = .ok (.value v) w)
 (hr : vJ P ops S L rest (a.put o.dst v)) : vJ P ops S L (o :: rest) a :=
 ⟨v, fun D => .inl ⟨by unfold Region.wanted; rw [hg], fun w hS => ⟨w, .inl ⟨h w, hS⟩⟩⟩, hr⟩
theorem wpDA_here {L : Act → Prop} {o : Oper} {rest : List Oper} {v : Value} {a : Act} (hg : o.guard = none) (h : ∀ D w, S D w → (execOp a.eval o).run P w = .ok (.value v) w)
 (hr : vJ P ops S L rest (a.put o.dst v)) : vJ P ops S L (o :: rest) a :=
 ⟨v, fun D => .inl ⟨by unfold Region.wanted; rw [hg], fun w hS => ⟨w, .inl ⟨h D w hS, hS⟩⟩⟩, hr⟩
theorem wpDA_call {L : Act → Prop} {o : Oper} {rest : List Oper} {v : Value} {a : Act} (hg : o.guard = none) (f : FuncId) (args : Array Value)
 (h : ∀ w, (execOp a.eval o).run P w = .ok (.enter f args) w) (hc : ∀ D w, S D w → Calls P f args w (fun e w2 => e = .returned v ∧ S D w2))
 (hr : vJ P ops S L rest (a.put o.dst v)) : vJ P ops S L (o :: rest) a :=
 ⟨v, fun D => .inl ⟨by unfold Region.wanted; rw [hg], fun w hS => ⟨w, .inr (.inr ⟨f, args, h w, hc D w hS⟩)⟩⟩, hr⟩
end
end Pl
namespace Pl
open Go Go.RowKit Pl
theorem zX {σ : Type} {P : Program} {ops : Array Oper} {S : σ → World → Prop} {L : Act → Prop} {o : Oper} {rest : List Oper} {v : Value} {a a1 : Act} (hr : vJ P ops S L rest a1) (hg : o.guard = none := by rfl) (h : ∀ w, (execOp a.eval o).run P w = .ok (.value v) w := by intro u; go_simp; first | done | with_reducible rfl) (ha : a.put o.dst v = a1 := by simp only [Act.put, z5, z6, z7]; rfl) : vJ P ops S L (o :: rest) a := by
 subst ha
 exact wpDA_pure hg h hr
theorem zJ {σ : Type} {P : Program} {ops : Array Oper} {S : σ → World → Prop} {L : Act → Prop} {o : Oper} {rest : List Oper} {a a1 : Act} {args : Array Value} {v' : Value} (v : Value) (f : FuncId) (hg : o.guard = none := by rfl) (h : ∀ w, (execOp a.eval o).run P w = .ok (.enter f args) w := by intro u; go_simp; first | done | with_reducible rfl) (c : ∀ D w, S D w → Calls P f args w fun e w2 => e = .returned v' ∧ Below w.heap.size w w2) (r : vJ P ops S L rest a1) (hv : v' = v := by rfl) (hs : ∀ D u u2, S D u → Below u.heap.size u u2 → S D u2 := by intro D u u2 hS hb; first | exact hS.below hb | exact hS.trans (hb.mono hS.size)) (ha : a.put o.dst v = a1 := by simp only [Act.put, z5, z6, z7]; rfl) : vJ P ops S L (o :: rest) a := by
 subst ha hv
 exact wpDA_call hg f args h (fun D w hS => (c D w hS).mono fun e w2 hh => ⟨hh.1, hs D w w2 hS hh.2⟩) r
theorem zY {σ : Type} {P : Program} {ops : Array Oper} {S : σ → World → Prop} {L : Act → Prop} {o : Oper} {rest : List Oper} {v : Value} {a a1 : Act} (hg : o.guard = none) (h : ∀ D w, S D w → (execOp a.eval o).run P w = .ok (.value v) w) (hr : vJ P ops S L rest a1) (ha : a.put o.dst v = a1 := by simp only [Act.put, z5, z6, z7]; rfl) : vJ P ops S L (o :: rest) a := by
 subst ha
 exact wpDA_here hg h hr
end Pl
end
