/-
  Texts Tb, Tb2.
-/
import Derived.Test.YtmfmokblmipagaaGreatR14
import Derived.Test.YtmfmokblmipagaaGreatR24
import Derived.Test.YtmfmokblmipagaaGreatR26
import Derived.Test.YtmfmokblmipagaaGreatR29
set_option linter.unusedSimpArgs false
set_option linter.unusedVariables false
set_option maxHeartbeats 8000000
open Pl
section
namespace Go.Proofs.YtmfmokblmipagaaGreat
open Go.RowKit Pl
def Does (N : Option Nat) (l : List Cel) (s s1 : CS) : Prop := ∀ r s2, Runs N r s1 s2 → Runs N (l ++ r) s s2
theorem Does.nil {N : Option Nat} {s : CS} : Does N [] s s := fun _ _ h => h
theorem Does.app {N : Option Nat} {l1 l2 : List Cel} {s s1 s2 : CS} (h : Does N l1 s s1) (k : Does N l2 s1 s2) : Does N (l1 ++ l2) s s2 := fun r s3 hr => by rw [List.append_assoc]; exact h _ _ (k _ _ hr)
theorem Does.one {N : Option Nat} {c : Cel} {s s1 : CS} (h : StepC N c s s1) : Does N [c] s s1 := fun r s2 hr => .step h hr
theorem Does.con {N : Option Nat} {c : Cel} {l : List Cel} {s s1 s2 : CS} (h : Does N [c] s s1) (k : Does N l s1 s2) : Does N (c :: l) s s2 := h.app k
theorem Does.runs {N : Option Nat} {l : List Cel} {s s1 : CS} (h : Does N l s s1) : Runs N l s s1 := by have := h [] s1 (.done _); rwa [List.append_nil] at this
theorem Does.to {N : Option Nat} {l r : List Cel} {s s1 s2 : CS} (h : Does N l s s1) (k : Runs N r s1 s2) : Runs N (l ++ r) s s2 := h r s2 k
theorem d_get {N : Option Nat} {V L : List (BitVec 64)} {β : Nat → Nat} {a : Nat} {x : BitVec 64} (hx : L[a]? = some x) (hV : V.length ≤ 90) : Does N [getc a] ⟨V, L, β, 0⟩ ⟨V ++ [x], L, β, 0⟩ :=
 .one (.get V L β a 0 (List.getElem?_eq_some_iff.1 hx).1 hV x hx)
theorem d_set {N : Option Nat} {V L : List (BitVec 64)} {β : Nat → Nat} {a : Nat} {x : BitVec 64} (ha : a < L.length) (hV : V.length ≤ 90) : Does N [setc a] ⟨V ++ [x], L, β, 0⟩ ⟨V, L.set a x, β, 0⟩ :=
 .one (.set V L β a 0 ha hV x)
theorem d_num {N : Option Nat} {V L : List (BitVec 64)} {β : Nat → Nat} {n : Nat} (hn : n < 18446744073709551616) (hV : V.length ≤ 90) : Does N [numc n] ⟨V, L, β, 0⟩ ⟨V ++ [BitVec.ofNat 64 n], L, β, 0⟩ := by
 have h := StepC.num (N := N) V L β 0 hV (BitVec.ofNat 64 n)
 rw [BitVec.toNat_ofNat, Nat.mod_eq_of_lt hn] at h
 exact .one h
theorem d_bin {N : Option Nat} {V L : List (BitVec 64)} {β : Nat → Nat} {op : Nat} {x y : BitVec 64} (ho : (124 ≤ op ∧ op ≤ 138) ∧ (op = 124 ∨ op = 126 ∨ 131 ≤ op ∧ op ≤ 136)) (hV : V.length ≤ 90) (z : BitVec 64) (h : Nm.binB op x y = (z, 0)) : Does N [opc op] ⟨V ++ [x, y], L, β, 0⟩ ⟨V ++ [z], L, β, 0⟩ := by
 have h3 := StepC.bin (N := N) V L β op 0 0 ho hV x y (by rw [h])
 rw [h] at h3
 exact .one h3
theorem bin_add (x y : BitVec 64) : Nm.binB ((124 : Nat) : Int) x y = (x + y, 0) := by simp [Nm.binB, Nm.opB]
theorem bin_mul (x y : BitVec 64) : Nm.binB ((126 : Nat) : Int) x y = (x * y, 0) := by simp [Nm.binB, Nm.opB]
theorem bin_and (x y : BitVec 64) : Nm.binB ((131 : Nat) : Int) x y = (x &&& y, 0) := by simp [Nm.binB, Nm.opB]
theorem bin_or (x y : BitVec 64) : Nm.binB ((132 : Nat) : Int) x y = (x ||| y, 0) := by simp [Nm.binB, Nm.opB]
theorem bin_xor (x y : BitVec 64) : Nm.binB ((133 : Nat) : Int) x y = (x ^^^ y, 0) := by simp [Nm.binB, Nm.opB]
theorem bin_shl (x : BitVec 64) (n : Nat) (hn : n < 64) : Nm.binB ((134 : Nat) : Int) x (BitVec.ofNat 64 n) = (x <<< n, 0) := by
 have h : n % 18446744073709551616 = n := Nat.mod_eq_of_lt (by omega)
 simp [Nm.binB, Nm.opB, h, Nat.mod_eq_of_lt hn]
theorem bin_sar (x : BitVec 64) (n : Nat) (hn : n < 64) : Nm.binB ((135 : Nat) : Int) x (BitVec.ofNat 64 n) = (x.sshiftRight n, 0) := by
 have h : n % 18446744073709551616 = n := Nat.mod_eq_of_lt (by omega)
 simp [Nm.binB, Nm.opB, h, Nat.mod_eq_of_lt hn]
theorem bin_shr (x : BitVec 64) (n : Nat) (hn : n < 64) : Nm.binB ((136 : Nat) : Int) x (BitVec.ofNat 64 n) = (x >>> n, 0) := by
 have h : n % 18446744073709551616 = n := Nat.mod_eq_of_lt (by omega)
 simp [Nm.binB, Nm.opB, h, Nat.mod_eq_of_lt hn]
theorem d_and {N : Option Nat} {V L : List (BitVec 64)} {β : Nat → Nat} {x y : BitVec 64} (hV : V.length ≤ 90) : Does N [opc 131] ⟨V ++ [x, y], L, β, 0⟩ ⟨V ++ [x &&& y], L, β, 0⟩ := d_bin (by decide) hV _ (bin_and x y)
theorem d_or {N : Option Nat} {V L : List (BitVec 64)} {β : Nat → Nat} {x y : BitVec 64} (hV : V.length ≤ 90) : Does N [opc 132] ⟨V ++ [x, y], L, β, 0⟩ ⟨V ++ [x ||| y], L, β, 0⟩ := d_bin (by decide) hV _ (bin_or x y)
theorem d_xor {N : Option Nat} {V L : List (BitVec 64)} {β : Nat → Nat} {x y : BitVec 64} (hV : V.length ≤ 90) : Does N [opc 133] ⟨V ++ [x, y], L, β, 0⟩ ⟨V ++ [x ^^^ y], L, β, 0⟩ := d_bin (by decide) hV _ (bin_xor x y)
theorem d_add {N : Option Nat} {V L : List (BitVec 64)} {β : Nat → Nat} {x y : BitVec 64} (hV : V.length ≤ 90) : Does N [opc 124] ⟨V ++ [x, y], L, β, 0⟩ ⟨V ++ [x + y], L, β, 0⟩ := d_bin (by decide) hV _ (bin_add x y)
theorem d_mul {N : Option Nat} {V L : List (BitVec 64)} {β : Nat → Nat} {x y : BitVec 64} (hV : V.length ≤ 90) : Does N [opc 126] ⟨V ++ [x, y], L, β, 0⟩ ⟨V ++ [x * y], L, β, 0⟩ := d_bin (by decide) hV _ (bin_mul x y)
theorem d_shl {N : Option Nat} {V L : List (BitVec 64)} {β : Nat → Nat} {x : BitVec 64} {n : Nat} (hV : V.length ≤ 90) (hn : n < 64) : Does N [opc 134] ⟨V ++ [x, BitVec.ofNat 64 n], L, β, 0⟩ ⟨V ++ [x <<< n], L, β, 0⟩ := d_bin (by decide) hV _ (bin_shl x n hn)
theorem d_sar {N : Option Nat} {V L : List (BitVec 64)} {β : Nat → Nat} {x : BitVec 64} {n : Nat} (hV : V.length ≤ 90) (hn : n < 64) : Does N [opc 135] ⟨V ++ [x, BitVec.ofNat 64 n], L, β, 0⟩ ⟨V ++ [x.sshiftRight n], L, β, 0⟩ := d_bin (by decide) hV _ (bin_sar x n hn)
theorem d_shr {N : Option Nat} {V L : List (BitVec 64)} {β : Nat → Nat} {x : BitVec 64} {n : Nat} (hV : V.length ≤ 90) (hn : n < 64) : Does N [opc 136] ⟨V ++ [x, BitVec.ofNat 64 n], L, β, 0⟩ ⟨V ++ [x >>> n], L, β, 0⟩ := d_bin (by decide) hV _ (bin_shr x n hn)
theorem app2 {α : Type} (V : List α) (x y : α) : V ++ [x] ++ [y] = V ++ [x, y] := by simp
theorem d_nshl {N : Option Nat} {V L : List (BitVec 64)} {β : Nat → Nat} {x : BitVec 64} {n : Nat} (hV : V.length ≤ 80) (hn : n < 64) : Does N [numc n, opc 134] ⟨V ++ [x], L, β, 0⟩ ⟨V ++ [x <<< n], L, β, 0⟩ := by
 refine Does.con (d_num (by omega) (by simp; omega)) ?_
 rw [app2]
 exact d_shl (by omega) hn
theorem d_nshr {N : Option Nat} {V L : List (BitVec 64)} {β : Nat → Nat} {x : BitVec 64} {n : Nat} (hV : V.length ≤ 80) (hn : n < 64) : Does N [numc n, opc 136] ⟨V ++ [x], L, β, 0⟩ ⟨V ++ [x >>> n], L, β, 0⟩ := by
 refine Does.con (d_num (by omega) (by simp; omega)) ?_
 rw [app2]
 exact d_shr (by omega) hn
theorem d_nsar {N : Option Nat} {V L : List (BitVec 64)} {β : Nat → Nat} {x : BitVec 64} {n : Nat} (hV : V.length ≤ 80) (hn : n < 64) : Does N [numc n, opc 135] ⟨V ++ [x], L, β, 0⟩ ⟨V ++ [x.sshiftRight n], L, β, 0⟩ := by
 refine Does.con (d_num (by omega) (by simp; omega)) ?_
 rw [app2]
 exact d_sar (by omega) hn
theorem d_nand {N : Option Nat} {V L : List (BitVec 64)} {β : Nat → Nat} {x : BitVec 64} {n : Nat} (hV : V.length ≤ 80) (hn : n < 18446744073709551616) : Does N [numc n, opc 131] ⟨V ++ [x], L, β, 0⟩ ⟨V ++ [x &&& BitVec.ofNat 64 n], L, β, 0⟩ := by
 refine Does.con (d_num hn (by simp; omega)) ?_
 rw [app2]
 exact d_and (by omega)
theorem d_nmul {N : Option Nat} {V L : List (BitVec 64)} {β : Nat → Nat} {x : BitVec 64} {n : Nat} (hV : V.length ≤ 80) (hn : n < 18446744073709551616) : Does N [numc n, opc 126] ⟨V ++ [x], L, β, 0⟩ ⟨V ++ [x * BitVec.ofNat 64 n], L, β, 0⟩ := by
 refine Does.con (d_num hn (by simp; omega)) ?_
 rw [app2]
 exact d_mul (by omega)
def laneB (x : BitVec 64) (w i : Nat) (s : Bool) : BitVec 64 := if s = true then (x <<< (64 - w - w * i)).sshiftRight (64 - w) else (x >>> (w * i)) &&& BitVec.ofNat 64 (onesN w)
theorem onesN_lt (w : Nat) (hw : w ≤ 64) : onesN w < 18446744073709551616 := by
 have := Nat.pow_le_pow_right (show 0 < 2 by decide) hw
 have h0 : 0 < 2 ^ w := Nat.two_pow_pos _
 unfold onesN
 omega
theorem d_lane {N : Option Nat} {V L : List (BitVec 64)} {β : Nat → Nat} {h w i : Nat} {s : Bool} {x : BitVec 64} (hx : L[h]? = some x) (hV : V.length ≤ 70) (hw : 0 < w ∧ w < 64) (hi : w * i + w ≤ 64) : Does N (laneC h w i s) ⟨V, L, β, 0⟩ ⟨V ++ [laneB x w i s], L, β, 0⟩ := by
 unfold laneC laneB
 rw [if_neg (by omega)]
 refine Does.con (d_get hx (by omega)) ?_
 split
 ·exact Does.app (l1 := [_, _]) (l2 := [_, _]) (d_nshl (by omega) (by omega)) (d_nsar (by omega) (by omega))
 ·split
  ·exact Does.app (l1 := [_, _]) (l2 := [_, _]) (d_nshr (by omega) (by omega)) (d_nand (by omega) (onesN_lt w (by omega)))
  ·have hi0 : i = 0 := by omega
   subst hi0
   rw [Nat.mul_zero, show x >>> 0 = x by simp]
   exact d_nand (by omega) (onesN_lt w (by omega))
theorem and_all (y : BitVec 64) : y &&& BitVec.ofNat 64 (onesN 64) = y := by
 have : BitVec.ofNat 64 (onesN 64) = BitVec.allOnes 64 := by decide
 rw [this, BitVec.and_allOnes]
theorem d_into0 {N : Option Nat} {V L : List (BitVec 64)} {β : Nat → Nat} {w : Nat} {y : BitVec 64} (hV : V.length ≤ 70) (hw : w ≤ 64) : Does N (intoC w 0) ⟨V ++ [y], L, β, 0⟩ ⟨V ++ [y &&& BitVec.ofNat 64 (onesN w)], L, β, 0⟩ := by
 unfold intoC
 rw [if_neg (by omega : ¬ 0 < 0), List.append_nil]
 split
 ·exact d_nand (by omega) (onesN_lt w hw)
 ·obtain rfl : w = 64 := by omega
  rw [and_all]
  exact Does.nil
theorem d_into {N : Option Nat} {V L : List (BitVec 64)} {β : Nat → Nat} {w i : Nat} {z y : BitVec 64} (hV : V.length ≤ 70) (hi : 0 < i) (hw : w * i < 64) (hw2 : w < 64) : Does N (intoC w i) ⟨V ++ [z] ++ [y], L, β, 0⟩ ⟨V ++ [z ||| ((y &&& BitVec.ofNat 64 (onesN w)) <<< (w * i))], L, β, 0⟩ := by
 unfold intoC
 rw [if_pos hw2, if_pos hi]
 refine Does.app (l1 := [_, _]) (l2 := [_, _, _]) (d_nand (by simp; omega) (onesN_lt w (by omega))) ?_
 refine Does.app (l1 := [_, _]) (l2 := [_]) (d_nshl (by simp; omega) (by omega)) ?_
 rw [app2]
 exact d_or (by omega)
def accB (f : Nat → BitVec 64) (W : Nat) : Nat → BitVec 64
 | 0 => 0
 | t + 1 => accB f W t ||| (f t <<< (W * t))
end Go.Proofs.YtmfmokblmipagaaGreat
end
section
namespace Go.Proofs.YtmfmokblmipagaaGreat
open Go.RowKit Pl
def sumN (f : Nat → Nat) (W : Nat) : Nat → Nat
 | 0 => 0
 | t + 1 => sumN f W t + 2 ^ (W * t) * f t
theorem bitsAt_sum (v : Vec) (s W : Nat) : ∀ t, bitsAt v s (W * t) = sumN (fun i => bitsAt v (s + W * i) W) W t
 | 0 => by simp [sumN, bitsAt, Nat.mod_one]
 | t + 1 => by rw [Nat.mul_add, Nat.mul_one, bitsAt_more, bitsAt_sum v s W t, sumN]
theorem half_sum (v : Vec) (W n h : Nat) (hn : W * n = 64) : getN v 64 h = sumN (fun i => getN v W (h * n + i)) W n := by
 unfold getN
 rw [← hn, bitsAt_sum]
 congr 1
 funext i
 rw [show W * n * h + W * i = W * (h * n + i) by rw [Nat.mul_add, Nat.mul_comm h n, ← Nat.mul_assoc]]
theorem sumN_congr {f g : Nat → Nat} {W : Nat} : ∀ {t : Nat}, (∀ i, i < t → f i = g i) → sumN f W t = sumN g W t
 | 0, _ => rfl
 | t + 1, h => by rw [sumN, sumN, sumN_congr (fun i hi => h i (by omega)), h t (by omega)]
theorem sumN_lt {f : Nat → Nat} {W : Nat} : ∀ {t : Nat}, (∀ i, i < t → f i < 2 ^ W) → sumN f W t < 2 ^ (W * t)
 | 0, _ => by simp [sumN]
 | t + 1, h => by
   have h1 := sumN_lt (f := f) (W := W) (t := t) (fun i hi => h i (by omega))
   have h2 : 2 ^ (W * t) * (f t + 1) ≤ 2 ^ (W * t) * 2 ^ W := Nat.mul_le_mul_left _ (h t (by omega))
   rw [Nat.mul_add, Nat.mul_one] at h2
   rw [sumN, Nat.mul_add, Nat.mul_one, Nat.pow_add]
   omega
theorem accB_sum (f : Nat → BitVec 64) (W : Nat) : ∀ t, W * t ≤ 64 → (∀ i, i < t → (f i).toNat < 2 ^ W) → (accB f W t).toNat = sumN (fun i => (f i).toNat) W t
 | 0, _, _ => rfl
 | t + 1, ht, hf => by
   have e : W * (t + 1) = W * t + W := by rw [Nat.mul_add, Nat.mul_one]
   have ih := accB_sum f W t (by omega) (fun i hi => hf i (by omega))
   have hl := sumN_lt (f := fun i => (f i).toNat) (W := W) (t := t) (fun i hi => hf i (by omega))
   have hp : (f t).toNat * 2 ^ (W * t) < 2 ^ 64 := by
    have h1 : (f t).toNat * 2 ^ (W * t) < 2 ^ W * 2 ^ (W * t) := Nat.mul_lt_mul_of_pos_right (hf t (by omega)) (Nat.two_pow_pos _)
    rw [← Nat.pow_add] at h1
    exact Nat.lt_of_lt_of_le h1 (Nat.pow_le_pow_right (by first | decide | simp) (by omega))
   rw [accB, BitVec.toNat_or, ih, BitVec.toNat_shiftLeft, Nat.shiftLeft_eq, Nat.mod_eq_of_lt hp, sumN, Nat.or_comm, ← Nat.shiftLeft_eq, ← Nat.shiftLeft_add_eq_or_of_lt hl, Nat.shiftLeft_eq, Nat.mul_comm, Nat.add_comm]
theorem half_lt (v : Vec) (h : Nat) : getN v 64 h < 18446744073709551616 := getN_lt v 64 h
theorem half_low (X : Nat) (hX : X < 18446744073709551616) : getN (lowV X) 64 0 = X ∧ getN (lowV X) 64 1 = 0 := by
 unfold lowV
 refine ⟨?_, ?_⟩
 ·rw [getN_buildOn _ _ _ _ _ (by first | decide | simp), if_pos (by first | decide | simp)]
  exact Nat.mod_eq_of_lt hX
 ·rw [getN_buildOn _ _ _ _ _ (by first | decide | simp), if_neg (by first | decide | simp)]
  simp [getN, bitsAt]
theorem half_set (x y : Nat) (hx : x < 18446744073709551616) (hy : y < 18446744073709551616) : getN (setN (setN 0 64 0 x) 64 1 y) 64 0 = x ∧ getN (setN (setN 0 64 0 x) 64 1 y) 64 1 = y := by
 refine ⟨?_, ?_⟩
 ·rw [getN_setN _ _ _ _ _ (by first | decide | simp), if_neg (by first | decide | simp), getN_setN _ _ _ _ _ (by first | decide | simp), if_pos rfl]
  exact Nat.mod_eq_of_lt hx
 ·rw [getN_setN _ _ _ _ _ (by first | decide | simp), if_pos rfl]
  exact Nat.mod_eq_of_lt hy
theorem half_splat (X W n h : Nat) (hn : W = 8 ∧ n = 8 ∨ W = 16 ∧ n = 4 ∨ W = 32 ∧ n = 2 ∨ W = 64 ∧ n = 1) (hX : X < 2 ^ W) (hh : h < 2) : getN (buildOn 0 W (fun _ => X) (2 * n)) 64 h = sumN (fun _ => X) W n := by
 have hW : W * n = 64 := by rcases hn with ⟨rfl, rfl⟩ | ⟨rfl, rfl⟩ | ⟨rfl, rfl⟩ | ⟨rfl, rfl⟩ <;> rfl
 rw [half_sum _ W n h hW]
 refine sumN_congr fun i hi => ?_
 have hl : 2 * n ≤ 128 / W := by rcases hn with ⟨rfl, rfl⟩ | ⟨rfl, rfl⟩ | ⟨rfl, rfl⟩ | ⟨rfl, rfl⟩ <;> decide
 have hj : h * n + i < 2 * n := by
  have : h * n ≤ 1 * n := Nat.mul_le_mul_right _ (by omega)
  omega
 rw [getN_buildOn _ _ _ _ _ hl, if_pos hj, Nat.mod_eq_of_lt hX]
theorem d_ld {n op off : Nat} {V L : List (BitVec 64)} {β : Nat → Nat} {x : BitVec 64} (ho : ldC op ≠ 0) (hm : off < 8589934592) (hV : V.length ≤ 90) (hin : x.toNat % 4294967296 + off + ldC op ≤ n) (hβ : ∀ i, i < n → β i < 256) :
 Does (some n) [atc op off] ⟨V ++ [x], L, β, 0⟩ ⟨V ++ [BitVec.ofNat 64 (loadN β (x.toNat % 4294967296 + off) (ldC op))], L, β, 0⟩ := by
 refine .one (.ld V L β op 0 off n ho rfl hm hV x hin _ ?_)
 rw [BitVec.toNat_ofNat]
 refine Nat.mod_eq_of_lt (Nat.lt_of_lt_of_le (loadN_lt β _ _ fun i hi => hβ _ (by omega)) (Nat.pow_le_pow_right (by first | decide | simp) ?_))
 rcases ldC_ops ho with rfl | rfl | rfl | rfl <;> decide
theorem d_st {n op off : Nat} {V L : List (BitVec 64)} {β : Nat → Nat} {x y : BitVec 64} (ho : stC op ≠ 0) (hm : off < 8589934592) (hV : V.length ≤ 90) (hin : x.toNat % 4294967296 + off + stC op ≤ n) :
 Does (some n) [atc op off] ⟨V ++ [x, y], L, β, 0⟩ ⟨V, L, storeN β (x.toNat % 4294967296 + off) y.toNat (stC op), 0⟩ :=
 .one (.st V L β op 0 off n ho rfl hm hV x y hin)
theorem x_ld {n op off : Nat} {V L : List (BitVec 64)} {β : Nat → Nat} {x : BitVec 64} (r : List Cel) (ho : ldC op ≠ 0) (hm : off < 8589934592) (hV : V.length ≤ 90) (hin : ¬ x.toNat % 4294967296 + off + ldC op ≤ n) :
 Runs (some n) (atc op off :: r) ⟨V ++ [x], L, β, 0⟩ ⟨V ++ [0], L, β, 23⟩ :=
 .step (.ldx V L β op 0 off n ho rfl hm hV x hin) (.trap _ _ (by simp))
theorem x_st {n op off : Nat} {V L : List (BitVec 64)} {β : Nat → Nat} {x y : BitVec 64} (r : List Cel) (ho : stC op ≠ 0) (hm : off < 8589934592) (hV : V.length ≤ 90) (hin : ¬ x.toNat % 4294967296 + off + stC op ≤ n) :
 Runs (some n) (atc op off :: r) ⟨V ++ [x, y], L, β, 0⟩ ⟨V, L, β, 23⟩ :=
 .step (.stx V L β op 0 off n ho rfl hm hV x y hin) (.trap _ _ (by simp))
structure Acc (n k : Nat) (cs : List Cel) (V : List (BitVec 64)) (β : Nat → Nat) (E : Int) (V2 : List (BitVec 64)) (β2 : Nat → Nat) : Prop where
 ex : ∃ W L2, Runs (some n) cs ⟨V, List.replicate (k + 3) 0, β, 0⟩ ⟨W, L2, β2, E⟩ ∧ L2.length = k + 3 ∧ L2[0]? = some 0 ∧ L2[1]? = some 0 ∧ L2[k + 2]? = some 0 ∧ (E = 0 → W = V2)
theorem mod32 {x : BitVec 64} (hx : x.toNat < 4294967296) : x.toNat % 4294967296 = x.toNat := Nat.mod_eq_of_lt hx
theorem acc_00 (n off : Nat) (x : BitVec 64) (β : Nat → Nat) (hx : x.toNat < 4294967296) (ho : off < 4294967296) (hβ : ∀ i, i < n → β i < 256) (hin : x.toNat + off + 16 ≤ n) :
 Acc n 1 [setc 2, getc 2, atc 41 off, getc 2, atc 41 (off + 8)] [x] β 0 [BitVec.ofNat 64 (loadN β (x.toNat + off) 8), BitVec.ofNat 64 (loadN β (x.toNat + off + 8) 8)] β := by
 have e := mod32 hx
 refine ⟨_, [0, 0, x, 0], Does.runs (Does.con (d_set (V := []) (L := [0, 0, 0, 0]) (by first | decide | simp) (by first | decide | simp)) (Does.con (d_get (a := 2) rfl (by first | decide | simp)) (Does.con (d_ld (op := 41) (V := []) (by first | decide | simp) (by omega) (by first | decide | simp) (by rw [e]; simp only [ldC]; simp; omega) hβ) (Does.con (d_get (a := 2) rfl (by first | decide | simp)) (d_ld (op := 41) (by first | decide | simp) (by omega) (by first | decide | simp) (by rw [e]; simp only [ldC]; simp; omega) hβ))))), rfl, rfl, rfl, rfl, fun _ => ?_⟩
 rw [e, ← Nat.add_assoc]
 rfl
theorem acc_00x (n off : Nat) (x : BitVec 64) (β : Nat → Nat) (hx : x.toNat < 4294967296) (ho : off < 4294967296) (hβ : ∀ i, i < n → β i < 256) (hin : ¬ x.toNat + off + 16 ≤ n) :
 Acc n 1 [setc 2, getc 2, atc 41 off, getc 2, atc 41 (off + 8)] [x] β 23 [] β := by
 have e := mod32 hx
 by_cases h1 : x.toNat + off + 8 ≤ n
 ·refine ⟨_, [0, 0, x, 0], Does.to (l := [_]) (d_set (V := []) (L := [0, 0, 0, 0]) (by first | decide | simp) (by first | decide | simp)) (Does.to (l := [_]) (d_get (a := 2) rfl (by first | decide | simp)) (Does.to (l := [_]) (d_ld (op := 41) (V := []) (by first | decide | simp) (by omega) (by first | decide | simp) (by rw [e]; simp only [ldC]; simp; omega) hβ) (Does.to (l := [_]) (d_get (a := 2) rfl (by first | decide | simp)) (x_ld (op := 41) [] (by first | decide | simp) (by omega) (by first | decide | simp) (by rw [e]; simp only [ldC]; simp; omega))))), rfl, rfl, rfl, rfl, fun h => absurd h (by first | decide | simp)⟩
 ·exact ⟨_, [0, 0, x, 0], Does.to (l := [_]) (d_set (V := []) (L := [0, 0, 0, 0]) (by first | decide | simp) (by first | decide | simp)) (Does.to (l := [_]) (d_get (a := 2) rfl (by first | decide | simp)) (x_ld (op := 41) (V := []) [_, _] (by first | decide | simp) (by omega) (by first | decide | simp) (by rw [e]; simp only [ldC]; simp; omega))), rfl, rfl, rfl, rfl, fun h => absurd h (by first | decide | simp)⟩
end Go.Proofs.YtmfmokblmipagaaGreat
end
