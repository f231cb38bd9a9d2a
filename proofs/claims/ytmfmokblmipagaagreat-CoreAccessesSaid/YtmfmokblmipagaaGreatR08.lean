/-
  Texts TaC.
-/
import Derived.Test.YtmfmokblmipagaaGreatR06
import Derived.Test.YtmfmokblmipagaaGreatR07
set_option linter.unusedSimpArgs false
set_option linter.unusedVariables false
set_option maxHeartbeats 8000000
open Pl
namespace Go.Proofs.YtmfmokblmipagaaGreat
open Go.RowKit Pl
structure Cel where
 op : Nat
 a : Nat
 n : Nat
structure CS where
 V : List (BitVec 64)
 L : List (BitVec 64)
 β : Nat → Nat
 E : Int
def ldC (op : Nat) : Nat := if op = 41 then 8 else if op = 49 then 1 else if op = 51 then 2 else if op = 53 then 4 else 0
def stC (op : Nat) : Nat := if op = 55 then 8 else if op = 60 then 1 else if op = 61 then 2 else if op = 62 then 4 else 0
inductive StepC (N : Option Nat) : Cel → CS → CS → Prop
 | get (V L β) (a m : Nat) (ha : a < L.length) (hV : V.length ≤ 90) (x) (hx : L[a]? = some x) : StepC N ⟨32, a, m⟩ ⟨V, L, β, 0⟩ ⟨V ++ [x], L, β, 0⟩
 | set (V L β) (a m : Nat) (ha : a < L.length) (hV : V.length ≤ 90) (x) : StepC N ⟨33, a, m⟩ ⟨V ++ [x], L, β, 0⟩ ⟨V, L.set a x, β, 0⟩
 | num (V L β) (a : Nat) (hV : V.length ≤ 90) (x : BitVec 64) : StepC N ⟨66, a, x.toNat⟩ ⟨V, L, β, 0⟩ ⟨V ++ [x], L, β, 0⟩
 | bin (V L β) (op a m : Nat) (ho : (124 ≤ op ∧ op ≤ 138) ∧ (op = 124 ∨ op = 126 ∨ 131 ≤ op ∧ op ≤ 136)) (hV : V.length ≤ 90) (x y : BitVec 64) (h2 : (Nm.binB op x y).2 = 0) : StepC N ⟨op, a, m⟩ ⟨V ++ [x, y], L, β, 0⟩ ⟨V ++ [(Nm.binB op x y).1], L, β, 0⟩
 | ld (V L β) (op a m n : Nat) (ho : ldC op ≠ 0) (hN : N = some n) (hm : m < 8589934592) (hV : V.length ≤ 90) (x : BitVec 64) (hin : x.toNat % 4294967296 + m + ldC op ≤ n) (y : BitVec 64) (hy : y.toNat = loadN β (x.toNat % 4294967296 + m) (ldC op)) : StepC N ⟨op, a, m⟩ ⟨V ++ [x], L, β, 0⟩ ⟨V ++ [y], L, β, 0⟩
 | ldx (V L β) (op a m n : Nat) (ho : ldC op ≠ 0) (hN : N = some n) (hm : m < 8589934592) (hV : V.length ≤ 90) (x : BitVec 64) (hin : ¬ x.toNat % 4294967296 + m + ldC op ≤ n) : StepC N ⟨op, a, m⟩ ⟨V ++ [x], L, β, 0⟩ ⟨V ++ [0], L, β, 23⟩
 | st (V L β) (op a m n : Nat) (ho : stC op ≠ 0) (hN : N = some n) (hm : m < 8589934592) (hV : V.length ≤ 90) (x y : BitVec 64) (hin : x.toNat % 4294967296 + m + stC op ≤ n) : StepC N ⟨op, a, m⟩ ⟨V ++ [x, y], L, β, 0⟩ ⟨V, L, storeN β (x.toNat % 4294967296 + m) y.toNat (stC op), 0⟩
 | stx (V L β) (op a m n : Nat) (ho : stC op ≠ 0) (hN : N = some n) (hm : m < 8589934592) (hV : V.length ≤ 90) (x y : BitVec 64) (hin : ¬ x.toNat % 4294967296 + m + stC op ≤ n) : StepC N ⟨op, a, m⟩ ⟨V ++ [x, y], L, β, 0⟩ ⟨V, L, β, 23⟩
inductive Runs (N : Option Nat) : List Cel → CS → CS → Prop
 | done (s) : Runs N [] s s
 | trap (l s) (h : s.E ≠ 0) : Runs N l s s
 | step {c l s s1 s2} (h : StepC N c s s1) (k : Runs N l s1 s2) : Runs N (c :: l) s s2
end Go.Proofs.YtmfmokblmipagaaGreat
