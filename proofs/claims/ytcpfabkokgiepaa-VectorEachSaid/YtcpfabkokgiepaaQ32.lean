/-
  Texts AriRP, AriH, AriLo, AriAk.
-/
import Derived.Test.YtcpfabkokgiepaaQ18
set_option linter.unusedSimpArgs false
set_option linter.unusedVariables false
set_option maxHeartbeats 8000000
open Pl
section
namespace Go.Proofs.Ytcpfabkokgiepaa
open Go.RowKit Pl
theorem pJ (w : Nat) (f : Nat → Nat) (v : Vec) (i Z : Nat) (h : Z % 2 ^ w = f i % 2 ^ w) : t7 (mJ v w f i) w i Z = mJ v w f (i + 1) := by
 rw [mJ]; unfold t7; rw [← putAt_mod _ _ _ Z, h, putAt_mod]
theorem uQ (n low high : Int) (w : World) (h : low ≤ high) : Calls Try.prog 88 #[.int .i64 n, .int .i64 low, .int .i64 high] w fun e w' => e = .returned (.int .u64 ((Pl.u64 (min (max n low) high) : Nat) : Int)) ∧ Below w.heap.size w w' := by
 by_cases h1 : n < low
 ·have q : IntKind.u64.wrap low = ((Pl.u64 (min (max n low) high) : Nat) : Int) := by rw [wrap_u64, show min (max n low) high = low by omega]
  exact qB
 ·by_cases h2 : high < n
  ·have q : IntKind.u64.wrap high = ((Pl.u64 (min (max n low) high) : Nat) : Int) := by rw [wrap_u64, show min (max n low) high = high by omega]
   exact qB
  ·have q : IntKind.u64.wrap n = ((Pl.u64 (min (max n low) high) : Nat) : Int) := by rw [wrap_u64, show min (max n low) high = n by omega]
   exact qB
theorem tE (op k : Int) (w : World) (ho : 64768 ≤ op ∧ op ≤ 100000) (hw : wF op ≠ 0) (hk : (op - 64768) % 32 = k) :
 Calls Try.prog 86 #[.int .i64 op] w fun e w' => e = .returned (.int .i64 k) ∧ Below w.heap.size w w' := by
 have T := Lib.hid (fun W => tY op W (by omega))
 obtain ⟨z, hz⟩ : ∃ z, z = wF op := ⟨_, rfl⟩
 rw [← hz] at T hw
 clear hz
 have e0 : (z == 0) = false := by simpa using hw
 have e1 : IntKind.i64.wrap (op - 64768) = op - 64768 := IntWalk.i64_in _ (by omega)
 have e2 : (op - 64768).tmod 32 = k := by rw [Int.tmod_eq_emod_of_nonneg (by omega)]; exact hk
 have hb0 : Below w.heap.size w w := Below.refl _ _
 clear hw ho hk
 exact jS
theorem roff_none (op : Int) (w : World) (ho : -9223372036854775808 ≤ op ∧ op ≤ 9223372036854775807) (hw : wF op = 0) :
 Calls Try.prog 86 #[.int .i64 op] w fun e w' => e = .returned (.int .i64 (-1)) ∧ Below w.heap.size w w' := by
 have T := Lib.hid (fun W => tY op W ho)
 rw [hw] at T
 clear hw ho
 exact jS
end Go.Proofs.Ytcpfabkokgiepaa
end
section

end
section
namespace Go.Proofs.Ytcpfabkokgiepaa
open Go.RowKit Pl
theorem HL.low {w0 u : World} {l : List (Nat × Vec)} (h : HL w0 l u) : ∀ q ∈ l, q.1 < u.heap.size := fun q hq => mF (h.hold q hq)
theorem HL.set {w0 u u1 : World} {l : List (Nat × Vec)} {K : Nat} {v v2 : Vec} (h : HL w0 ((K, v) :: l) u) (hs : Sets u K v2 u1) (hl : ∀ q ∈ l, q.1 < K) (hk : w0.heap.size ≤ K) : HL w0 ((K, v2) :: l) u1 :=
 N1.start 0 (h.bel.trans (hs.below.mono hk)) (fun q hq => by
  rcases List.mem_cons.1 hq with rfl | hq
  ·exact hs.this
  ·exact mR (h.hold q (List.mem_cons_of_mem _ hq)) hs (Nat.ne_of_lt (hl q hq)))
end Go.Proofs.Ytcpfabkokgiepaa
namespace Go.Proofs.Ytcpfabkokgiepaa
open Go.RowKit Pl
theorem zH {w u : World} {v : Vec} (hs : HL w [(w.heap.size + 1, 0), (w.heap.size, v)] u) : ∃ O W, O = u.heap.size ∧ W = u.alloc (.cells (mY 0) 45) ∧ W.heap[w.heap.size]? = some (.cells (mY v) 45 (0, 0)) ∧ W.heap[w.heap.size + 1]? = some (.cells (mY 0) 45 (0, 0)) ∧ W.heap[O]? = some (.cells (mY 0) 45 (0, 0)) ∧ Below w.heap.size w W ∧ w.heap.size + 1 < O ∧ w.heap.size ≤ O := by
 have hlow := HL.low hs
 refine ⟨_, _, rfl, rfl, mE (hs.hold (_, v) (List.mem_cons_of_mem _ List.mem_cons_self)) _, mE (hs.hold (_, 0) List.mem_cons_self) _, heap_alloc_new _ _, hs.bel.alloc hs.bel.size _, hlow (_, 0) List.mem_cons_self, ?_⟩
 have := hlow (_, 0) List.mem_cons_self
 simp only at this
 omega
end Go.Proofs.Ytcpfabkokgiepaa
end
section
namespace Go.Proofs.Ytcpfabkokgiepaa
open Go.RowKit Pl
theorem store_z {ops : Array Oper} {rest : List Oper} {o : Oper} {a : Act} {w : World} {Q : Exit → Act → World → Prop} (hgd : o.guard = none) (x y : Operand) (ho : o.op = .store 45 x y)
 (g : Nat) (hx : a.eval x = .pointer (some ⟨g, 0, none⟩)) (hy : a.eval y = .agg #[.int .u8 0, .int .u8 0, .int .u8 0, .int .u8 0, .int .u8 0, .int .u8 0, .int .u8 0, .int .u8 0, .int .u8 0, .int .u8 0, .int .u8 0, .int .u8 0, .int .u8 0, .int .u8 0, .int .u8 0, .int .u8 0]) (v : Vec) (hg : w.heap[g]? = some (.cells (mY v) 45 (0, 0)))
 (h : ∀ w', Sets w g 0 w' → wpList Try.prog ops Q rest (a.put o.dst undef) w') : wpList Try.prog ops Q (o :: rest) a w :=
 mK hgd x y ho g 0 hx (by rw [hy, mU]) v hg h
set_option maxRecDepth 100000 in
theorem rbin_no (op z κ : Int) (a b : Vec) (w : World) (hT : ∀ W, Calls Try.prog 85 #[.int .i64 op] W fun e w' => e = .returned (.int .i64 z) ∧ Below W.heap.size W w') (hK : ∀ W, Calls Try.prog 86 #[.int .i64 op] W fun e w' => e = .returned (.int .i64 κ) ∧ Below W.heap.size W w') (h : κ < 14) :
 Calls Try.prog 79 #[.int .i64 op, .agg (mY a), .agg (mY b)] w fun e w' => e = .returned (.tuple #[.agg (mY 0), .int .i64 1]) ∧ Below w.heap.size w w' := by
 have hs := HL.three w a b 0
 have T := Lib.hid hT
 have K := Lib.hid hK
 clear hT hK
 rw [mU] at hs
 go_enter Try.func79, Try.ntmps79
 go_wp2_with (first | (go_at_call 85; (with_reducible refine (T.out _).mono ?_); rintro e u ⟨rfl, hb⟩; replace hs := hs.below hb; clear hb) | (go_at_call 86; (with_reducible refine (K.out _).mono ?_); rintro e u ⟨rfl, hb⟩; replace hs := hs.below hb; clear hb) | (with_reducible refine store_z rfl _ _ rfl (w.heap.size + 2) rfl rfl 0 (hs.hold (_, 0) List.mem_cons_self) ?_; intro wq hq))
 exact bodyPost_ret (mS rfl _ _ (w.heap.size + 2) _ _ rfl rfl hq.this) rfl ⟨rfl, hs.bel.trans (hq.below.mono (by omega))⟩
set_option maxRecDepth 100000 in
theorem run_no (op z κ : Int) (a : Vec) (w : World) (hT : ∀ W, Calls Try.prog 85 #[.int .i64 op] W fun e w' => e = .returned (.int .i64 z) ∧ Below W.heap.size W w') (hK : ∀ W, Calls Try.prog 86 #[.int .i64 op] W fun e w' => e = .returned (.int .i64 κ) ∧ Below W.heap.size W w') (h : κ < 0 ∨ 2 < κ) :
 Calls Try.prog 76 #[.int .i64 op, .agg (mY a)] w fun e w' => e = .returned (.tuple #[.agg (mY 0), .int .i64 1]) ∧ Below w.heap.size w w' := by
 have hs := HL.two w a 0
 have T := Lib.hid hT
 have K := Lib.hid hK
 clear hT hK
 rw [mU] at hs
 rcases h with h | h
 ·exact yD
 ·exact yD
set_option maxRecDepth 100000 in
theorem rsh_no (op z κ : Int) (a : Vec) (n : Int) (w : World) (hT : ∀ W, Calls Try.prog 85 #[.int .i64 op] W fun e w' => e = .returned (.int .i64 z) ∧ Below W.heap.size W w') (hK : ∀ W, Calls Try.prog 86 #[.int .i64 op] W fun e w' => e = .returned (.int .i64 κ) ∧ Below W.heap.size W w') (h : κ < 11 ∨ 13 < κ) :
 Calls Try.prog 78 #[.int .i64 op, .agg (mY a), .int .u32 n] w fun e w' => e = .returned (.tuple #[.agg (mY 0), .int .i64 1]) ∧ Below w.heap.size w w' := by
 have hs := HL.two w a 0
 have T := Lib.hid hT
 have K := Lib.hid hK
 clear hT hK
 rw [mU] at hs
 rcases h with h | h
 ·exact yE
 ·exact yE
end Go.Proofs.Ytcpfabkokgiepaa
end
