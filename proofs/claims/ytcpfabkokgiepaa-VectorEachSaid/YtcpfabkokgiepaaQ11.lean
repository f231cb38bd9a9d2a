/-
  Texts AriB, CmpC, WideEq.
-/
import Derived.Test.YtcpfabkokgiepaaQ02
import Derived.Test.YtcpfabkokgiepaaQ05
import Derived.Test.YtcpfabkokgiepaaQ10
set_option linter.unusedSimpArgs false
set_option linter.unusedVariables false
set_option maxHeartbeats 8000000
open Pl
section
namespace Go.Proofs.Ytcpfabkokgiepaa
open Go.RowKit Pl
theorem sgb8 (v : Vec) (i : Nat) : -128 ≤ sgn 8 (mT v 8 i) ∧ sgn 8 (mT v 8 i) < 128 := by
 have h : mT v 8 i < 256 := mL v 8 i
 have hs : sgn 8 (mT v 8 i) = if mT v 8 i < 128 then (mT v 8 i : Int) else (mT v 8 i : Int) - 256 := rfl
 rw [hs]; split <;> omega
set_option maxRecDepth 100000 in
theorem eY (op : Int) (k : Nat) (a b : Vec) (w : World) (hk : 14 ≤ k ∧ k ≤ 27)
 (ho : ∀ w, Calls Try.prog 49 #[.int .i64 op] w fun e w' => e = .returned (.tuple #[.int .i64 8, .int .i64 (k : Int)]) ∧ w' = w)
 (hl : ∀ (x y : Nat) (s t : Int) (w : World), x < 256 → y < 256 → (-128 ≤ s ∧ s < 128) → (-128 ≤ t ∧ t < 128) →
  Calls Try.prog 57 #[.int .i64 8, .int .i64 (k : Int), .int .u64 (x : Int), .int .u64 (y : Int), .int .i64 s, .int .i64 t] w fun e w' => e = .returned (.int .u64 ((Pl.u64 (t9 8 k x y s t) : Nat) : Int)) ∧ Below w.heap.size w w') :
 Calls Try.prog 21 #[.int .i64 op, .agg (mY a), .agg (mY b)] w fun e w' => e = .returned (.tuple #[.agg (mY (mJ 0 8 (pU 8 k a b) 16)), .int .i64 0]) ∧ Below w.heap.size w w' := by
 obtain ⟨hk0, hk9⟩ := hk
 have HO := Lib.hid ho
 have HL := Lib.hid hl
 clear ho hl
 go_enter Try.func21, Try.ntmps21
 skip
 go_wp2_with (first | (go_at_call 49; refine (HO.out _).mono ?_; rintro e w' ⟨rfl, rfl⟩) | (go_at_call 50; ((with_reducible refine (sL _).mono ?_); rintro e w' ⟨rfl, rfl⟩)))
 rw [← mU]
 obtain ⟨W, hW, hA, hB, hR, hO, hZ⟩ := zD w a b
 rw [← hW]
 clear hW
 go_loopw [30] (fun j wr => ∃ i : Nat, i ≤ 16 ∧ j = .int .i64 i ∧ St W (w.heap.size + 3) (mJ 0 8 (pU 8 k a b) i) wr) (fun j _ => 16 - (intOf j).toNat)
 case atStart => exact xE
 case round =>
  obtain ⟨i, hi, rfl, hs⟩ := hrel
  by_cases hlt : i < 16
  ·go_wp2_with fail
   refine mN (St W (w.heap.size + 3) (mJ 0 8 (pU 8 k a b) i)) 8 (by kernel_rfl) (by kernel_rfl) hs.drew ?_
   simp only [zP, zN, zM, zL]
   repeat (first | (refine zK rfl _ rfl _ rfl _ (fun u hS => hS.kb.get hA (by omega)) ?_) | (refine z8 ?_))
   (refine zZ (.int .u64 (mT a 8 i : Nat)) 51 (c := fun u hS => by exact d7 a _ i _ rfl (by omega)) (r := ?_))
   repeat (first | (refine zK rfl _ rfl _ rfl _ (fun u hS => hS.kb.get hB (by omega)) ?_) | (refine z8 ?_))
   (refine zZ (.int .u64 (mT b 8 i : Nat)) 51 (c := fun u hS => by exact d7 b _ i _ rfl (by omega)) (r := ?_))
   repeat (refine z8 ?_)
   refine mH (fun wq hq => ?_)
   go_wp2_with fail
   refine mN (St W (w.heap.size + 3) (mJ 0 8 (pU 8 k a b) i)) 8 (by kernel_rfl) (by kernel_rfl) hq.drew ?_
   simp only [zP, zN, zM, zL]
   repeat (first | (refine zK rfl _ rfl _ rfl _ (fun u hS => hS.kb.get hA (by omega)) ?_) | (refine z8 ?_))
   (refine zZ (.int .i64 (sgn 8 (mT a 8 i))) 53 (c := fun u hS => by exact vC a _ i _ rfl (by omega)) (r := ?_))
   repeat (first | (refine zK rfl _ rfl _ rfl _ (fun u hS => hS.kb.get hB (by omega)) ?_) | (refine z8 ?_))
   (refine zZ (.int .i64 (sgn 8 (mT b 8 i))) 53 (c := fun u hS => by exact vC b _ i _ rfl (by omega)) (r := ?_))
   repeat (refine z8 ?_)
   refine mH (fun wp hp => ?_)
   go_wp2_with fail
   refine mN (St W (w.heap.size + 3) (mJ 0 8 (pU 8 k a b) i)) 11 (by kernel_rfl) (by kernel_rfl) hp.drew ?_
   simp only [zP, zN, zM, zL]
   repeat (first | (refine zK rfl _ rfl _ rfl _ (fun u hS => hS.this) ?_) | (refine z8 ?_))
   (refine zZ (.int .u64 ((pU 8 k a b i : Nat) : Int)) 57 (c := fun u hS => by exact HL.out _ _ _ _ _ (mL a 8 i) (mL b 8 i) (sgb8 a i) (sgb8 b i)) (r := ?_))
   (refine zZ (.agg (mY (t7 (mJ 0 8 (pU 8 k a b) i) 8 i (pU 8 k a b i)))) 54 (c := fun u hS => by exact eG _ _ _ i (pU 8 k a b i) _ rfl rfl (by omega)) (r := ?_))
   repeat (refine z8 ?_)
   refine mH (fun wr2 hr => ?_)
   go_wp2_with ((with_reducible refine mK rfl _ _ rfl (w.heap.size + 3) _ rfl rfl _ hr.this ?_; intro wy hy))
   go_roundw
   case rel => exact jL
   case measure => exact xL
  ·obtain rfl : i = 16 := by omega
   exact xP
theorem sgb16 (v : Vec) (i : Nat) : -32768 ≤ sgn 16 (mT v 16 i) ∧ sgn 16 (mT v 16 i) < 32768 := by
 have h : mT v 16 i < 65536 := mL v 16 i
 have hs : sgn 16 (mT v 16 i) = if mT v 16 i < 32768 then (mT v 16 i : Int) else (mT v 16 i : Int) - 65536 := rfl
 rw [hs]; split <;> omega
set_option maxRecDepth 100000 in
theorem sC (op : Int) (k : Nat) (a b : Vec) (w : World) (hk : 14 ≤ k ∧ k ≤ 27)
 (ho : ∀ w, Calls Try.prog 49 #[.int .i64 op] w fun e w' => e = .returned (.tuple #[.int .i64 16, .int .i64 (k : Int)]) ∧ w' = w)
 (hl : ∀ (x y : Nat) (s t : Int) (w : World), x < 65536 → y < 65536 → (-32768 ≤ s ∧ s < 32768) → (-32768 ≤ t ∧ t < 32768) →
  Calls Try.prog 57 #[.int .i64 16, .int .i64 (k : Int), .int .u64 (x : Int), .int .u64 (y : Int), .int .i64 s, .int .i64 t] w fun e w' => e = .returned (.int .u64 ((Pl.u64 (t9 16 k x y s t) : Nat) : Int)) ∧ Below w.heap.size w w') :
 Calls Try.prog 21 #[.int .i64 op, .agg (mY a), .agg (mY b)] w fun e w' => e = .returned (.tuple #[.agg (mY (mJ 0 16 (pU 16 k a b) 8)), .int .i64 0]) ∧ Below w.heap.size w w' := by
 obtain ⟨hk0, hk9⟩ := hk
 have HO := Lib.hid ho
 have HL := Lib.hid hl
 clear ho hl
 go_enter Try.func21, Try.ntmps21
 skip
 go_wp2_with (first | (go_at_call 49; refine (HO.out _).mono ?_; rintro e w' ⟨rfl, rfl⟩) | (go_at_call 50; ((with_reducible refine (rD _).mono ?_); rintro e w' ⟨rfl, rfl⟩)))
 rw [← mU]
 obtain ⟨W, hW, hA, hB, hR, hO, hZ⟩ := zD w a b
 rw [← hW]
 clear hW
 go_loopw [30] (fun j wr => ∃ i : Nat, i ≤ 8 ∧ j = .int .i64 i ∧ St W (w.heap.size + 3) (mJ 0 16 (pU 16 k a b) i) wr) (fun j _ => 8 - (intOf j).toNat)
 case atStart => exact xE
 case round =>
  obtain ⟨i, hi, rfl, hs⟩ := hrel
  by_cases hlt : i < 8
  ·go_wp2_with fail
   refine mN (St W (w.heap.size + 3) (mJ 0 16 (pU 16 k a b) i)) 8 (by kernel_rfl) (by kernel_rfl) hs.drew ?_
   simp only [zP, zN, zM, zL]
   repeat (first | (refine zK rfl _ rfl _ rfl _ (fun u hS => hS.kb.get hA (by omega)) ?_) | (refine z8 ?_))
   (refine zZ (.int .u64 (mT a 16 i : Nat)) 51 (c := fun u hS => by exact fQ a _ i _ rfl (by omega)) (r := ?_))
   repeat (first | (refine zK rfl _ rfl _ rfl _ (fun u hS => hS.kb.get hB (by omega)) ?_) | (refine z8 ?_))
   (refine zZ (.int .u64 (mT b 16 i : Nat)) 51 (c := fun u hS => by exact fQ b _ i _ rfl (by omega)) (r := ?_))
   repeat (refine z8 ?_)
   refine mH (fun wq hq => ?_)
   go_wp2_with fail
   refine mN (St W (w.heap.size + 3) (mJ 0 16 (pU 16 k a b) i)) 8 (by kernel_rfl) (by kernel_rfl) hq.drew ?_
   simp only [zP, zN, zM, zL]
   repeat (first | (refine zK rfl _ rfl _ rfl _ (fun u hS => hS.kb.get hA (by omega)) ?_) | (refine z8 ?_))
   (refine zZ (.int .i64 (sgn 16 (mT a 16 i))) 53 (c := fun u hS => by exact tB a _ i _ rfl (by omega)) (r := ?_))
   repeat (first | (refine zK rfl _ rfl _ rfl _ (fun u hS => hS.kb.get hB (by omega)) ?_) | (refine z8 ?_))
   (refine zZ (.int .i64 (sgn 16 (mT b 16 i))) 53 (c := fun u hS => by exact tB b _ i _ rfl (by omega)) (r := ?_))
   repeat (refine z8 ?_)
   refine mH (fun wp hp => ?_)
   go_wp2_with fail
   refine mN (St W (w.heap.size + 3) (mJ 0 16 (pU 16 k a b) i)) 11 (by kernel_rfl) (by kernel_rfl) hp.drew ?_
   simp only [zP, zN, zM, zL]
   repeat (first | (refine zK rfl _ rfl _ rfl _ (fun u hS => hS.this) ?_) | (refine z8 ?_))
   (refine zZ (.int .u64 ((pU 16 k a b i : Nat) : Int)) 57 (c := fun u hS => by exact HL.out _ _ _ _ _ (mL a 16 i) (mL b 16 i) (sgb16 a i) (sgb16 b i)) (r := ?_))
   (refine zZ (.agg (mY (t7 (mJ 0 16 (pU 16 k a b) i) 16 i (pU 16 k a b i)))) 54 (c := fun u hS => by exact rN _ _ _ i (pU 16 k a b i) _ rfl rfl (by omega)) (r := ?_))
   repeat (refine z8 ?_)
   refine mH (fun wr2 hr => ?_)
   go_wp2_with ((with_reducible refine mK rfl _ _ rfl (w.heap.size + 3) _ rfl rfl _ hr.this ?_; intro wy hy))
   go_roundw
   case rel => exact jL
   case measure => exact xL
  ·obtain rfl : i = 8 := by omega
   exact xP
theorem sgb32 (v : Vec) (i : Nat) : -2147483648 ≤ sgn 32 (mT v 32 i) ∧ sgn 32 (mT v 32 i) < 2147483648 := by
 have h : mT v 32 i < 4294967296 := mL v 32 i
 have hs : sgn 32 (mT v 32 i) = if mT v 32 i < 2147483648 then (mT v 32 i : Int) else (mT v 32 i : Int) - 4294967296 := rfl
 rw [hs]; split <;> omega
set_option maxRecDepth 100000 in
theorem dE (op : Int) (k : Nat) (a b : Vec) (w : World) (hk : 14 ≤ k ∧ k ≤ 27)
 (ho : ∀ w, Calls Try.prog 49 #[.int .i64 op] w fun e w' => e = .returned (.tuple #[.int .i64 32, .int .i64 (k : Int)]) ∧ w' = w)
 (hl : ∀ (x y : Nat) (s t : Int) (w : World), x < 4294967296 → y < 4294967296 → (-2147483648 ≤ s ∧ s < 2147483648) → (-2147483648 ≤ t ∧ t < 2147483648) →
  Calls Try.prog 57 #[.int .i64 32, .int .i64 (k : Int), .int .u64 (x : Int), .int .u64 (y : Int), .int .i64 s, .int .i64 t] w fun e w' => e = .returned (.int .u64 ((Pl.u64 (t9 32 k x y s t) : Nat) : Int)) ∧ Below w.heap.size w w') :
 Calls Try.prog 21 #[.int .i64 op, .agg (mY a), .agg (mY b)] w fun e w' => e = .returned (.tuple #[.agg (mY (mJ 0 32 (pU 32 k a b) 4)), .int .i64 0]) ∧ Below w.heap.size w w' := by
 obtain ⟨hk0, hk9⟩ := hk
 have HO := Lib.hid ho
 have HL := Lib.hid hl
 clear ho hl
 go_enter Try.func21, Try.ntmps21
 skip
 go_wp2_with (first | (go_at_call 49; refine (HO.out _).mono ?_; rintro e w' ⟨rfl, rfl⟩) | (go_at_call 50; ((with_reducible refine (sX _).mono ?_); rintro e w' ⟨rfl, rfl⟩)))
 rw [← mU]
 obtain ⟨W, hW, hA, hB, hR, hO, hZ⟩ := zD w a b
 rw [← hW]
 clear hW
 go_loopw [30] (fun j wr => ∃ i : Nat, i ≤ 4 ∧ j = .int .i64 i ∧ St W (w.heap.size + 3) (mJ 0 32 (pU 32 k a b) i) wr) (fun j _ => 4 - (intOf j).toNat)
 case atStart => exact xE
 case round =>
  obtain ⟨i, hi, rfl, hs⟩ := hrel
  by_cases hlt : i < 4
  ·go_wp2_with fail
   refine mN (St W (w.heap.size + 3) (mJ 0 32 (pU 32 k a b) i)) 8 (by kernel_rfl) (by kernel_rfl) hs.drew ?_
   simp only [zP, zN, zM, zL]
   repeat (first | (refine zK rfl _ rfl _ rfl _ (fun u hS => hS.kb.get hA (by omega)) ?_) | (refine z8 ?_))
   (refine zZ (.int .u64 (mT a 32 i : Nat)) 51 (c := fun u hS => by exact eH a _ i _ rfl (by omega)) (r := ?_))
   repeat (first | (refine zK rfl _ rfl _ rfl _ (fun u hS => hS.kb.get hB (by omega)) ?_) | (refine z8 ?_))
   (refine zZ (.int .u64 (mT b 32 i : Nat)) 51 (c := fun u hS => by exact eH b _ i _ rfl (by omega)) (r := ?_))
   repeat (refine z8 ?_)
   refine mH (fun wq hq => ?_)
   go_wp2_with fail
   refine mN (St W (w.heap.size + 3) (mJ 0 32 (pU 32 k a b) i)) 8 (by kernel_rfl) (by kernel_rfl) hq.drew ?_
   simp only [zP, zN, zM, zL]
   repeat (first | (refine zK rfl _ rfl _ rfl _ (fun u hS => hS.kb.get hA (by omega)) ?_) | (refine z8 ?_))
   (refine zZ (.int .i64 (sgn 32 (mT a 32 i))) 53 (c := fun u hS => by exact v9 a _ i _ rfl (by omega)) (r := ?_))
   repeat (first | (refine zK rfl _ rfl _ rfl _ (fun u hS => hS.kb.get hB (by omega)) ?_) | (refine z8 ?_))
   (refine zZ (.int .i64 (sgn 32 (mT b 32 i))) 53 (c := fun u hS => by exact v9 b _ i _ rfl (by omega)) (r := ?_))
   repeat (refine z8 ?_)
   refine mH (fun wp hp => ?_)
   go_wp2_with fail
   refine mN (St W (w.heap.size + 3) (mJ 0 32 (pU 32 k a b) i)) 11 (by kernel_rfl) (by kernel_rfl) hp.drew ?_
   simp only [zP, zN, zM, zL]
   repeat (first | (refine zK rfl _ rfl _ rfl _ (fun u hS => hS.this) ?_) | (refine z8 ?_))
   (refine zZ (.int .u64 ((pU 32 k a b i : Nat) : Int)) 57 (c := fun u hS => by exact HL.out _ _ _ _ _ (mL a 32 i) (mL b 32 i) (sgb32 a i) (sgb32 b i)) (r := ?_))
   (refine zZ (.agg (mY (t7 (mJ 0 32 (pU 32 k a b) i) 32 i (pU 32 k a b i)))) 54 (c := fun u hS => by exact uK _ _ _ i (pU 32 k a b i) _ rfl rfl (by omega)) (r := ?_))
   repeat (refine z8 ?_)
   refine mH (fun wr2 hr => ?_)
   go_wp2_with ((with_reducible refine mK rfl _ _ rfl (w.heap.size + 3) _ rfl rfl _ hr.this ?_; intro wy hy))
   go_roundw
   case rel => exact jL
   case measure => exact xL
  ·obtain rfl : i = 4 := by omega
   exact xP
theorem sgb64 (v : Vec) (i : Nat) : -9223372036854775808 ≤ sgn 64 (mT v 64 i) ∧ sgn 64 (mT v 64 i) < 9223372036854775808 := by
 have h : mT v 64 i < 18446744073709551616 := mL v 64 i
 have hs : sgn 64 (mT v 64 i) = if mT v 64 i < 9223372036854775808 then (mT v 64 i : Int) else (mT v 64 i : Int) - 18446744073709551616 := rfl
 rw [hs]; split <;> omega
set_option maxRecDepth 100000 in
theorem bin_w64 (op : Int) (k : Nat) (a b : Vec) (w : World) (hk : 14 ≤ k ∧ k ≤ 27)
 (ho : ∀ w, Calls Try.prog 49 #[.int .i64 op] w fun e w' => e = .returned (.tuple #[.int .i64 64, .int .i64 (k : Int)]) ∧ w' = w)
 (hl : ∀ (x y : Nat) (s t : Int) (w : World), x < 18446744073709551616 → y < 18446744073709551616 → (-9223372036854775808 ≤ s ∧ s < 9223372036854775808) → (-9223372036854775808 ≤ t ∧ t < 9223372036854775808) →
  Calls Try.prog 57 #[.int .i64 64, .int .i64 (k : Int), .int .u64 (x : Int), .int .u64 (y : Int), .int .i64 s, .int .i64 t] w fun e w' => e = .returned (.int .u64 ((Pl.u64 (t9 64 k x y s t) : Nat) : Int)) ∧ Below w.heap.size w w') :
 Calls Try.prog 21 #[.int .i64 op, .agg (mY a), .agg (mY b)] w fun e w' => e = .returned (.tuple #[.agg (mY (mJ 0 64 (pU 64 k a b) 2)), .int .i64 0]) ∧ Below w.heap.size w w' := by
 obtain ⟨hk0, hk9⟩ := hk
 have HO := Lib.hid ho
 have HL := Lib.hid hl
 clear ho hl
 go_enter Try.func21, Try.ntmps21
 skip
 go_wp2_with (first | (go_at_call 49; refine (HO.out _).mono ?_; rintro e w' ⟨rfl, rfl⟩) | (go_at_call 50; ((with_reducible refine (sZ _).mono ?_); rintro e w' ⟨rfl, rfl⟩)))
 rw [← mU]
 obtain ⟨W, hW, hA, hB, hR, hO, hZ⟩ := zD w a b
 rw [← hW]
 clear hW
 go_loopw [30] (fun j wr => ∃ i : Nat, i ≤ 2 ∧ j = .int .i64 i ∧ St W (w.heap.size + 3) (mJ 0 64 (pU 64 k a b) i) wr) (fun j _ => 2 - (intOf j).toNat)
 case atStart => exact xE
 case round =>
  obtain ⟨i, hi, rfl, hs⟩ := hrel
  by_cases hlt : i < 2
  ·go_wp2_with fail
   refine mN (St W (w.heap.size + 3) (mJ 0 64 (pU 64 k a b) i)) 8 (by kernel_rfl) (by kernel_rfl) hs.drew ?_
   simp only [zP, zN, zM, zL]
   repeat (first | (refine zK rfl _ rfl _ rfl _ (fun u hS => hS.kb.get hA (by omega)) ?_) | (refine z8 ?_))
   (refine zZ (.int .u64 (mT a 64 i : Nat)) 51 (c := fun u hS => by exact dL a _ i _ rfl (by omega)) (r := ?_))
   repeat (first | (refine zK rfl _ rfl _ rfl _ (fun u hS => hS.kb.get hB (by omega)) ?_) | (refine z8 ?_))
   (refine zZ (.int .u64 (mT b 64 i : Nat)) 51 (c := fun u hS => by exact dL b _ i _ rfl (by omega)) (r := ?_))
   repeat (refine z8 ?_)
   refine mH (fun wq hq => ?_)
   go_wp2_with fail
   refine mN (St W (w.heap.size + 3) (mJ 0 64 (pU 64 k a b) i)) 8 (by kernel_rfl) (by kernel_rfl) hq.drew ?_
   simp only [zP, zN, zM, zL]
   repeat (first | (refine zK rfl _ rfl _ rfl _ (fun u hS => hS.kb.get hA (by omega)) ?_) | (refine z8 ?_))
   (refine zZ (.int .i64 (sgn 64 (mT a 64 i))) 53 (c := fun u hS => by exact s7 a _ i _ rfl (by omega)) (r := ?_))
   repeat (first | (refine zK rfl _ rfl _ rfl _ (fun u hS => hS.kb.get hB (by omega)) ?_) | (refine z8 ?_))
   (refine zZ (.int .i64 (sgn 64 (mT b 64 i))) 53 (c := fun u hS => by exact s7 b _ i _ rfl (by omega)) (r := ?_))
   repeat (refine z8 ?_)
   refine mH (fun wp hp => ?_)
   go_wp2_with fail
   refine mN (St W (w.heap.size + 3) (mJ 0 64 (pU 64 k a b) i)) 11 (by kernel_rfl) (by kernel_rfl) hp.drew ?_
   simp only [zP, zN, zM, zL]
   repeat (first | (refine zK rfl _ rfl _ rfl _ (fun u hS => hS.this) ?_) | (refine z8 ?_))
   (refine zZ (.int .u64 ((pU 64 k a b i : Nat) : Int)) 57 (c := fun u hS => by exact HL.out _ _ _ _ _ (mL a 64 i) (mL b 64 i) (sgb64 a i) (sgb64 b i)) (r := ?_))
   (refine zZ (.agg (mY (t7 (mJ 0 64 (pU 64 k a b) i) 64 i (pU 64 k a b i)))) 54 (c := fun u hS => by exact fD _ _ _ i (pU 64 k a b i) _ rfl rfl (by omega)) (r := ?_))
   repeat (refine z8 ?_)
   refine mH (fun wr2 hr => ?_)
   go_wp2_with ((with_reducible refine mK rfl _ _ rfl (w.heap.size + 3) _ rfl rfl _ hr.this ?_; intro wy hy))
   go_roundw
   case rel => exact jL
   case measure => exact xL
  ·obtain rfl : i = 2 := by omega
   exact xP
end Go.Proofs.Ytcpfabkokgiepaa
end
section
namespace Go.Proofs.Ytcpfabkokgiepaa
open Go.RowKit Pl
end Go.Proofs.Ytcpfabkokgiepaa
namespace Pl
def vV (w : Nat) (k : Int) (a b : Vec) (i : Nat) : Nat := if r4 k (sgn w (mT a w i)) (sgn w (mT b w i)) = true then 18446744073709551615 else 0
theorem lit_ones : (18446744073709551615 : Int) = ((18446744073709551615 : Nat) : Int) := rfl
theorem msk_yes (w : Nat) (k : Int) (a b : Vec) (i : Nat) (h : r4 k (sgn w (mT a w i)) (sgn w (mT b w i)) = true) : vV w k a b i = 18446744073709551615 := if_pos h
theorem setN_same (v : Vec) (w i : Nat) (h : i < 128 / w) : t7 v w i (mT v w i) = v := by
 apply fS
 intro j _
 unfold t7 mT
 rw [pQ _ _ _ _ _ (lane_in h), mA]
 split
 ·rename_i h2
  rw [decide_eq_true (by omega), show w * i + (j - w * i) = j by omega]; rfl
 ·rfl
theorem msk_no (w : Nat) (k : Int) (a b : Vec) (i : Nat) (hi : i < 128 / w) (h : r4 k (sgn w (mT a w i)) (sgn w (mT b w i)) = false) : mJ 0 w (vV w k a b) (i + 1) = mJ 0 w (vV w k a b) i := by
 have hm : vV w k a b i = 0 := by unfold vV; rw [if_neg (by rw [h]; decide)]
 have hz : mT (mJ 0 w (vV w k a b) i) w i = 0 := wW
 have hs := setN_same (mJ 0 w (vV w k a b) i) w i hi
 rw [mJ, hm]
 rw [hz] at hs
 exact hs
end Pl
namespace Go.Proofs.Ytcpfabkokgiepaa
open Go.RowKit Pl
theorem holds_t {k s t : Int} (h : r4 k s t = true) (w : World) : Calls Try.prog 60 #[.int .i64 k, .int .i64 s, .int .i64 t] w fun e w' => e = .returned (.bool true) ∧ w' = w := by
 have := holds_any k s t w; rw [h] at this; exact this
theorem holds_f {k s t : Int} (h : r4 k s t = false) (w : World) : Calls Try.prog 60 #[.int .i64 k, .int .i64 s, .int .i64 t] w fun e w' => e = .returned (.bool false) ∧ w' = w := by
 have := holds_any k s t w; rw [h] at this; exact this
set_option maxRecDepth 100000 in
theorem cmp_w8 (op k : Int) (a b : Vec) (w : World) (hk : 0 ≤ k ∧ k ≤ 9) (ho : ∀ w, Calls Try.prog 59 #[.int .i64 op] w fun e w' => e = .returned (.tuple #[.int .i64 8, .int .i64 k]) ∧ w' = w) :
 Calls Try.prog 23 #[.int .i64 op, .agg (mY a), .agg (mY b)] w fun e w' => e = .returned (.tuple #[.agg (mY (mJ 0 8 (vV 8 k a b) 16)), .int .i64 0]) ∧ Below w.heap.size w w' := by
 obtain ⟨hk0, hk9⟩ := hk
 have HO := Lib.hid ho
 clear ho
 go_enter Try.func23, Try.ntmps23
 go_wp2_with (first | (go_at_call 59; refine (HO.out _).mono ?_; rintro e w' ⟨rfl, rfl⟩) | (go_at_call 50; ((with_reducible refine (sL _).mono ?_); rintro e w' ⟨rfl, rfl⟩)))
 rw [← mU]
 obtain ⟨W, hW, hA, hB, hR, hO, hZ⟩ := zD w a b
 rw [← hW]
 clear hW
 go_loopw [22] (fun j wr => ∃ i : Nat, i ≤ 16 ∧ j = .int .i64 i ∧ St W (w.heap.size + 3) (mJ 0 8 (vV 8 k a b) i) wr) (fun j _ => 16 - (intOf j).toNat)
 case atStart => exact xE
 case round =>
  obtain ⟨i, hi, rfl, hs⟩ := hrel
  by_cases hlt : i < 16
  ·rcases (show r4 k (sgn 8 (mT a 8 i)) (sgn 8 (mT b 8 i)) = true ∨ r4 k (sgn 8 (mT a 8 i)) (sgn 8 (mT b 8 i)) = false from by cases r4 k (sgn 8 (mT a 8 i)) (sgn 8 (mT b 8 i)) <;> simp) with hh | hh
   ·have HH := Lib.hid (holds_t hh)
    have HM : mJ 0 8 (vV 8 k a b) (i + 1) = t7 (mJ 0 8 (vV 8 k a b) i) 8 i 18446744073709551615 := by rw [mJ, msk_yes 8 k a b i hh]
    have HM2 := Lib.hid HM
    clear hh HM
    go_wp2_with fail
    refine mN (St W (w.heap.size + 3) (mJ 0 8 (vV 8 k a b) i)) 9 (by kernel_rfl) (by kernel_rfl) hs.drew ?_
    simp only [zP, zN, zM, zL]
    repeat (first | (refine zK rfl _ rfl _ rfl _ (fun u hS => hS.kb.get hA (by omega)) ?_) | (refine z8 ?_))
    (refine zZ (.int .i64 (sgn 8 (mT a 8 i))) 53 (c := fun u hS => by exact vC a _ i _ rfl (by omega)) (r := ?_))
    repeat (first | (refine zK rfl _ rfl _ rfl _ (fun u hS => hS.kb.get hB (by omega)) ?_) | (refine z8 ?_))
    (refine zZ (.int .i64 (sgn 8 (mT b 8 i))) 53 (c := fun u hS => by exact vC b _ i _ rfl (by omega)) (r := ?_))
    repeat (refine z8 ?_)
    refine mH (fun wq hq => ?_)
    go_wp2_with (first | (go_at_call 60; refine (HH.out _).mono ?_; rintro e w' ⟨rfl, rfl⟩) | (with_reducible refine mG rfl _ rfl _ rfl _ hq.this ?_) | (go_at_call 54; (with_reducible refine (eG _ _ _ i 18446744073709551615 _ rfl lit_ones (by omega)).mono ?_); rintro e u2 ⟨rfl, hb⟩; have hr := hq.below hb) | (with_reducible refine mK rfl _ _ rfl (w.heap.size + 3) _ rfl rfl _ hr.this ?_; intro wy hy))
    go_roundw
    case rel => exact jW
    case measure => exact xL
   ·have HH := Lib.hid (holds_f hh)
    have HM2 := Lib.hid (msk_no 8 k a b i (by omega) hh)
    clear hh
    go_wp2_with fail
    refine mN (St W (w.heap.size + 3) (mJ 0 8 (vV 8 k a b) i)) 9 (by kernel_rfl) (by kernel_rfl) hs.drew ?_
    simp only [zP, zN, zM, zL]
    repeat (first | (refine zK rfl _ rfl _ rfl _ (fun u hS => hS.kb.get hA (by omega)) ?_) | (refine z8 ?_))
    (refine zZ (.int .i64 (sgn 8 (mT a 8 i))) 53 (c := fun u hS => by exact vC a _ i _ rfl (by omega)) (r := ?_))
    repeat (first | (refine zK rfl _ rfl _ rfl _ (fun u hS => hS.kb.get hB (by omega)) ?_) | (refine z8 ?_))
    (refine zZ (.int .i64 (sgn 8 (mT b 8 i))) 53 (c := fun u hS => by exact vC b _ i _ rfl (by omega)) (r := ?_))
    repeat (refine z8 ?_)
    refine mH (fun wq hq => ?_)
    go_wp2_with (go_at_call 60; refine (HH.out _).mono ?_; rintro e w' ⟨rfl, rfl⟩)
    go_roundw
    case rel => exact jG
    case measure => exact xL
  ·obtain rfl : i = 16 := by omega
   exact xP
set_option maxRecDepth 100000 in
theorem cmp_w16 (op k : Int) (a b : Vec) (w : World) (hk : 0 ≤ k ∧ k ≤ 9) (ho : ∀ w, Calls Try.prog 59 #[.int .i64 op] w fun e w' => e = .returned (.tuple #[.int .i64 16, .int .i64 k]) ∧ w' = w) :
 Calls Try.prog 23 #[.int .i64 op, .agg (mY a), .agg (mY b)] w fun e w' => e = .returned (.tuple #[.agg (mY (mJ 0 16 (vV 16 k a b) 8)), .int .i64 0]) ∧ Below w.heap.size w w' := by
 obtain ⟨hk0, hk9⟩ := hk
 have HO := Lib.hid ho
 clear ho
 go_enter Try.func23, Try.ntmps23
 go_wp2_with (first | (go_at_call 59; refine (HO.out _).mono ?_; rintro e w' ⟨rfl, rfl⟩) | (go_at_call 50; ((with_reducible refine (rD _).mono ?_); rintro e w' ⟨rfl, rfl⟩)))
 rw [← mU]
 obtain ⟨W, hW, hA, hB, hR, hO, hZ⟩ := zD w a b
 rw [← hW]
 clear hW
 go_loopw [22] (fun j wr => ∃ i : Nat, i ≤ 8 ∧ j = .int .i64 i ∧ St W (w.heap.size + 3) (mJ 0 16 (vV 16 k a b) i) wr) (fun j _ => 8 - (intOf j).toNat)
 case atStart => exact xE
 case round =>
  obtain ⟨i, hi, rfl, hs⟩ := hrel
  by_cases hlt : i < 8
  ·rcases (show r4 k (sgn 16 (mT a 16 i)) (sgn 16 (mT b 16 i)) = true ∨ r4 k (sgn 16 (mT a 16 i)) (sgn 16 (mT b 16 i)) = false from by cases r4 k (sgn 16 (mT a 16 i)) (sgn 16 (mT b 16 i)) <;> simp) with hh | hh
   ·have HH := Lib.hid (holds_t hh)
    have HM : mJ 0 16 (vV 16 k a b) (i + 1) = t7 (mJ 0 16 (vV 16 k a b) i) 16 i 18446744073709551615 := by rw [mJ, msk_yes 16 k a b i hh]
    have HM2 := Lib.hid HM
    clear hh HM
    go_wp2_with fail
    refine mN (St W (w.heap.size + 3) (mJ 0 16 (vV 16 k a b) i)) 9 (by kernel_rfl) (by kernel_rfl) hs.drew ?_
    simp only [zP, zN, zM, zL]
    repeat (first | (refine zK rfl _ rfl _ rfl _ (fun u hS => hS.kb.get hA (by omega)) ?_) | (refine z8 ?_))
    (refine zZ (.int .i64 (sgn 16 (mT a 16 i))) 53 (c := fun u hS => by exact tB a _ i _ rfl (by omega)) (r := ?_))
    repeat (first | (refine zK rfl _ rfl _ rfl _ (fun u hS => hS.kb.get hB (by omega)) ?_) | (refine z8 ?_))
    (refine zZ (.int .i64 (sgn 16 (mT b 16 i))) 53 (c := fun u hS => by exact tB b _ i _ rfl (by omega)) (r := ?_))
    repeat (refine z8 ?_)
    refine mH (fun wq hq => ?_)
    go_wp2_with (first | (go_at_call 60; refine (HH.out _).mono ?_; rintro e w' ⟨rfl, rfl⟩) | (with_reducible refine mG rfl _ rfl _ rfl _ hq.this ?_) | (go_at_call 54; (with_reducible refine (rN _ _ _ i 18446744073709551615 _ rfl lit_ones (by omega)).mono ?_); rintro e u2 ⟨rfl, hb⟩; have hr := hq.below hb) | (with_reducible refine mK rfl _ _ rfl (w.heap.size + 3) _ rfl rfl _ hr.this ?_; intro wy hy))
    go_roundw
    case rel => exact jW
    case measure => exact xL
   ·have HH := Lib.hid (holds_f hh)
    have HM2 := Lib.hid (msk_no 16 k a b i (by omega) hh)
    clear hh
    go_wp2_with fail
    refine mN (St W (w.heap.size + 3) (mJ 0 16 (vV 16 k a b) i)) 9 (by kernel_rfl) (by kernel_rfl) hs.drew ?_
    simp only [zP, zN, zM, zL]
    repeat (first | (refine zK rfl _ rfl _ rfl _ (fun u hS => hS.kb.get hA (by omega)) ?_) | (refine z8 ?_))
    (refine zZ (.int .i64 (sgn 16 (mT a 16 i))) 53 (c := fun u hS => by exact tB a _ i _ rfl (by omega)) (r := ?_))
    repeat (first | (refine zK rfl _ rfl _ rfl _ (fun u hS => hS.kb.get hB (by omega)) ?_) | (refine z8 ?_))
    (refine zZ (.int .i64 (sgn 16 (mT b 16 i))) 53 (c := fun u hS => by exact tB b _ i _ rfl (by omega)) (r := ?_))
    repeat (refine z8 ?_)
    refine mH (fun wq hq => ?_)
    go_wp2_with (go_at_call 60; refine (HH.out _).mono ?_; rintro e w' ⟨rfl, rfl⟩)
    go_roundw
    case rel => exact jG
    case measure => exact xL
  ·obtain rfl : i = 8 := by omega
   exact xP
set_option maxRecDepth 100000 in
theorem cmp_w32 (op k : Int) (a b : Vec) (w : World) (hk : 0 ≤ k ∧ k ≤ 9) (ho : ∀ w, Calls Try.prog 59 #[.int .i64 op] w fun e w' => e = .returned (.tuple #[.int .i64 32, .int .i64 k]) ∧ w' = w) :
 Calls Try.prog 23 #[.int .i64 op, .agg (mY a), .agg (mY b)] w fun e w' => e = .returned (.tuple #[.agg (mY (mJ 0 32 (vV 32 k a b) 4)), .int .i64 0]) ∧ Below w.heap.size w w' := by
 obtain ⟨hk0, hk9⟩ := hk
 have HO := Lib.hid ho
 clear ho
 go_enter Try.func23, Try.ntmps23
 go_wp2_with (first | (go_at_call 59; refine (HO.out _).mono ?_; rintro e w' ⟨rfl, rfl⟩) | (go_at_call 50; ((with_reducible refine (sX _).mono ?_); rintro e w' ⟨rfl, rfl⟩)))
 rw [← mU]
 obtain ⟨W, hW, hA, hB, hR, hO, hZ⟩ := zD w a b
 rw [← hW]
 clear hW
 go_loopw [22] (fun j wr => ∃ i : Nat, i ≤ 4 ∧ j = .int .i64 i ∧ St W (w.heap.size + 3) (mJ 0 32 (vV 32 k a b) i) wr) (fun j _ => 4 - (intOf j).toNat)
 case atStart => exact xE
 case round =>
  obtain ⟨i, hi, rfl, hs⟩ := hrel
  by_cases hlt : i < 4
  ·rcases (show r4 k (sgn 32 (mT a 32 i)) (sgn 32 (mT b 32 i)) = true ∨ r4 k (sgn 32 (mT a 32 i)) (sgn 32 (mT b 32 i)) = false from by cases r4 k (sgn 32 (mT a 32 i)) (sgn 32 (mT b 32 i)) <;> simp) with hh | hh
   ·have HH := Lib.hid (holds_t hh)
    have HM : mJ 0 32 (vV 32 k a b) (i + 1) = t7 (mJ 0 32 (vV 32 k a b) i) 32 i 18446744073709551615 := by rw [mJ, msk_yes 32 k a b i hh]
    have HM2 := Lib.hid HM
    clear hh HM
    go_wp2_with fail
    refine mN (St W (w.heap.size + 3) (mJ 0 32 (vV 32 k a b) i)) 9 (by kernel_rfl) (by kernel_rfl) hs.drew ?_
    simp only [zP, zN, zM, zL]
    repeat (first | (refine zK rfl _ rfl _ rfl _ (fun u hS => hS.kb.get hA (by omega)) ?_) | (refine z8 ?_))
    (refine zZ (.int .i64 (sgn 32 (mT a 32 i))) 53 (c := fun u hS => by exact v9 a _ i _ rfl (by omega)) (r := ?_))
    repeat (first | (refine zK rfl _ rfl _ rfl _ (fun u hS => hS.kb.get hB (by omega)) ?_) | (refine z8 ?_))
    (refine zZ (.int .i64 (sgn 32 (mT b 32 i))) 53 (c := fun u hS => by exact v9 b _ i _ rfl (by omega)) (r := ?_))
    repeat (refine z8 ?_)
    refine mH (fun wq hq => ?_)
    go_wp2_with (first | (go_at_call 60; refine (HH.out _).mono ?_; rintro e w' ⟨rfl, rfl⟩) | (with_reducible refine mG rfl _ rfl _ rfl _ hq.this ?_) | (go_at_call 54; (with_reducible refine (uK _ _ _ i 18446744073709551615 _ rfl lit_ones (by omega)).mono ?_); rintro e u2 ⟨rfl, hb⟩; have hr := hq.below hb) | (with_reducible refine mK rfl _ _ rfl (w.heap.size + 3) _ rfl rfl _ hr.this ?_; intro wy hy))
    go_roundw
    case rel => exact jW
    case measure => exact xL
   ·have HH := Lib.hid (holds_f hh)
    have HM2 := Lib.hid (msk_no 32 k a b i (by omega) hh)
    clear hh
    go_wp2_with fail
    refine mN (St W (w.heap.size + 3) (mJ 0 32 (vV 32 k a b) i)) 9 (by kernel_rfl) (by kernel_rfl) hs.drew ?_
    simp only [zP, zN, zM, zL]
    repeat (first | (refine zK rfl _ rfl _ rfl _ (fun u hS => hS.kb.get hA (by omega)) ?_) | (refine z8 ?_))
    (refine zZ (.int .i64 (sgn 32 (mT a 32 i))) 53 (c := fun u hS => by exact v9 a _ i _ rfl (by omega)) (r := ?_))
    repeat (first | (refine zK rfl _ rfl _ rfl _ (fun u hS => hS.kb.get hB (by omega)) ?_) | (refine z8 ?_))
    (refine zZ (.int .i64 (sgn 32 (mT b 32 i))) 53 (c := fun u hS => by exact v9 b _ i _ rfl (by omega)) (r := ?_))
    repeat (refine z8 ?_)
    refine mH (fun wq hq => ?_)
    go_wp2_with (go_at_call 60; refine (HH.out _).mono ?_; rintro e w' ⟨rfl, rfl⟩)
    go_roundw
    case rel => exact jG
    case measure => exact xL
  ·obtain rfl : i = 4 := by omega
   exact xP
set_option maxRecDepth 100000 in
theorem cmp_w64 (op k : Int) (a b : Vec) (w : World) (hk : 0 ≤ k ∧ k ≤ 9) (ho : ∀ w, Calls Try.prog 59 #[.int .i64 op] w fun e w' => e = .returned (.tuple #[.int .i64 64, .int .i64 k]) ∧ w' = w.drew) :
 Calls Try.prog 23 #[.int .i64 op, .agg (mY a), .agg (mY b)] w fun e w' => e = .returned (.tuple #[.agg (mY (mJ 0 64 (vV 64 k a b) 2)), .int .i64 0]) ∧ Below w.heap.size w w' := by
 obtain ⟨hk0, hk9⟩ := hk
 have HO := Lib.hid ho
 clear ho
 go_enter Try.func23, Try.ntmps23
 go_wp2_with (first | (go_at_call 59; refine (HO.out _).mono ?_; rintro e w' ⟨rfl, rfl⟩) | (go_at_call 50; ((with_reducible refine (sZ _).mono ?_); rintro e w' ⟨rfl, rfl⟩)))
 rw [← mU]
 obtain ⟨W, hW, hA, hB, hR, hO⟩ := zB w a b
 have hZ : Below w.heap.size w W := by rw [hW]; exact Below.drew (vY _ _ _ _ _)
 rw [← hW]
 clear hW
 go_loopw [22] (fun j wr => ∃ i : Nat, i ≤ 2 ∧ j = .int .i64 i ∧ St W (w.heap.size + 3) (mJ 0 64 (vV 64 k a b) i) wr) (fun j _ => 2 - (intOf j).toNat)
 case atStart => exact xE
 case round =>
  obtain ⟨i, hi, rfl, hs⟩ := hrel
  by_cases hlt : i < 2
  ·rcases (show r4 k (sgn 64 (mT a 64 i)) (sgn 64 (mT b 64 i)) = true ∨ r4 k (sgn 64 (mT a 64 i)) (sgn 64 (mT b 64 i)) = false from by cases r4 k (sgn 64 (mT a 64 i)) (sgn 64 (mT b 64 i)) <;> simp) with hh | hh
   ·have HH := Lib.hid (holds_t hh)
    have HM : mJ 0 64 (vV 64 k a b) (i + 1) = t7 (mJ 0 64 (vV 64 k a b) i) 64 i 18446744073709551615 := by rw [mJ, msk_yes 64 k a b i hh]
    have HM2 := Lib.hid HM
    clear hh HM
    go_wp2_with fail
    refine mN (St W (w.heap.size + 3) (mJ 0 64 (vV 64 k a b) i)) 9 (by kernel_rfl) (by kernel_rfl) hs.drew ?_
    simp only [zP, zN, zM, zL]
    repeat (first | (refine zK rfl _ rfl _ rfl _ (fun u hS => hS.kb.get hA (by omega)) ?_) | (refine z8 ?_))
    (refine zZ (.int .i64 (sgn 64 (mT a 64 i))) 53 (c := fun u hS => by exact s7 a _ i _ rfl (by omega)) (r := ?_))
    repeat (first | (refine zK rfl _ rfl _ rfl _ (fun u hS => hS.kb.get hB (by omega)) ?_) | (refine z8 ?_))
    (refine zZ (.int .i64 (sgn 64 (mT b 64 i))) 53 (c := fun u hS => by exact s7 b _ i _ rfl (by omega)) (r := ?_))
    repeat (refine z8 ?_)
    refine mH (fun wq hq => ?_)
    go_wp2_with (first | (go_at_call 60; refine (HH.out _).mono ?_; rintro e w' ⟨rfl, rfl⟩) | (with_reducible refine mG rfl _ rfl _ rfl _ hq.this ?_) | (go_at_call 54; (with_reducible refine (fD _ _ _ i 18446744073709551615 _ rfl lit_ones (by omega)).mono ?_); rintro e u2 ⟨rfl, hb⟩; have hr := hq.below hb) | (with_reducible refine mK rfl _ _ rfl (w.heap.size + 3) _ rfl rfl _ hr.this ?_; intro wy hy))
    go_roundw
    case rel => exact jW
    case measure => exact xL
   ·have HH := Lib.hid (holds_f hh)
    have HM2 := Lib.hid (msk_no 64 k a b i (by omega) hh)
    clear hh
    go_wp2_with fail
    refine mN (St W (w.heap.size + 3) (mJ 0 64 (vV 64 k a b) i)) 9 (by kernel_rfl) (by kernel_rfl) hs.drew ?_
    simp only [zP, zN, zM, zL]
    repeat (first | (refine zK rfl _ rfl _ rfl _ (fun u hS => hS.kb.get hA (by omega)) ?_) | (refine z8 ?_))
    (refine zZ (.int .i64 (sgn 64 (mT a 64 i))) 53 (c := fun u hS => by exact s7 a _ i _ rfl (by omega)) (r := ?_))
    repeat (first | (refine zK rfl _ rfl _ rfl _ (fun u hS => hS.kb.get hB (by omega)) ?_) | (refine z8 ?_))
    (refine zZ (.int .i64 (sgn 64 (mT b 64 i))) 53 (c := fun u hS => by exact s7 b _ i _ rfl (by omega)) (r := ?_))
    repeat (refine z8 ?_)
    refine mH (fun wq hq => ?_)
    go_wp2_with (go_at_call 60; refine (HH.out _).mono ?_; rintro e w' ⟨rfl, rfl⟩)
    go_roundw
    case rel => exact jG
    case measure => exact xL
  ·obtain rfl : i = 2 := by omega
   exact xP
theorem heap_z3 (w : World) (A B : Obj) (t : TypeId) : (((w.alloc A).alloc B).alloc (.cells #[.int .u8 0, .int .u8 0, .int .u8 0, .int .u8 0, .int .u8 0, .int .u8 0, .int .u8 0, .int .u8 0, .int .u8 0, .int .u8 0, .int .u8 0, .int .u8 0, .int .u8 0, .int .u8 0, .int .u8 0, .int .u8 0] t)).heap[w.heap.size + 2]? = some (.cells (mY 0) t (0, 0)) := by
 rw [mU]; exact pK _ _ _ _
theorem cmp_none (op κ : Int) (a b : Vec) (w : World) (hκ : wrap64 (op - 64768) = κ) (h : κ < 35 ∨ 65 ≤ κ ∧ κ < 214 ∨ 220 ≤ κ) :
 Calls Try.prog 23 #[.int .i64 op, .agg (mY a), .agg (mY b)] w fun e w' => e = .returned (.tuple #[.agg (mY 0), .int .i64 1]) ∧ Below w.heap.size w w' := by
 have H := Lib.hid (fun w => order_none op κ w hκ h)
 clear hκ h
 go_enter Try.func23, Try.ntmps23
 go_wp2_with (first | (go_at_call 59; refine (H.out _).mono ?_; rintro e w' ⟨rfl, rfl⟩))
 exact bodyPost_ret (mS rfl _ _ (w.heap.size + 2) _ _ rfl rfl (heap_z3 w _ _ _)) rfl ⟨rfl, pL _ _ _ _⟩
end Go.Proofs.Ytcpfabkokgiepaa
namespace Pl
def d9 (op : Int) (a b : Vec) : Vec × Int :=
 if 64803 ≤ op ∧ op < 64813 then (mJ 0 8 (vV 8 (op - 64803) a b) 16, 0)
 else if 64813 ≤ op ∧ op < 64823 then (mJ 0 16 (vV 16 (op - 64813) a b) 8, 0)
 else if 64823 ≤ op ∧ op < 64833 then (mJ 0 32 (vV 32 (op - 64823) a b) 4, 0)
 else if op = 64982 then (mJ 0 64 (vV 64 0 a b) 2, 0)
 else if op = 64983 then (mJ 0 64 (vV 64 1 a b) 2, 0)
 else if op = 64984 then (mJ 0 64 (vV 64 2 a b) 2, 0)
 else if op = 64985 then (mJ 0 64 (vV 64 4 a b) 2, 0)
 else if op = 64986 then (mJ 0 64 (vV 64 6 a b) 2, 0)
 else if op = 64987 then (mJ 0 64 (vV 64 8 a b) 2, 0)
 else (0, 1)
end Pl
namespace Go.Proofs.Ytcpfabkokgiepaa
open Go.RowKit Pl
theorem cmp_any (op : Int) (a b : Vec) (w : World) (ho : -9223372036854775808 ≤ op ∧ op ≤ 9223372036854775807) :
 Calls Try.prog 23 #[.int .i64 op, .agg (mY a), .agg (mY b)] w fun e w' => e = .returned (.tuple #[.agg (mY (d9 op a b).1), .int .i64 (d9 op a b).2]) ∧ Below w.heap.size w w' := by
 unfold d9
 split
 ·rename_i h
  obtain ⟨c, hc, rfl⟩ : ∃ c : Nat, c < 10 ∧ op = 64803 + (c : Int) := ⟨(op - 64803).toNat, by omega, by omega⟩
  rw [show (64803 : Int) + (c : Int) - 64803 = c by omega]
  exact cmp_w8 _ c a b w (by omega) fun w => order_row0 c w hc
 split
 ·rename_i h
  obtain ⟨c, hc, rfl⟩ : ∃ c : Nat, c < 10 ∧ op = 64813 + (c : Int) := ⟨(op - 64813).toNat, by omega, by omega⟩
  rw [show (64813 : Int) + (c : Int) - 64813 = c by omega]
  exact cmp_w16 _ c a b w (by omega) fun w => order_row1 c w hc
 split
 ·rename_i h
  obtain ⟨c, hc, rfl⟩ : ∃ c : Nat, c < 10 ∧ op = 64823 + (c : Int) := ⟨(op - 64823).toNat, by omega, by omega⟩
  rw [show (64823 : Int) + (c : Int) - 64823 = c by omega]
  exact cmp_w32 _ c a b w (by omega) fun w => order_row2 c w hc
 split
 ·rename_i h; subst h; exact cmp_w64 _ 0 a b w (by omega) order_64_0
 split
 ·rename_i h; subst h; exact cmp_w64 _ 1 a b w (by omega) order_64_1
 split
 ·rename_i h; subst h; exact cmp_w64 _ 2 a b w (by omega) order_64_2
 split
 ·rename_i h; subst h; exact cmp_w64 _ 4 a b w (by omega) order_64_3
 split
 ·rename_i h; subst h; exact cmp_w64 _ 6 a b w (by omega) order_64_4
 split
 ·rename_i h; subst h; exact cmp_w64 _ 8 a b w (by omega) order_64_5
 ·exact cmp_none op _ a b w rfl (by unfold wrap64; omega)
end Go.Proofs.Ytcpfabkokgiepaa
end
section
namespace Pl
open Go
theorem mul_mod2 (w x y : Nat) (hw : w ≤ 64) : x * y % 2 ^ 64 % 2 ^ w = (x % 2 ^ w) * (y % 2 ^ w) % 2 ^ 64 % 2 ^ w := by
 rw [Nat.mod_mod_of_dvd _ (Nat.pow_dvd_pow 2 hw), Nat.mod_mod_of_dvd _ (Nat.pow_dvd_pow 2 hw), ← Nat.mul_mod]
theorem mul_rows (w c n : Nat) (a b : Vec) (h1 : 2 * w ≤ 64) (hn : n ≤ 128 / (2 * w)) :
 mJ 0 (2 * w) (e7 w c a b) n = mJ 0 (2 * w) (tK (2 * w) (mJ 0 (2 * w) (tG a w c) n) (mJ 0 (2 * w) (tG b w c) n)) n := by
 refine buildOn_congr _ _ _ _ _ fun i hi => ?_
 unfold e7 tK
 rw [pX _ _ _ _ _ hn, pX _ _ _ _ _ hn, if_pos hi, if_pos hi]
 exact mul_mod2 _ _ _ h1
theorem nar_eq (w n : Nat) (lo hi : Int) (a b : Vec) (hw : 0 < w) (h : w * (2 * n) = 128) :
 pW w n (tZ lo hi (2 * w) a) (tZ lo hi (2 * w) b) n = mJ 0 w (tD w n lo hi a b) (2 * n) := by
 have h2 : 2 * n = 128 / w := by rw [← h, Nat.mul_div_cancel_left _ hw]
 refine rL w (2 * n) hw h fun i hi => ?_
 rw [getN_nbuild _ _ _ _ h2 _ _ (Nat.le_refl _), pX _ _ _ _ _ (by omega), if_pos hi]
 unfold tD tZ
 by_cases h3 : i < n
 ·rw [if_pos h3, if_pos h3]
 ·rw [if_neg h3, if_pos ⟨by omega, by omega⟩, if_neg h3]
theorem q15_eq (a b : Vec) (i : Nat) : q15N a b i = uV a b i := by
 unfold q15N uV
 have h := fA _ _ (rZ _ (mL a 16 i)) (rZ _ (mL b 16 i))
 rw [show max ((sgn 16 (mT a 16 i) * sgn 16 (mT b 16 i) + 16384) / 32768) (-32768) = (sgn 16 (mT a 16 i) * sgn 16 (mT b 16 i) + 16384) / 32768 by omega]
theorem rdot_lane (a b : Vec) : ∀ (k j : Nat), k ≤ 8 → j < 4 →
 ((mT (rdot a b k) 32 j : Nat) : Int) = ((if 2 * j < k then sgn 16 (mT a 16 (2 * j)) * sgn 16 (mT b 16 (2 * j)) else 0) + (if 2 * j + 1 < k then sgn 16 (mT a 16 (2 * j + 1)) * sgn 16 (mT b 16 (2 * j + 1)) else 0)) % 4294967296 := by
 intro k
 induction k with
 | zero => intro j _ _; simp [rdot, mT, tW]
 | succ k ih =>
   intro j hk hj
   rw [rdot, uY _ _ _ _ _ (by omega)]
   by_cases e : j = k / 2
   ·rw [if_pos e]
    have h := ih j (by omega) hj
    unfold rdot.rdN
    rw [← e]
    have hm := fA _ _ (rZ _ (mL a 16 k)) (rZ _ (mL b 16 k))
    have e32 : (2 : Nat) ^ 32 = 4294967296 := by decide
    have e64 : (2 : Nat) ^ 64 = 18446744073709551616 := by decide
    rw [e32, e64]
    by_cases ev : k = 2 * j
    ·rw [if_neg (by omega), if_neg (by omega)] at h
     rw [if_pos (by omega), if_neg (by omega)]
     rw [← ev]
     generalize sgn 16 (mT a 16 k) * sgn 16 (mT b 16 k) = p at *
     unfold u64
     omega
    ·have ek : k = 2 * j + 1 := by omega
     rw [if_pos (by omega), if_neg (by omega)] at h
     rw [if_pos (by omega), if_pos (by omega)]
     rw [← ek]
     generalize sgn 16 (mT a 16 k) * sgn 16 (mT b 16 k) = p at *
     generalize sgn 16 (mT a 16 (2 * j)) * sgn 16 (mT b 16 (2 * j)) = q at *
     unfold u64
     omega
   ·rw [if_neg e, ih j (by omega) hj]
    by_cases h1 : 2 * j < k
    ·rw [if_pos h1, if_pos (show 2 * j + 1 < k by omega), if_pos (show 2 * j < k + 1 by omega), if_pos (show 2 * j + 1 < k + 1 by omega)]
    ·rw [if_neg h1, if_neg (show ¬ 2 * j + 1 < k by omega), if_neg (show ¬ 2 * j < k + 1 by omega), if_neg (show ¬ 2 * j + 1 < k + 1 by omega)]
theorem dot_eq (a b : Vec) : rdot a b 8 = mJ 0 32 (dotN a b) 4 := by
 refine rL 32 4 (by decide) (by decide) fun i hi => ?_
 rw [pX _ _ _ _ _ (by decide), if_pos hi]
 have h := rdot_lane a b 8 i (by decide) hi
 rw [if_pos (by omega), if_pos (by omega)] at h
 unfold dotN u64
 have e32 : (2 : Nat) ^ 32 = 4294967296 := by decide
 rw [e32]
 omega
end Pl
end
