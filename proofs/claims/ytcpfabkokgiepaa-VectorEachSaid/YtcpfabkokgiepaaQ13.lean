/-
  Texts Ones.
-/
import Derived.Test.YtcpfabkokgiepaaQ12
import Derived.Laws.Bits128
set_option linter.unusedSimpArgs false
set_option linter.unusedVariables false
set_option maxHeartbeats 8000000
open Pl
namespace Go.Proofs.Ytcpfabkokgiepaa
open Go.RowKit Pc
theorem and64 (n m : Nat) (hn : n < 18446744073709551616) (hm : m < 18446744073709551616) : bits .and .u64 (n : Int) (m : Int) = ((n &&& m : Nat) : Int) := u64_and_nat n m hn hm
theorem reps85 : reps 85 8 = 6148914691236517205 := by decide +kernel
theorem reps51 : reps 51 8 = 3689348814741910323 := by decide +kernel
theorem reps15 : reps 15 8 = 1085102592571150095 := by decide +kernel
theorem dY (n m : Nat) : n &&& m ≤ m := Nat.and_le_right
set_option maxRecDepth 100000 in
theorem ones64_any (x : Nat) (w : World) (hx : x < 18446744073709551616) : Calls Try.prog 52 #[.int .u64 (x : Int)] w fun e w' => e = .returned (.int .i64 (Lib.onesCount x : Int)) ∧ w' = w := by
 have hp := pop64 x hx
 simp only at hp
 rw [show Lib.popAux 64 x = Lib.onesCount x from rfl] at hp
 obtain ⟨p, hpp⟩ : ∃ p, p = Lib.onesCount x := ⟨_, rfl⟩
 rw [← hpp] at hp ⊢
 clear hpp
 obtain ⟨a1, ha1⟩ : ∃ n, n = (x / 2 &&& 6148914691236517205) := ⟨_, rfl⟩
 obtain ⟨a2, ha2⟩ : ∃ n, n = (x &&& 6148914691236517205) := ⟨_, rfl⟩
 have f1e : f1 8 x = a1 + a2 := by unfold f1; rw [reps85, ha1, ha2]
 rw [f1e] at hp
 obtain ⟨b1, hb1⟩ : ∃ n, n = ((a1 + a2) / 4 &&& 3689348814741910323) := ⟨_, rfl⟩
 obtain ⟨b2, hb2⟩ : ∃ n, n = ((a1 + a2) &&& 3689348814741910323) := ⟨_, rfl⟩
 have f2e : f2 8 (a1 + a2) = b1 + b2 := by unfold f2; rw [reps51, hb1, hb2]
 rw [f2e] at hp
 obtain ⟨c, hc⟩ : ∃ n, n = (((b1 + b2) / 16 + (b1 + b2)) &&& 1085102592571150095) := ⟨_, rfl⟩
 have f3e : f3 8 (b1 + b2) = c := by unfold f3; rw [reps15, hc]
 rw [f3e] at hp
 have la1 := ha1 ▸ dY (x / 2) 6148914691236517205
 have la2 := ha2 ▸ dY x 6148914691236517205
 have lb1 := hb1 ▸ dY ((a1 + a2) / 4) 3689348814741910323
 have lb2 := hb2 ▸ dY (a1 + a2) 3689348814741910323
 have lc := hc ▸ dY ((b1 + b2) / 16 + (b1 + b2)) 1085102592571150095
 have e1 : bits .and .u64 ((x : Int) / 2) 6148914691236517205 = (a1 : Int) := by rw [ha1]; exact and64 (x / 2) 6148914691236517205 (by omega) (by decide)
 have e2 : bits .and .u64 (x : Int) 6148914691236517205 = (a2 : Int) := by rw [ha2]; exact and64 x 6148914691236517205 (by omega) (by decide)
 have e3 : bits .and .u64 (((a1 : Int) + (a2 : Int)) / 4) 3689348814741910323 = (b1 : Int) := by rw [hb1]; exact and64 ((a1 + a2) / 4) 3689348814741910323 (by omega) (by decide)
 have e4 : bits .and .u64 ((a1 : Int) + (a2 : Int)) 3689348814741910323 = (b2 : Int) := by rw [hb2]; exact and64 (a1 + a2) 3689348814741910323 (by omega) (by decide)
 have e5 : bits .and .u64 (((b1 : Int) + (b2 : Int)) / 16 + ((b1 : Int) + (b2 : Int))) 1085102592571150095 = (c : Int) := by rw [hc]; exact and64 ((b1 + b2) / 16 + (b1 + b2)) 1085102592571150095 (by omega) (by decide)
 have HP := Lib.hid hp
 clear ha1 ha2 hb1 hb2 hc f1e f2e f3e hp
 go_enter Try.func52, Try.ntmps52
 go_wp2
 go_ret
 refine ⟨?_, rfl⟩
 rw [i64_and127]
 have hq := HP.out
 clear HP e1 e2 e3 e4 e5
 refine congrArg (fun z => Ending.returned (.int .i64 z)) ?_
 omega
theorem rF (x : Nat) (w : World) (hx : x < 18446744073709551616) : Calls Try.prog 52 #[.int .u64 (x : Int)] w fun e w' => e = .returned (.int .i64 (Lib.onesCount x : Int)) ∧ Below w.heap.size w w' :=
 (ones64_any x w hx).mono fun e w' ⟨h1, h2⟩ => ⟨h1, by subst h2; exact Below.refl _ _⟩
end Go.Proofs.Ytcpfabkokgiepaa
