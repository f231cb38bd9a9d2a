/-
  plaitref05.hold, offset: their contracts; a lane's step.
-/
import Derived.Test.YtgemlndpmbeaeaaAriRW
set_option linter.unusedSimpArgs false
set_option linter.unusedVariables false
namespace Go.Proofs.Ytgemlndpmbeaeaa
open Go.RowKit Pl

theorem step_eq (w : Nat) (f : Nat → Nat) (v : Vec) (i Z : Nat) (h : Z % 2 ^ w = f i % 2 ^ w) : setN (buildOn v w f i) w i Z = buildOn v w f (i + 1) := by
  rw [buildOn]; unfold setN; rw [← putAt_mod _ _ _ Z, h, putAt_mod]
theorem rhold_any (n low high : Int) (w : World) (h : low ≤ high) : Calls Try.prog 45 #[.int .i64 n, .int .i64 low, .int .i64 high] w fun e w' => e = .returned (.int .u64 ((Pl.u64 (min (max n low) high) : Nat) : Int)) ∧ Below w.heap.size w w' := by
  by_cases h1 : n < low
  · have q : IntKind.u64.wrap low = ((Pl.u64 (min (max n low) high) : Nat) : Int) := by rw [wrap_u64, show min (max n low) high = low by omega]
    have Q := Lib.hid q
    clear q
    go_enter Try.func45, Try.ntmps45
    go_wp2
    go_ret
    exact ⟨congrArg (fun z => Ending.returned (.int .u64 z)) Q.out, Below.refl _ _⟩
  · by_cases h2 : high < n
    · have q : IntKind.u64.wrap high = ((Pl.u64 (min (max n low) high) : Nat) : Int) := by rw [wrap_u64, show min (max n low) high = high by omega]
      have Q := Lib.hid q
      clear q
      go_enter Try.func45, Try.ntmps45
      go_wp2
      go_ret
      exact ⟨congrArg (fun z => Ending.returned (.int .u64 z)) Q.out, Below.refl _ _⟩
    · have q : IntKind.u64.wrap n = ((Pl.u64 (min (max n low) high) : Nat) : Int) := by rw [wrap_u64, show min (max n low) high = n by omega]
      have Q := Lib.hid q
      clear q
      go_enter Try.func45, Try.ntmps45
      go_wp2
      go_ret
      exact ⟨congrArg (fun z => Ending.returned (.int .u64 z)) Q.out, Below.refl _ _⟩
theorem roff_some (op k : Int) (w : World) (ho : 64768 ≤ op ∧ op ≤ 100000) (hw : wF op ≠ 0) (hk : (op - 64768) % 32 = k) :
    Calls Try.prog 33 #[.int .i64 op] w fun e w' => e = .returned (.int .i64 k) ∧ Below w.heap.size w w' := by
  have T := Lib.hid (fun W => rwidth_any op W (by omega))
  obtain ⟨z, hz⟩ : ∃ z, z = wF op := ⟨_, rfl⟩
  rw [← hz] at T hw
  clear hz
  have e0 : (z == 0) = false := by simpa using hw
  have e1 : IntKind.i64.wrap (op - 64768) = op - 64768 := IntWalk.i64_in _ (by omega)
  have e2 : (op - 64768).tmod 32 = k := by rw [Int.tmod_eq_emod_of_nonneg (by omega)]; exact hk
  have hb0 : Below w.heap.size w w := Below.refl _ _
  clear hw ho hk
  go_enter Try.func33, Try.ntmps33
  go_wp2_with (go_at_call 30; refine (T.out _).mono ?_; rintro e u ⟨rfl, hb⟩)
  go_ret
  exact ⟨rfl, hb⟩
theorem roff_none (op : Int) (w : World) (ho : -9223372036854775808 ≤ op ∧ op ≤ 9223372036854775807) (hw : wF op = 0) :
    Calls Try.prog 33 #[.int .i64 op] w fun e w' => e = .returned (.int .i64 (-1)) ∧ Below w.heap.size w w' := by
  have T := Lib.hid (fun W => rwidth_any op W ho)
  rw [hw] at T
  clear hw ho
  go_enter Try.func33, Try.ntmps33
  go_wp2_with (go_at_call 30; refine (T.out _).mono ?_; rintro e u ⟨rfl, hb⟩)
  go_ret
  exact ⟨rfl, hb⟩

end Go.Proofs.Ytgemlndpmbeaeaa
