/-
  The walk of plaitlaw10.MemoryWhole.
-/
import Derived.Test.YtlcndenbnokcjaaMemE
set_option linter.unusedSimpArgs false
set_option linter.unusedVariables false
namespace Go.Proofs.Ytlcndenbnokcjaa
open Go.RowKit Pl

theorem storeN_get (β : Nat → Nat) (s x : Nat) : ∀ (n k : Nat), storeN β s x n k = if s ≤ k ∧ k < s + n then x / 2 ^ (8 * (k - s)) % 256 else β k
  | 0, k => by rw [if_neg (by omega)]; rfl
  | n + 1, k => by
    show upd (storeN β s x n) (s + n) _ k = _
    unfold upd
    by_cases e : k = s + n
    · subst e
      rw [if_pos rfl, if_pos (by omega), Nat.add_sub_cancel_left]
    · rw [if_neg e, storeN_get β s x n k]
      by_cases h : s ≤ k ∧ k < s + n
      · rw [if_pos h, if_pos (by omega)]
      · rw [if_neg h, if_neg (by omega)]
theorem loadN_of (γ : Nat → Nat) (s x : Nat) : ∀ k, (∀ i, i < k → γ (s + i) = x / 2 ^ (8 * i) % 256) → loadN γ s k = x % 2 ^ (8 * k)
  | 0, _ => by simp [loadN, Nat.mod_one]
  | k + 1, h => by
    rw [loadN, loadN_of γ s x k (fun i hi => h i (by omega)), h k (by omega), show 8 * (k + 1) = 8 * k + 8 by omega, Nat.pow_add, Nat.mod_mul, Nat.mul_comm (2 ^ (8 * k))]
theorem loadN_one (γ : Nat → Nat) (s : Nat) : loadN γ s 1 = γ s := by simp [loadN]
theorem load_store (β : Nat → Nat) (s x n : Nat) : loadN (storeN β s x n) s n = x % 2 ^ (8 * n) :=
  loadN_of _ s x n fun i hi => by rw [storeN_get, if_pos (by omega), Nat.add_sub_cancel_left]
theorem same_z (p q : MObj) (w : World) (hp : MemAt w p) (hq : MemAt w q) (hn : p.n = q.n) (he : ∀ i, i < p.n → p.β i = q.β i) (a b : Nat) (ha : p.p = a) (hb : q.p = b) :
    Calls Try.prog 21 #[.pointer (some ⟨a, 0, none⟩), .pointer (some ⟨b, 0, none⟩)] w fun e w' => e = .returned (.bool true) ∧ Below w.heap.size w w' := by
  subst ha hb
  exact same_k p q w hp hq hn he


set_option maxHeartbeats 2000000 in
set_option maxRecDepth 100000 in
theorem whole_one (a y : Nat) (n : Int) (w : World) (ha : a < 18446744073709551616) (hn : -9223372036854775808 ≤ n ∧ n ≤ 9223372036854775807) (hy : y < 18446744073709551616) (hs0 : ¬ szOk n = true) :
    Calls Try.prog 5 #[.int .u64 (a : Nat), .int .i64 n, .int .u64 (y : Nat)] w fun e w' => e = .returned (.bool true) ∧ Below w.heap.size w w' := by
  have HE := Lib.hid (show mayE 65536 a n = 1 by unfold mayE; rw [if_neg hs0])
  obtain ⟨h1, h2, h3, h4⟩ := szOk_not hs0
  clear hs0
  have hN : ∀ W, Calls Try.prog 13 #[.int .i64 1, .int .i64 1] W fun e w' => ∃ o, e = .returned (.tuple #[.pointer (some ⟨o.p, 0, none⟩), .int .i64 0]) ∧ Fresh W w' o 86 65536 (fun _ => 0) 1 := fun W => new_ok 1 1 W (by decide) (by decide)
  have HN := Lib.hid hN
  clear hN
  go_enter Try.func5, Try.ntmps5
  go_wp2_with (go_at_call 12; (with_reducible refine (awake10 _).mono ?_); rintro e u ⟨rfl, hb⟩)
  refine (HN.out _).mono ?_
  rintro e u1 ⟨m0, rfl, hf⟩
  have hs : MS w [m0] u1 := ((MS.start w).below hb).fresh hf
  have hn0 := hf.hn
  have hT0 := hf.hT
  clear hb hf HN
  go_wp2_with fail
  go_loopw [9] (fun iv wr => ∃ j : Nat, j ≤ 16 ∧ iv = .int .i64 (4096 * (j : Int)) ∧ ∃ β, MS w [withβ m0 β] wr) (fun iv _ => (65536 - intOf iv).toNat)
  case atStart => exact ⟨0, by omega, rfl, m0.β, hs⟩
  case round =>
    clear hs
    obtain ⟨j, hj, rfl, β, hs⟩ := hrel
    by_cases hjl : j < 16
    · have hlt : decide (4096 * (j : Int) < 65536) = true := decide_eq_true (by omega)
      go_wp2_with fail
      refine (store_z (withβ m0 β) wr (hs.get 0 rfl) (4096 * (j : Int)) 8 1234605616436508552 _ _ (by omega) (by decide) (by decide) rfl rfl).mono ?_
      rintro e u2 ⟨rfl, hm, hk⟩
      replace hs := hs.stored 0 rfl hk hm
      clear hm hk
      go_wp2_with fail
      exact ⟨⟨j + 1, by omega, by rw [show (4096 : Int) * (j : Int) + 4096 = 4096 * ((j + 1 : Nat) : Int) by omega], _, hs⟩, by simp only [intOf]; omega⟩
    · obtain rfl : j = 16 := by omega
      go_wp2_with fail
      refine (store_z (withβ m0 β) wr (hs.get 0 rfl) 65528 8 11647051513882650536 _ _ (by decide) (by decide) (by decide) rfl rfl).mono ?_
      rintro e u2 ⟨rfl, hm, hk⟩
      replace hs := hs.stored 0 rfl hk hm
      clear hm hk
      generalize storeB _ _ _ _ = β1 at hs
      replace hs : MS w [withβ m0 β1] u2 := hs
      clear hjl
      go_wp2_with fail
      refine (clone_k (withβ m0 β1) u2 (hs.get 0 rfl) hT0).mono ?_
      rintro e u3 ⟨c, rfl, hf⟩
      replace hs : MS w [c, withβ m0 β1] u3 := hs.fresh hf
      have hcn : c.n = 65536 := hf.hn.trans hn0
      have hcβ : ∀ i, i < 65536 → c.β i = β1 i := fun i hi => hf.hβ i (by rw [show (withβ m0 β1).n = m0.n from rfl, hn0]; exact hi)
      clear hf
      go_wp2_with fail
      have hst := store_err (withβ m0 β1) u3 (hs.get 1 rfl) a n (.int .u64 (y : Nat)) ha hn 1 (by rw [show (withβ m0 β1).n = m0.n from rfl, hn0]; exact HE.out) (by decide)
      refine hst.mono ?_
      rintro e u4 ⟨rfl, rfl⟩
      go_wp2_with fail
      refine (load_err (withβ m0 β1) _ (hs.get 1 rfl) a n ha hn 1 (by rw [show (withβ m0 β1).n = m0.n from rfl, hn0]; exact HE.out) (by decide)).mono ?_
      rintro e u5 ⟨rfl, rfl⟩
      clear hst
      go_wp2_with fail
      refine (same_z (withβ m0 β1) c _ (hs.get 1 rfl) (hs.get 0 rfl) (hn0.trans hcn.symm) (fun i hi => (hcβ i (by rw [← hn0]; exact hi)).symm) _ _ rfl rfl).mono ?_
      rintro e u6 ⟨rfl, hb⟩
      replace hs := hs.below hb
      go_wp2_with fail
      go_ret
      exact ⟨rfl, hs.bel⟩


set_option maxHeartbeats 2000000 in
set_option maxRecDepth 100000 in
theorem whole_far1 (a y : Nat) (n : Int) (w : World) (ha : a < 18446744073709551616) (hn : -9223372036854775808 ≤ n ∧ n ≤ 9223372036854775807) (hy : y < 18446744073709551616) (hn1 : n = 1) (hin : ¬ a + 1 ≤ 65536) :
    Calls Try.prog 5 #[.int .u64 (a : Nat), .int .i64 n, .int .u64 (y : Nat)] w fun e w' => e = .returned (.bool true) ∧ Below w.heap.size w w' := by
  subst hn1
  have HE := Lib.hid (show mayE 65536 a 1 = 23 by unfold mayE; rw [if_pos (by decide), if_neg (by simpa using hin)])
  have hN : ∀ W, Calls Try.prog 13 #[.int .i64 1, .int .i64 1] W fun e w' => ∃ o, e = .returned (.tuple #[.pointer (some ⟨o.p, 0, none⟩), .int .i64 0]) ∧ Fresh W w' o 86 65536 (fun _ => 0) 1 := fun W => new_ok 1 1 W (by decide) (by decide)
  have HN := Lib.hid hN
  clear hN
  go_enter Try.func5, Try.ntmps5
  go_wp2_with (go_at_call 12; (with_reducible refine (awake10 _).mono ?_); rintro e u ⟨rfl, hb⟩)
  refine (HN.out _).mono ?_
  rintro e u1 ⟨m0, rfl, hf⟩
  have hs : MS w [m0] u1 := ((MS.start w).below hb).fresh hf
  have hn0 := hf.hn
  have hT0 := hf.hT
  clear hb hf HN
  go_wp2_with fail
  go_loopw [9] (fun iv wr => ∃ j : Nat, j ≤ 16 ∧ iv = .int .i64 (4096 * (j : Int)) ∧ ∃ β, MS w [withβ m0 β] wr) (fun iv _ => (65536 - intOf iv).toNat)
  case atStart => exact ⟨0, by omega, rfl, m0.β, hs⟩
  case round =>
    clear hs
    obtain ⟨j, hj, rfl, β, hs⟩ := hrel
    by_cases hjl : j < 16
    · have hlt : decide (4096 * (j : Int) < 65536) = true := decide_eq_true (by omega)
      go_wp2_with fail
      refine (store_z (withβ m0 β) wr (hs.get 0 rfl) (4096 * (j : Int)) 8 1234605616436508552 _ _ (by omega) (by decide) (by decide) rfl rfl).mono ?_
      rintro e u2 ⟨rfl, hm, hk⟩
      replace hs := hs.stored 0 rfl hk hm
      clear hm hk
      go_wp2_with fail
      exact ⟨⟨j + 1, by omega, by rw [show (4096 : Int) * (j : Int) + 4096 = 4096 * ((j + 1 : Nat) : Int) by omega], _, hs⟩, by simp only [intOf]; omega⟩
    · obtain rfl : j = 16 := by omega
      go_wp2_with fail
      refine (store_z (withβ m0 β) wr (hs.get 0 rfl) 65528 8 11647051513882650536 _ _ (by decide) (by decide) (by decide) rfl rfl).mono ?_
      rintro e u2 ⟨rfl, hm, hk⟩
      replace hs := hs.stored 0 rfl hk hm
      clear hm hk
      generalize storeB _ _ _ _ = β1 at hs
      replace hs : MS w [withβ m0 β1] u2 := hs
      clear hjl
      go_wp2_with fail
      refine (clone_k (withβ m0 β1) u2 (hs.get 0 rfl) hT0).mono ?_
      rintro e u3 ⟨c, rfl, hf⟩
      replace hs : MS w [c, withβ m0 β1] u3 := hs.fresh hf
      have hcn : c.n = 65536 := hf.hn.trans hn0
      have hcβ : ∀ i, i < 65536 → c.β i = β1 i := fun i hi => hf.hβ i (by rw [show (withβ m0 β1).n = m0.n from rfl, hn0]; exact hi)
      clear hf
      go_wp2_with fail
      have hst := store_err (withβ m0 β1) u3 (hs.get 1 rfl) a 1 (.int .u64 (y : Nat)) ha hn 23 (by rw [show (withβ m0 β1).n = m0.n from rfl, hn0]; exact HE.out) (by decide)
      refine hst.mono ?_
      rintro e u4 ⟨rfl, rfl⟩
      go_wp2_with fail
      refine (load_err (withβ m0 β1) _ (hs.get 1 rfl) a 1 ha hn 23 (by rw [show (withβ m0 β1).n = m0.n from rfl, hn0]; exact HE.out) (by decide)).mono ?_
      rintro e u5 ⟨rfl, rfl⟩
      clear hst
      go_wp2_with fail
      refine (same_z (withβ m0 β1) c _ (hs.get 1 rfl) (hs.get 0 rfl) (hn0.trans hcn.symm) (fun i hi => (hcβ i (by rw [← hn0]; exact hi)).symm) _ _ rfl rfl).mono ?_
      rintro e u6 ⟨rfl, hb⟩
      replace hs := hs.below hb
      go_wp2_with fail
      go_ret
      exact ⟨rfl, hs.bel⟩


set_option maxHeartbeats 2000000 in
set_option maxRecDepth 100000 in
theorem whole_far2 (a y : Nat) (n : Int) (w : World) (ha : a < 18446744073709551616) (hn : -9223372036854775808 ≤ n ∧ n ≤ 9223372036854775807) (hy : y < 18446744073709551616) (hn1 : n = 2) (hin : ¬ a + 2 ≤ 65536) :
    Calls Try.prog 5 #[.int .u64 (a : Nat), .int .i64 n, .int .u64 (y : Nat)] w fun e w' => e = .returned (.bool true) ∧ Below w.heap.size w w' := by
  subst hn1
  have HE := Lib.hid (show mayE 65536 a 2 = 23 by unfold mayE; rw [if_pos (by decide), if_neg (by simpa using hin)])
  have hN : ∀ W, Calls Try.prog 13 #[.int .i64 1, .int .i64 1] W fun e w' => ∃ o, e = .returned (.tuple #[.pointer (some ⟨o.p, 0, none⟩), .int .i64 0]) ∧ Fresh W w' o 86 65536 (fun _ => 0) 1 := fun W => new_ok 1 1 W (by decide) (by decide)
  have HN := Lib.hid hN
  clear hN
  go_enter Try.func5, Try.ntmps5
  go_wp2_with (go_at_call 12; (with_reducible refine (awake10 _).mono ?_); rintro e u ⟨rfl, hb⟩)
  refine (HN.out _).mono ?_
  rintro e u1 ⟨m0, rfl, hf⟩
  have hs : MS w [m0] u1 := ((MS.start w).below hb).fresh hf
  have hn0 := hf.hn
  have hT0 := hf.hT
  clear hb hf HN
  go_wp2_with fail
  go_loopw [9] (fun iv wr => ∃ j : Nat, j ≤ 16 ∧ iv = .int .i64 (4096 * (j : Int)) ∧ ∃ β, MS w [withβ m0 β] wr) (fun iv _ => (65536 - intOf iv).toNat)
  case atStart => exact ⟨0, by omega, rfl, m0.β, hs⟩
  case round =>
    clear hs
    obtain ⟨j, hj, rfl, β, hs⟩ := hrel
    by_cases hjl : j < 16
    · have hlt : decide (4096 * (j : Int) < 65536) = true := decide_eq_true (by omega)
      go_wp2_with fail
      refine (store_z (withβ m0 β) wr (hs.get 0 rfl) (4096 * (j : Int)) 8 1234605616436508552 _ _ (by omega) (by decide) (by decide) rfl rfl).mono ?_
      rintro e u2 ⟨rfl, hm, hk⟩
      replace hs := hs.stored 0 rfl hk hm
      clear hm hk
      go_wp2_with fail
      exact ⟨⟨j + 1, by omega, by rw [show (4096 : Int) * (j : Int) + 4096 = 4096 * ((j + 1 : Nat) : Int) by omega], _, hs⟩, by simp only [intOf]; omega⟩
    · obtain rfl : j = 16 := by omega
      go_wp2_with fail
      refine (store_z (withβ m0 β) wr (hs.get 0 rfl) 65528 8 11647051513882650536 _ _ (by decide) (by decide) (by decide) rfl rfl).mono ?_
      rintro e u2 ⟨rfl, hm, hk⟩
      replace hs := hs.stored 0 rfl hk hm
      clear hm hk
      generalize storeB _ _ _ _ = β1 at hs
      replace hs : MS w [withβ m0 β1] u2 := hs
      clear hjl
      go_wp2_with fail
      refine (clone_k (withβ m0 β1) u2 (hs.get 0 rfl) hT0).mono ?_
      rintro e u3 ⟨c, rfl, hf⟩
      replace hs : MS w [c, withβ m0 β1] u3 := hs.fresh hf
      have hcn : c.n = 65536 := hf.hn.trans hn0
      have hcβ : ∀ i, i < 65536 → c.β i = β1 i := fun i hi => hf.hβ i (by rw [show (withβ m0 β1).n = m0.n from rfl, hn0]; exact hi)
      clear hf
      go_wp2_with fail
      have hst := store_err (withβ m0 β1) u3 (hs.get 1 rfl) a 2 (.int .u64 (y : Nat)) ha hn 23 (by rw [show (withβ m0 β1).n = m0.n from rfl, hn0]; exact HE.out) (by decide)
      refine hst.mono ?_
      rintro e u4 ⟨rfl, rfl⟩
      go_wp2_with fail
      refine (load_err (withβ m0 β1) _ (hs.get 1 rfl) a 2 ha hn 23 (by rw [show (withβ m0 β1).n = m0.n from rfl, hn0]; exact HE.out) (by decide)).mono ?_
      rintro e u5 ⟨rfl, rfl⟩
      clear hst
      go_wp2_with fail
      refine (same_z (withβ m0 β1) c _ (hs.get 1 rfl) (hs.get 0 rfl) (hn0.trans hcn.symm) (fun i hi => (hcβ i (by rw [← hn0]; exact hi)).symm) _ _ rfl rfl).mono ?_
      rintro e u6 ⟨rfl, hb⟩
      replace hs := hs.below hb
      go_wp2_with fail
      go_ret
      exact ⟨rfl, hs.bel⟩


set_option maxHeartbeats 2000000 in
set_option maxRecDepth 100000 in
theorem whole_far4 (a y : Nat) (n : Int) (w : World) (ha : a < 18446744073709551616) (hn : -9223372036854775808 ≤ n ∧ n ≤ 9223372036854775807) (hy : y < 18446744073709551616) (hn1 : n = 4) (hin : ¬ a + 4 ≤ 65536) :
    Calls Try.prog 5 #[.int .u64 (a : Nat), .int .i64 n, .int .u64 (y : Nat)] w fun e w' => e = .returned (.bool true) ∧ Below w.heap.size w w' := by
  subst hn1
  have HE := Lib.hid (show mayE 65536 a 4 = 23 by unfold mayE; rw [if_pos (by decide), if_neg (by simpa using hin)])
  have hN : ∀ W, Calls Try.prog 13 #[.int .i64 1, .int .i64 1] W fun e w' => ∃ o, e = .returned (.tuple #[.pointer (some ⟨o.p, 0, none⟩), .int .i64 0]) ∧ Fresh W w' o 86 65536 (fun _ => 0) 1 := fun W => new_ok 1 1 W (by decide) (by decide)
  have HN := Lib.hid hN
  clear hN
  go_enter Try.func5, Try.ntmps5
  go_wp2_with (go_at_call 12; (with_reducible refine (awake10 _).mono ?_); rintro e u ⟨rfl, hb⟩)
  refine (HN.out _).mono ?_
  rintro e u1 ⟨m0, rfl, hf⟩
  have hs : MS w [m0] u1 := ((MS.start w).below hb).fresh hf
  have hn0 := hf.hn
  have hT0 := hf.hT
  clear hb hf HN
  go_wp2_with fail
  go_loopw [9] (fun iv wr => ∃ j : Nat, j ≤ 16 ∧ iv = .int .i64 (4096 * (j : Int)) ∧ ∃ β, MS w [withβ m0 β] wr) (fun iv _ => (65536 - intOf iv).toNat)
  case atStart => exact ⟨0, by omega, rfl, m0.β, hs⟩
  case round =>
    clear hs
    obtain ⟨j, hj, rfl, β, hs⟩ := hrel
    by_cases hjl : j < 16
    · have hlt : decide (4096 * (j : Int) < 65536) = true := decide_eq_true (by omega)
      go_wp2_with fail
      refine (store_z (withβ m0 β) wr (hs.get 0 rfl) (4096 * (j : Int)) 8 1234605616436508552 _ _ (by omega) (by decide) (by decide) rfl rfl).mono ?_
      rintro e u2 ⟨rfl, hm, hk⟩
      replace hs := hs.stored 0 rfl hk hm
      clear hm hk
      go_wp2_with fail
      exact ⟨⟨j + 1, by omega, by rw [show (4096 : Int) * (j : Int) + 4096 = 4096 * ((j + 1 : Nat) : Int) by omega], _, hs⟩, by simp only [intOf]; omega⟩
    · obtain rfl : j = 16 := by omega
      go_wp2_with fail
      refine (store_z (withβ m0 β) wr (hs.get 0 rfl) 65528 8 11647051513882650536 _ _ (by decide) (by decide) (by decide) rfl rfl).mono ?_
      rintro e u2 ⟨rfl, hm, hk⟩
      replace hs := hs.stored 0 rfl hk hm
      clear hm hk
      generalize storeB _ _ _ _ = β1 at hs
      replace hs : MS w [withβ m0 β1] u2 := hs
      clear hjl
      go_wp2_with fail
      refine (clone_k (withβ m0 β1) u2 (hs.get 0 rfl) hT0).mono ?_
      rintro e u3 ⟨c, rfl, hf⟩
      replace hs : MS w [c, withβ m0 β1] u3 := hs.fresh hf
      have hcn : c.n = 65536 := hf.hn.trans hn0
      have hcβ : ∀ i, i < 65536 → c.β i = β1 i := fun i hi => hf.hβ i (by rw [show (withβ m0 β1).n = m0.n from rfl, hn0]; exact hi)
      clear hf
      go_wp2_with fail
      have hst := store_err (withβ m0 β1) u3 (hs.get 1 rfl) a 4 (.int .u64 (y : Nat)) ha hn 23 (by rw [show (withβ m0 β1).n = m0.n from rfl, hn0]; exact HE.out) (by decide)
      refine hst.mono ?_
      rintro e u4 ⟨rfl, rfl⟩
      go_wp2_with fail
      refine (load_err (withβ m0 β1) _ (hs.get 1 rfl) a 4 ha hn 23 (by rw [show (withβ m0 β1).n = m0.n from rfl, hn0]; exact HE.out) (by decide)).mono ?_
      rintro e u5 ⟨rfl, rfl⟩
      clear hst
      go_wp2_with fail
      refine (same_z (withβ m0 β1) c _ (hs.get 1 rfl) (hs.get 0 rfl) (hn0.trans hcn.symm) (fun i hi => (hcβ i (by rw [← hn0]; exact hi)).symm) _ _ rfl rfl).mono ?_
      rintro e u6 ⟨rfl, hb⟩
      replace hs := hs.below hb
      go_wp2_with fail
      go_ret
      exact ⟨rfl, hs.bel⟩


set_option maxHeartbeats 2000000 in
set_option maxRecDepth 100000 in
theorem whole_far8 (a y : Nat) (n : Int) (w : World) (ha : a < 18446744073709551616) (hn : -9223372036854775808 ≤ n ∧ n ≤ 9223372036854775807) (hy : y < 18446744073709551616) (hn1 : n = 8) (hin : ¬ a + 8 ≤ 65536) :
    Calls Try.prog 5 #[.int .u64 (a : Nat), .int .i64 n, .int .u64 (y : Nat)] w fun e w' => e = .returned (.bool true) ∧ Below w.heap.size w w' := by
  subst hn1
  have HE := Lib.hid (show mayE 65536 a 8 = 23 by unfold mayE; rw [if_pos (by decide), if_neg (by simpa using hin)])
  have hN : ∀ W, Calls Try.prog 13 #[.int .i64 1, .int .i64 1] W fun e w' => ∃ o, e = .returned (.tuple #[.pointer (some ⟨o.p, 0, none⟩), .int .i64 0]) ∧ Fresh W w' o 86 65536 (fun _ => 0) 1 := fun W => new_ok 1 1 W (by decide) (by decide)
  have HN := Lib.hid hN
  clear hN
  go_enter Try.func5, Try.ntmps5
  go_wp2_with (go_at_call 12; (with_reducible refine (awake10 _).mono ?_); rintro e u ⟨rfl, hb⟩)
  refine (HN.out _).mono ?_
  rintro e u1 ⟨m0, rfl, hf⟩
  have hs : MS w [m0] u1 := ((MS.start w).below hb).fresh hf
  have hn0 := hf.hn
  have hT0 := hf.hT
  clear hb hf HN
  go_wp2_with fail
  go_loopw [9] (fun iv wr => ∃ j : Nat, j ≤ 16 ∧ iv = .int .i64 (4096 * (j : Int)) ∧ ∃ β, MS w [withβ m0 β] wr) (fun iv _ => (65536 - intOf iv).toNat)
  case atStart => exact ⟨0, by omega, rfl, m0.β, hs⟩
  case round =>
    clear hs
    obtain ⟨j, hj, rfl, β, hs⟩ := hrel
    by_cases hjl : j < 16
    · have hlt : decide (4096 * (j : Int) < 65536) = true := decide_eq_true (by omega)
      go_wp2_with fail
      refine (store_z (withβ m0 β) wr (hs.get 0 rfl) (4096 * (j : Int)) 8 1234605616436508552 _ _ (by omega) (by decide) (by decide) rfl rfl).mono ?_
      rintro e u2 ⟨rfl, hm, hk⟩
      replace hs := hs.stored 0 rfl hk hm
      clear hm hk
      go_wp2_with fail
      exact ⟨⟨j + 1, by omega, by rw [show (4096 : Int) * (j : Int) + 4096 = 4096 * ((j + 1 : Nat) : Int) by omega], _, hs⟩, by simp only [intOf]; omega⟩
    · obtain rfl : j = 16 := by omega
      go_wp2_with fail
      refine (store_z (withβ m0 β) wr (hs.get 0 rfl) 65528 8 11647051513882650536 _ _ (by decide) (by decide) (by decide) rfl rfl).mono ?_
      rintro e u2 ⟨rfl, hm, hk⟩
      replace hs := hs.stored 0 rfl hk hm
      clear hm hk
      generalize storeB _ _ _ _ = β1 at hs
      replace hs : MS w [withβ m0 β1] u2 := hs
      clear hjl
      go_wp2_with fail
      refine (clone_k (withβ m0 β1) u2 (hs.get 0 rfl) hT0).mono ?_
      rintro e u3 ⟨c, rfl, hf⟩
      replace hs : MS w [c, withβ m0 β1] u3 := hs.fresh hf
      have hcn : c.n = 65536 := hf.hn.trans hn0
      have hcβ : ∀ i, i < 65536 → c.β i = β1 i := fun i hi => hf.hβ i (by rw [show (withβ m0 β1).n = m0.n from rfl, hn0]; exact hi)
      clear hf
      go_wp2_with fail
      have hst := store_err (withβ m0 β1) u3 (hs.get 1 rfl) a 8 (.int .u64 (y : Nat)) ha hn 23 (by rw [show (withβ m0 β1).n = m0.n from rfl, hn0]; exact HE.out) (by decide)
      refine hst.mono ?_
      rintro e u4 ⟨rfl, rfl⟩
      go_wp2_with fail
      refine (load_err (withβ m0 β1) _ (hs.get 1 rfl) a 8 ha hn 23 (by rw [show (withβ m0 β1).n = m0.n from rfl, hn0]; exact HE.out) (by decide)).mono ?_
      rintro e u5 ⟨rfl, rfl⟩
      clear hst
      go_wp2_with fail
      refine (same_z (withβ m0 β1) c _ (hs.get 1 rfl) (hs.get 0 rfl) (hn0.trans hcn.symm) (fun i hi => (hcβ i (by rw [← hn0]; exact hi)).symm) _ _ rfl rfl).mono ?_
      rintro e u6 ⟨rfl, hb⟩
      replace hs := hs.below hb
      go_wp2_with fail
      go_ret
      exact ⟨rfl, hs.bel⟩


set_option maxHeartbeats 2000000 in
set_option maxRecDepth 100000 in
theorem whole_in1 (a y : Nat) (n : Int) (w : World) (ha : a < 18446744073709551616) (hn : -9223372036854775808 ≤ n ∧ n ≤ 9223372036854775807) (hy : y < 18446744073709551616) (hn1 : n = 1) (hin : a + 1 ≤ 65536) :
    Calls Try.prog 5 #[.int .u64 (a : Nat), .int .i64 n, .int .u64 (y : Nat)] w fun e w' => e = .returned (.bool true) ∧ Below w.heap.size w w' := by
  subst hn1
  have HE := Lib.hid (show mayE 65536 a 1 = 0 by unfold mayE; rw [if_pos (by decide), if_pos (by simpa using hin)])
  have hN : ∀ W, Calls Try.prog 13 #[.int .i64 1, .int .i64 1] W fun e w' => ∃ o, e = .returned (.tuple #[.pointer (some ⟨o.p, 0, none⟩), .int .i64 0]) ∧ Fresh W w' o 86 65536 (fun _ => 0) 1 := fun W => new_ok 1 1 W (by decide) (by decide)
  have HN := Lib.hid hN
  clear hN
  go_enter Try.func5, Try.ntmps5
  go_wp2_with (go_at_call 12; (with_reducible refine (awake10 _).mono ?_); rintro e u ⟨rfl, hb⟩)
  refine (HN.out _).mono ?_
  rintro e u1 ⟨m0, rfl, hf⟩
  have hs : MS w [m0] u1 := ((MS.start w).below hb).fresh hf
  have hn0 := hf.hn
  have hT0 := hf.hT
  clear hb hf HN
  go_wp2_with fail
  go_loopw [9] (fun iv wr => ∃ j : Nat, j ≤ 16 ∧ iv = .int .i64 (4096 * (j : Int)) ∧ ∃ β, MS w [withβ m0 β] wr) (fun iv _ => (65536 - intOf iv).toNat)
  case atStart => exact ⟨0, by omega, rfl, m0.β, hs⟩
  case round =>
    clear hs
    obtain ⟨j, hj, rfl, β, hs⟩ := hrel
    by_cases hjl : j < 16
    · have hlt : decide (4096 * (j : Int) < 65536) = true := decide_eq_true (by omega)
      go_wp2_with fail
      refine (store_z (withβ m0 β) wr (hs.get 0 rfl) (4096 * (j : Int)) 8 1234605616436508552 _ _ (by omega) (by decide) (by decide) rfl rfl).mono ?_
      rintro e u2 ⟨rfl, hm, hk⟩
      replace hs := hs.stored 0 rfl hk hm
      clear hm hk
      go_wp2_with fail
      exact ⟨⟨j + 1, by omega, by rw [show (4096 : Int) * (j : Int) + 4096 = 4096 * ((j + 1 : Nat) : Int) by omega], _, hs⟩, by simp only [intOf]; omega⟩
    · obtain rfl : j = 16 := by omega
      go_wp2_with fail
      refine (store_z (withβ m0 β) wr (hs.get 0 rfl) 65528 8 11647051513882650536 _ _ (by decide) (by decide) (by decide) rfl rfl).mono ?_
      rintro e u2 ⟨rfl, hm, hk⟩
      replace hs := hs.stored 0 rfl hk hm
      clear hm hk
      generalize storeB _ _ _ _ = β1 at hs
      replace hs : MS w [withβ m0 β1] u2 := hs
      clear hjl
      go_wp2_with fail
      refine (clone_k (withβ m0 β1) u2 (hs.get 0 rfl) hT0).mono ?_
      rintro e u3 ⟨c, rfl, hf⟩
      replace hs : MS w [c, withβ m0 β1] u3 := hs.fresh hf
      have hcn : c.n = 65536 := hf.hn.trans hn0
      have hcβ : ∀ i, i < 65536 → c.β i = β1 i := fun i hi => hf.hβ i (by rw [show (withβ m0 β1).n = m0.n from rfl, hn0]; exact hi)
      clear hf
      go_wp2_with fail
      have hst := store_z (withβ m0 β1) u3 (hs.get 1 rfl) (a : Nat) 1 (y : Nat) 0 (storeN β1 a y 1) (by omega) (by decide) (by omega) (by rw [show (withβ m0 β1).n = m0.n from rfl, hn0]; exact HE.out) (by unfold storeB; rw [show (withβ m0 β1).n = m0.n from rfl, hn0, if_pos (by exact HE.out)]; rfl)
      refine hst.mono ?_
      rintro e u4 ⟨rfl, hm, hk⟩
      replace hs : MS w [c, withβ m0 (storeN β1 a y 1)] u4 := hs.stored 1 rfl hk hm
      clear hm hk hst
      go_wp2_with fail
      refine (load_z (withβ m0 (storeN β1 a y 1)) _ (hs.get 1 rfl) (a : Nat) 1 0 (y % 2 ^ 8) (by omega) (by decide) (by rw [show (withβ m0 (storeN β1 a y 1)).n = m0.n from rfl, hn0]; exact HE.out) (fun _ => load_store β1 a y 1) (fun h => absurd rfl h)).mono ?_
      rintro e u5 ⟨rfl, rfl⟩
      have hsh : ((y : Int) % 256 != IntKind.u64.wrap ((y : Int) * 72057594037927936) / 72057594037927936) = false := by rw [IntKind.wrap_u64, bne_eq_false_iff_eq]; omega
      clear HE
      go_wp2_with fail
      go_loopw [14] (fun iv wr => ∃ i : Nat, i ≤ 1 ∧ iv = .int .i64 (i : Int) ∧ ∃ γ, MS w [c, withβ m0 γ] wr ∧ ∀ k, k < 65536 → γ k = if a ≤ k ∧ k < a + i then c.β k else storeN β1 a y 1 k) (fun iv _ => (1 - intOf iv).toNat)
      case atStart => exact ⟨0, by omega, rfl, _, hs, fun k _ => by rw [if_neg (by omega)]⟩
      case round =>
        clear hs
        obtain ⟨i, hi, rfl, γ, hs, hγ⟩ := hrel
        by_cases hil : i < 1
        · have hlt : decide ((i : Int) < 1) = true := decide_eq_true (by omega)
          go_wp2_with fail
          refine (load_z (withβ m0 γ) _ (hs.get 1 rfl) ((a : Int) + (i : Int)) 1 0 (y / 2 ^ (8 * i) % 256) (by omega) (by decide) (by show mayE m0.n _ 1 = 0; rw [hn0]; unfold mayE; rw [if_pos (by decide), if_pos (by omega)]) (fun _ => by rw [show ((a : Int) + (i : Int)).toNat = a + i by omega]; refine (loadN_one _ _).trans ?_; show γ (a + i) = _; rw [hγ (a + i) (by omega), if_neg (by omega), storeN_get, if_pos (by omega), Nat.add_sub_cancel_left]) (fun h => absurd rfl h)).mono ?_
          rintro e u6 ⟨rfl, rfl⟩
          go_wp2_with fail
          refine (load_z c _ (hs.get 0 rfl) ((a : Int) + (i : Int)) 1 0 (c.β (a + i)) (by omega) (by decide) (by rw [hcn]; unfold mayE; rw [if_pos (by decide), if_pos (by omega)]) (fun _ => by rw [show ((a : Int) + (i : Int)).toNat = a + i by omega]; exact loadN_one _ _) (fun h => absurd rfl h)).mono ?_
          rintro e u7 ⟨rfl, rfl⟩
          go_wp2_with fail
          have hcl : c.β (a + i) < 256 := (hs.get 0 rfl).row.lt (a + i) (by rw [hcn]; omega)
          refine (store_z (withβ m0 γ) _ (hs.get 1 rfl) ((a : Int) + (i : Int)) 1 (c.β (a + i) : Nat) 0 (storeN γ (a + i) (c.β (a + i)) 1) (by omega) (by decide) (by omega) (by show mayE m0.n _ 1 = 0; rw [hn0]; unfold mayE; rw [if_pos (by decide), if_pos (by omega)]) (by unfold storeB; rw [if_pos (by show mayE m0.n _ 1 = 0; rw [hn0]; unfold mayE; rw [if_pos (by decide), if_pos (by omega)]), show ((a : Int) + (i : Int)).toNat = a + i by omega]; rfl)).mono ?_
          rintro e u8 ⟨rfl, hm, hk⟩
          replace hs : MS w [c, withβ m0 (storeN γ (a + i) (c.β (a + i)) 1)] u8 := hs.stored 1 rfl hk hm
          clear hm hk
          go_wp2_with fail
          refine ⟨?_, by first | (simp only [intOf]; omega) | (simp [intOf] <;> omega)⟩
          refine (?_ : ∀ X : ∀ k, k < 65536 → storeN γ (a + i) (c.β (a + i)) 1 k = if a ≤ k ∧ k < a + (i + 1) then c.β k else storeN β1 a y 1 k, _) fun k hk => ?_
          · exact fun X => by first | exact ⟨i + 1, by omega, by go_num, _, hs, X⟩ | ((repeat apply Exists.intro); exact ⟨⟨i + 1, by omega, by go_num, _, hs, X⟩, rfl⟩)
          rw [storeN_get]
          by_cases e : k = a + i
          · subst e
            rw [if_pos (by omega), if_pos (by omega), Nat.sub_self, Nat.mul_zero, Nat.pow_zero, Nat.div_one, Nat.mod_eq_of_lt hcl]
          · rw [if_neg (by omega), hγ k hk]
            by_cases e1 : a ≤ k ∧ k < a + i
            · rw [if_pos e1, if_pos (by omega)]
            · rw [if_neg e1, if_neg (by omega)]
        · obtain rfl : i = 1 := by omega
          go_wp2_with fail
          refine (same_z (withβ m0 γ) c _ (hs.get 1 rfl) (hs.get 0 rfl) (hn0.trans hcn.symm) (fun k hk => ?_) _ _ rfl rfl).mono ?_
          · have hk : k < 65536 := by rw [← hn0]; exact hk
            show γ k = c.β k
            rw [hγ k hk]
            by_cases e : a ≤ k ∧ k < a + 1
            · rw [if_pos e]
            · rw [if_neg e, storeN_get, if_neg e, hcβ k hk]
          rintro e u8 ⟨rfl, hb⟩
          replace hs := hs.below hb
          go_wp2_with fail
          go_ret
          exact ⟨rfl, hs.bel⟩


set_option maxHeartbeats 2000000 in
set_option maxRecDepth 100000 in
theorem whole_in2 (a y : Nat) (n : Int) (w : World) (ha : a < 18446744073709551616) (hn : -9223372036854775808 ≤ n ∧ n ≤ 9223372036854775807) (hy : y < 18446744073709551616) (hn1 : n = 2) (hin : a + 2 ≤ 65536) :
    Calls Try.prog 5 #[.int .u64 (a : Nat), .int .i64 n, .int .u64 (y : Nat)] w fun e w' => e = .returned (.bool true) ∧ Below w.heap.size w w' := by
  subst hn1
  have HE := Lib.hid (show mayE 65536 a 2 = 0 by unfold mayE; rw [if_pos (by decide), if_pos (by simpa using hin)])
  have hN : ∀ W, Calls Try.prog 13 #[.int .i64 1, .int .i64 1] W fun e w' => ∃ o, e = .returned (.tuple #[.pointer (some ⟨o.p, 0, none⟩), .int .i64 0]) ∧ Fresh W w' o 86 65536 (fun _ => 0) 1 := fun W => new_ok 1 1 W (by decide) (by decide)
  have HN := Lib.hid hN
  clear hN
  go_enter Try.func5, Try.ntmps5
  go_wp2_with (go_at_call 12; (with_reducible refine (awake10 _).mono ?_); rintro e u ⟨rfl, hb⟩)
  refine (HN.out _).mono ?_
  rintro e u1 ⟨m0, rfl, hf⟩
  have hs : MS w [m0] u1 := ((MS.start w).below hb).fresh hf
  have hn0 := hf.hn
  have hT0 := hf.hT
  clear hb hf HN
  go_wp2_with fail
  go_loopw [9] (fun iv wr => ∃ j : Nat, j ≤ 16 ∧ iv = .int .i64 (4096 * (j : Int)) ∧ ∃ β, MS w [withβ m0 β] wr) (fun iv _ => (65536 - intOf iv).toNat)
  case atStart => exact ⟨0, by omega, rfl, m0.β, hs⟩
  case round =>
    clear hs
    obtain ⟨j, hj, rfl, β, hs⟩ := hrel
    by_cases hjl : j < 16
    · have hlt : decide (4096 * (j : Int) < 65536) = true := decide_eq_true (by omega)
      go_wp2_with fail
      refine (store_z (withβ m0 β) wr (hs.get 0 rfl) (4096 * (j : Int)) 8 1234605616436508552 _ _ (by omega) (by decide) (by decide) rfl rfl).mono ?_
      rintro e u2 ⟨rfl, hm, hk⟩
      replace hs := hs.stored 0 rfl hk hm
      clear hm hk
      go_wp2_with fail
      exact ⟨⟨j + 1, by omega, by rw [show (4096 : Int) * (j : Int) + 4096 = 4096 * ((j + 1 : Nat) : Int) by omega], _, hs⟩, by simp only [intOf]; omega⟩
    · obtain rfl : j = 16 := by omega
      go_wp2_with fail
      refine (store_z (withβ m0 β) wr (hs.get 0 rfl) 65528 8 11647051513882650536 _ _ (by decide) (by decide) (by decide) rfl rfl).mono ?_
      rintro e u2 ⟨rfl, hm, hk⟩
      replace hs := hs.stored 0 rfl hk hm
      clear hm hk
      generalize storeB _ _ _ _ = β1 at hs
      replace hs : MS w [withβ m0 β1] u2 := hs
      clear hjl
      go_wp2_with fail
      refine (clone_k (withβ m0 β1) u2 (hs.get 0 rfl) hT0).mono ?_
      rintro e u3 ⟨c, rfl, hf⟩
      replace hs : MS w [c, withβ m0 β1] u3 := hs.fresh hf
      have hcn : c.n = 65536 := hf.hn.trans hn0
      have hcβ : ∀ i, i < 65536 → c.β i = β1 i := fun i hi => hf.hβ i (by rw [show (withβ m0 β1).n = m0.n from rfl, hn0]; exact hi)
      clear hf
      go_wp2_with fail
      have hst := store_z (withβ m0 β1) u3 (hs.get 1 rfl) (a : Nat) 2 (y : Nat) 0 (storeN β1 a y 2) (by omega) (by decide) (by omega) (by rw [show (withβ m0 β1).n = m0.n from rfl, hn0]; exact HE.out) (by unfold storeB; rw [show (withβ m0 β1).n = m0.n from rfl, hn0, if_pos (by exact HE.out)]; rfl)
      refine hst.mono ?_
      rintro e u4 ⟨rfl, hm, hk⟩
      replace hs : MS w [c, withβ m0 (storeN β1 a y 2)] u4 := hs.stored 1 rfl hk hm
      clear hm hk hst
      go_wp2_with fail
      refine (load_z (withβ m0 (storeN β1 a y 2)) _ (hs.get 1 rfl) (a : Nat) 2 0 (y % 2 ^ 16) (by omega) (by decide) (by rw [show (withβ m0 (storeN β1 a y 2)).n = m0.n from rfl, hn0]; exact HE.out) (fun _ => load_store β1 a y 2) (fun h => absurd rfl h)).mono ?_
      rintro e u5 ⟨rfl, rfl⟩
      have hsh : ((y : Int) % 65536 != IntKind.u64.wrap ((y : Int) * 281474976710656) / 281474976710656) = false := by rw [IntKind.wrap_u64, bne_eq_false_iff_eq]; omega
      clear HE
      go_wp2_with fail
      go_loopw [14] (fun iv wr => ∃ i : Nat, i ≤ 2 ∧ iv = .int .i64 (i : Int) ∧ ∃ γ, MS w [c, withβ m0 γ] wr ∧ ∀ k, k < 65536 → γ k = if a ≤ k ∧ k < a + i then c.β k else storeN β1 a y 2 k) (fun iv _ => (2 - intOf iv).toNat)
      case atStart => exact ⟨0, by omega, rfl, _, hs, fun k _ => by rw [if_neg (by omega)]⟩
      case round =>
        clear hs
        obtain ⟨i, hi, rfl, γ, hs, hγ⟩ := hrel
        by_cases hil : i < 2
        · have hlt : decide ((i : Int) < 2) = true := decide_eq_true (by omega)
          go_wp2_with fail
          refine (load_z (withβ m0 γ) _ (hs.get 1 rfl) ((a : Int) + (i : Int)) 1 0 (y / 2 ^ (8 * i) % 256) (by omega) (by decide) (by show mayE m0.n _ 1 = 0; rw [hn0]; unfold mayE; rw [if_pos (by decide), if_pos (by omega)]) (fun _ => by rw [show ((a : Int) + (i : Int)).toNat = a + i by omega]; refine (loadN_one _ _).trans ?_; show γ (a + i) = _; rw [hγ (a + i) (by omega), if_neg (by omega), storeN_get, if_pos (by omega), Nat.add_sub_cancel_left]) (fun h => absurd rfl h)).mono ?_
          rintro e u6 ⟨rfl, rfl⟩
          go_wp2_with fail
          refine (load_z c _ (hs.get 0 rfl) ((a : Int) + (i : Int)) 1 0 (c.β (a + i)) (by omega) (by decide) (by rw [hcn]; unfold mayE; rw [if_pos (by decide), if_pos (by omega)]) (fun _ => by rw [show ((a : Int) + (i : Int)).toNat = a + i by omega]; exact loadN_one _ _) (fun h => absurd rfl h)).mono ?_
          rintro e u7 ⟨rfl, rfl⟩
          go_wp2_with fail
          have hcl : c.β (a + i) < 256 := (hs.get 0 rfl).row.lt (a + i) (by rw [hcn]; omega)
          refine (store_z (withβ m0 γ) _ (hs.get 1 rfl) ((a : Int) + (i : Int)) 1 (c.β (a + i) : Nat) 0 (storeN γ (a + i) (c.β (a + i)) 1) (by omega) (by decide) (by omega) (by show mayE m0.n _ 1 = 0; rw [hn0]; unfold mayE; rw [if_pos (by decide), if_pos (by omega)]) (by unfold storeB; rw [if_pos (by show mayE m0.n _ 1 = 0; rw [hn0]; unfold mayE; rw [if_pos (by decide), if_pos (by omega)]), show ((a : Int) + (i : Int)).toNat = a + i by omega]; rfl)).mono ?_
          rintro e u8 ⟨rfl, hm, hk⟩
          replace hs : MS w [c, withβ m0 (storeN γ (a + i) (c.β (a + i)) 1)] u8 := hs.stored 1 rfl hk hm
          clear hm hk
          go_wp2_with fail
          refine ⟨?_, by first | (simp only [intOf]; omega) | (simp [intOf] <;> omega)⟩
          refine (?_ : ∀ X : ∀ k, k < 65536 → storeN γ (a + i) (c.β (a + i)) 1 k = if a ≤ k ∧ k < a + (i + 1) then c.β k else storeN β1 a y 2 k, _) fun k hk => ?_
          · exact fun X => by first | exact ⟨i + 1, by omega, by go_num, _, hs, X⟩ | ((repeat apply Exists.intro); exact ⟨⟨i + 1, by omega, by go_num, _, hs, X⟩, rfl⟩)
          rw [storeN_get]
          by_cases e : k = a + i
          · subst e
            rw [if_pos (by omega), if_pos (by omega), Nat.sub_self, Nat.mul_zero, Nat.pow_zero, Nat.div_one, Nat.mod_eq_of_lt hcl]
          · rw [if_neg (by omega), hγ k hk]
            by_cases e1 : a ≤ k ∧ k < a + i
            · rw [if_pos e1, if_pos (by omega)]
            · rw [if_neg e1, if_neg (by omega)]
        · obtain rfl : i = 2 := by omega
          go_wp2_with fail
          refine (same_z (withβ m0 γ) c _ (hs.get 1 rfl) (hs.get 0 rfl) (hn0.trans hcn.symm) (fun k hk => ?_) _ _ rfl rfl).mono ?_
          · have hk : k < 65536 := by rw [← hn0]; exact hk
            show γ k = c.β k
            rw [hγ k hk]
            by_cases e : a ≤ k ∧ k < a + 2
            · rw [if_pos e]
            · rw [if_neg e, storeN_get, if_neg e, hcβ k hk]
          rintro e u8 ⟨rfl, hb⟩
          replace hs := hs.below hb
          go_wp2_with fail
          go_ret
          exact ⟨rfl, hs.bel⟩


set_option maxHeartbeats 2000000 in
set_option maxRecDepth 100000 in
theorem whole_in4 (a y : Nat) (n : Int) (w : World) (ha : a < 18446744073709551616) (hn : -9223372036854775808 ≤ n ∧ n ≤ 9223372036854775807) (hy : y < 18446744073709551616) (hn1 : n = 4) (hin : a + 4 ≤ 65536) :
    Calls Try.prog 5 #[.int .u64 (a : Nat), .int .i64 n, .int .u64 (y : Nat)] w fun e w' => e = .returned (.bool true) ∧ Below w.heap.size w w' := by
  subst hn1
  have HE := Lib.hid (show mayE 65536 a 4 = 0 by unfold mayE; rw [if_pos (by decide), if_pos (by simpa using hin)])
  have hN : ∀ W, Calls Try.prog 13 #[.int .i64 1, .int .i64 1] W fun e w' => ∃ o, e = .returned (.tuple #[.pointer (some ⟨o.p, 0, none⟩), .int .i64 0]) ∧ Fresh W w' o 86 65536 (fun _ => 0) 1 := fun W => new_ok 1 1 W (by decide) (by decide)
  have HN := Lib.hid hN
  clear hN
  go_enter Try.func5, Try.ntmps5
  go_wp2_with (go_at_call 12; (with_reducible refine (awake10 _).mono ?_); rintro e u ⟨rfl, hb⟩)
  refine (HN.out _).mono ?_
  rintro e u1 ⟨m0, rfl, hf⟩
  have hs : MS w [m0] u1 := ((MS.start w).below hb).fresh hf
  have hn0 := hf.hn
  have hT0 := hf.hT
  clear hb hf HN
  go_wp2_with fail
  go_loopw [9] (fun iv wr => ∃ j : Nat, j ≤ 16 ∧ iv = .int .i64 (4096 * (j : Int)) ∧ ∃ β, MS w [withβ m0 β] wr) (fun iv _ => (65536 - intOf iv).toNat)
  case atStart => exact ⟨0, by omega, rfl, m0.β, hs⟩
  case round =>
    clear hs
    obtain ⟨j, hj, rfl, β, hs⟩ := hrel
    by_cases hjl : j < 16
    · have hlt : decide (4096 * (j : Int) < 65536) = true := decide_eq_true (by omega)
      go_wp2_with fail
      refine (store_z (withβ m0 β) wr (hs.get 0 rfl) (4096 * (j : Int)) 8 1234605616436508552 _ _ (by omega) (by decide) (by decide) rfl rfl).mono ?_
      rintro e u2 ⟨rfl, hm, hk⟩
      replace hs := hs.stored 0 rfl hk hm
      clear hm hk
      go_wp2_with fail
      exact ⟨⟨j + 1, by omega, by rw [show (4096 : Int) * (j : Int) + 4096 = 4096 * ((j + 1 : Nat) : Int) by omega], _, hs⟩, by simp only [intOf]; omega⟩
    · obtain rfl : j = 16 := by omega
      go_wp2_with fail
      refine (store_z (withβ m0 β) wr (hs.get 0 rfl) 65528 8 11647051513882650536 _ _ (by decide) (by decide) (by decide) rfl rfl).mono ?_
      rintro e u2 ⟨rfl, hm, hk⟩
      replace hs := hs.stored 0 rfl hk hm
      clear hm hk
      generalize storeB _ _ _ _ = β1 at hs
      replace hs : MS w [withβ m0 β1] u2 := hs
      clear hjl
      go_wp2_with fail
      refine (clone_k (withβ m0 β1) u2 (hs.get 0 rfl) hT0).mono ?_
      rintro e u3 ⟨c, rfl, hf⟩
      replace hs : MS w [c, withβ m0 β1] u3 := hs.fresh hf
      have hcn : c.n = 65536 := hf.hn.trans hn0
      have hcβ : ∀ i, i < 65536 → c.β i = β1 i := fun i hi => hf.hβ i (by rw [show (withβ m0 β1).n = m0.n from rfl, hn0]; exact hi)
      clear hf
      go_wp2_with fail
      have hst := store_z (withβ m0 β1) u3 (hs.get 1 rfl) (a : Nat) 4 (y : Nat) 0 (storeN β1 a y 4) (by omega) (by decide) (by omega) (by rw [show (withβ m0 β1).n = m0.n from rfl, hn0]; exact HE.out) (by unfold storeB; rw [show (withβ m0 β1).n = m0.n from rfl, hn0, if_pos (by exact HE.out)]; rfl)
      refine hst.mono ?_
      rintro e u4 ⟨rfl, hm, hk⟩
      replace hs : MS w [c, withβ m0 (storeN β1 a y 4)] u4 := hs.stored 1 rfl hk hm
      clear hm hk hst
      go_wp2_with fail
      refine (load_z (withβ m0 (storeN β1 a y 4)) _ (hs.get 1 rfl) (a : Nat) 4 0 (y % 2 ^ 32) (by omega) (by decide) (by rw [show (withβ m0 (storeN β1 a y 4)).n = m0.n from rfl, hn0]; exact HE.out) (fun _ => load_store β1 a y 4) (fun h => absurd rfl h)).mono ?_
      rintro e u5 ⟨rfl, rfl⟩
      have hsh : ((y : Int) % 4294967296 != IntKind.u64.wrap ((y : Int) * 4294967296) / 4294967296) = false := by rw [IntKind.wrap_u64, bne_eq_false_iff_eq]; omega
      clear HE
      go_wp2_with fail
      go_loopw [14] (fun iv wr => ∃ i : Nat, i ≤ 4 ∧ iv = .int .i64 (i : Int) ∧ ∃ γ, MS w [c, withβ m0 γ] wr ∧ ∀ k, k < 65536 → γ k = if a ≤ k ∧ k < a + i then c.β k else storeN β1 a y 4 k) (fun iv _ => (4 - intOf iv).toNat)
      case atStart => exact ⟨0, by omega, rfl, _, hs, fun k _ => by rw [if_neg (by omega)]⟩
      case round =>
        clear hs
        obtain ⟨i, hi, rfl, γ, hs, hγ⟩ := hrel
        by_cases hil : i < 4
        · have hlt : decide ((i : Int) < 4) = true := decide_eq_true (by omega)
          go_wp2_with fail
          refine (load_z (withβ m0 γ) _ (hs.get 1 rfl) ((a : Int) + (i : Int)) 1 0 (y / 2 ^ (8 * i) % 256) (by omega) (by decide) (by show mayE m0.n _ 1 = 0; rw [hn0]; unfold mayE; rw [if_pos (by decide), if_pos (by omega)]) (fun _ => by rw [show ((a : Int) + (i : Int)).toNat = a + i by omega]; refine (loadN_one _ _).trans ?_; show γ (a + i) = _; rw [hγ (a + i) (by omega), if_neg (by omega), storeN_get, if_pos (by omega), Nat.add_sub_cancel_left]) (fun h => absurd rfl h)).mono ?_
          rintro e u6 ⟨rfl, rfl⟩
          go_wp2_with fail
          refine (load_z c _ (hs.get 0 rfl) ((a : Int) + (i : Int)) 1 0 (c.β (a + i)) (by omega) (by decide) (by rw [hcn]; unfold mayE; rw [if_pos (by decide), if_pos (by omega)]) (fun _ => by rw [show ((a : Int) + (i : Int)).toNat = a + i by omega]; exact loadN_one _ _) (fun h => absurd rfl h)).mono ?_
          rintro e u7 ⟨rfl, rfl⟩
          go_wp2_with fail
          have hcl : c.β (a + i) < 256 := (hs.get 0 rfl).row.lt (a + i) (by rw [hcn]; omega)
          refine (store_z (withβ m0 γ) _ (hs.get 1 rfl) ((a : Int) + (i : Int)) 1 (c.β (a + i) : Nat) 0 (storeN γ (a + i) (c.β (a + i)) 1) (by omega) (by decide) (by omega) (by show mayE m0.n _ 1 = 0; rw [hn0]; unfold mayE; rw [if_pos (by decide), if_pos (by omega)]) (by unfold storeB; rw [if_pos (by show mayE m0.n _ 1 = 0; rw [hn0]; unfold mayE; rw [if_pos (by decide), if_pos (by omega)]), show ((a : Int) + (i : Int)).toNat = a + i by omega]; rfl)).mono ?_
          rintro e u8 ⟨rfl, hm, hk⟩
          replace hs : MS w [c, withβ m0 (storeN γ (a + i) (c.β (a + i)) 1)] u8 := hs.stored 1 rfl hk hm
          clear hm hk
          go_wp2_with fail
          refine ⟨?_, by first | (simp only [intOf]; omega) | (simp [intOf] <;> omega)⟩
          refine (?_ : ∀ X : ∀ k, k < 65536 → storeN γ (a + i) (c.β (a + i)) 1 k = if a ≤ k ∧ k < a + (i + 1) then c.β k else storeN β1 a y 4 k, _) fun k hk => ?_
          · exact fun X => by first | exact ⟨i + 1, by omega, by go_num, _, hs, X⟩ | ((repeat apply Exists.intro); exact ⟨⟨i + 1, by omega, by go_num, _, hs, X⟩, rfl⟩)
          rw [storeN_get]
          by_cases e : k = a + i
          · subst e
            rw [if_pos (by omega), if_pos (by omega), Nat.sub_self, Nat.mul_zero, Nat.pow_zero, Nat.div_one, Nat.mod_eq_of_lt hcl]
          · rw [if_neg (by omega), hγ k hk]
            by_cases e1 : a ≤ k ∧ k < a + i
            · rw [if_pos e1, if_pos (by omega)]
            · rw [if_neg e1, if_neg (by omega)]
        · obtain rfl : i = 4 := by omega
          go_wp2_with fail
          refine (same_z (withβ m0 γ) c _ (hs.get 1 rfl) (hs.get 0 rfl) (hn0.trans hcn.symm) (fun k hk => ?_) _ _ rfl rfl).mono ?_
          · have hk : k < 65536 := by rw [← hn0]; exact hk
            show γ k = c.β k
            rw [hγ k hk]
            by_cases e : a ≤ k ∧ k < a + 4
            · rw [if_pos e]
            · rw [if_neg e, storeN_get, if_neg e, hcβ k hk]
          rintro e u8 ⟨rfl, hb⟩
          replace hs := hs.below hb
          go_wp2_with fail
          go_ret
          exact ⟨rfl, hs.bel⟩


set_option maxHeartbeats 2000000 in
set_option maxRecDepth 100000 in
theorem whole_in8 (a y : Nat) (n : Int) (w : World) (ha : a < 18446744073709551616) (hn : -9223372036854775808 ≤ n ∧ n ≤ 9223372036854775807) (hy : y < 18446744073709551616) (hn1 : n = 8) (hin : a + 8 ≤ 65536) :
    Calls Try.prog 5 #[.int .u64 (a : Nat), .int .i64 n, .int .u64 (y : Nat)] w fun e w' => e = .returned (.bool true) ∧ Below w.heap.size w w' := by
  subst hn1
  have HE := Lib.hid (show mayE 65536 a 8 = 0 by unfold mayE; rw [if_pos (by decide), if_pos (by simpa using hin)])
  have hN : ∀ W, Calls Try.prog 13 #[.int .i64 1, .int .i64 1] W fun e w' => ∃ o, e = .returned (.tuple #[.pointer (some ⟨o.p, 0, none⟩), .int .i64 0]) ∧ Fresh W w' o 86 65536 (fun _ => 0) 1 := fun W => new_ok 1 1 W (by decide) (by decide)
  have HN := Lib.hid hN
  clear hN
  go_enter Try.func5, Try.ntmps5
  go_wp2_with (go_at_call 12; (with_reducible refine (awake10 _).mono ?_); rintro e u ⟨rfl, hb⟩)
  refine (HN.out _).mono ?_
  rintro e u1 ⟨m0, rfl, hf⟩
  have hs : MS w [m0] u1 := ((MS.start w).below hb).fresh hf
  have hn0 := hf.hn
  have hT0 := hf.hT
  clear hb hf HN
  go_wp2_with fail
  go_loopw [9] (fun iv wr => ∃ j : Nat, j ≤ 16 ∧ iv = .int .i64 (4096 * (j : Int)) ∧ ∃ β, MS w [withβ m0 β] wr) (fun iv _ => (65536 - intOf iv).toNat)
  case atStart => exact ⟨0, by omega, rfl, m0.β, hs⟩
  case round =>
    clear hs
    obtain ⟨j, hj, rfl, β, hs⟩ := hrel
    by_cases hjl : j < 16
    · have hlt : decide (4096 * (j : Int) < 65536) = true := decide_eq_true (by omega)
      go_wp2_with fail
      refine (store_z (withβ m0 β) wr (hs.get 0 rfl) (4096 * (j : Int)) 8 1234605616436508552 _ _ (by omega) (by decide) (by decide) rfl rfl).mono ?_
      rintro e u2 ⟨rfl, hm, hk⟩
      replace hs := hs.stored 0 rfl hk hm
      clear hm hk
      go_wp2_with fail
      exact ⟨⟨j + 1, by omega, by rw [show (4096 : Int) * (j : Int) + 4096 = 4096 * ((j + 1 : Nat) : Int) by omega], _, hs⟩, by simp only [intOf]; omega⟩
    · obtain rfl : j = 16 := by omega
      go_wp2_with fail
      refine (store_z (withβ m0 β) wr (hs.get 0 rfl) 65528 8 11647051513882650536 _ _ (by decide) (by decide) (by decide) rfl rfl).mono ?_
      rintro e u2 ⟨rfl, hm, hk⟩
      replace hs := hs.stored 0 rfl hk hm
      clear hm hk
      generalize storeB _ _ _ _ = β1 at hs
      replace hs : MS w [withβ m0 β1] u2 := hs
      clear hjl
      go_wp2_with fail
      refine (clone_k (withβ m0 β1) u2 (hs.get 0 rfl) hT0).mono ?_
      rintro e u3 ⟨c, rfl, hf⟩
      replace hs : MS w [c, withβ m0 β1] u3 := hs.fresh hf
      have hcn : c.n = 65536 := hf.hn.trans hn0
      have hcβ : ∀ i, i < 65536 → c.β i = β1 i := fun i hi => hf.hβ i (by rw [show (withβ m0 β1).n = m0.n from rfl, hn0]; exact hi)
      clear hf
      go_wp2_with fail
      have hst := store_z (withβ m0 β1) u3 (hs.get 1 rfl) (a : Nat) 8 (y : Nat) 0 (storeN β1 a y 8) (by omega) (by decide) (by omega) (by rw [show (withβ m0 β1).n = m0.n from rfl, hn0]; exact HE.out) (by unfold storeB; rw [show (withβ m0 β1).n = m0.n from rfl, hn0, if_pos (by exact HE.out)]; rfl)
      refine hst.mono ?_
      rintro e u4 ⟨rfl, hm, hk⟩
      replace hs : MS w [c, withβ m0 (storeN β1 a y 8)] u4 := hs.stored 1 rfl hk hm
      clear hm hk hst
      go_wp2_with fail
      refine (load_z (withβ m0 (storeN β1 a y 8)) _ (hs.get 1 rfl) (a : Nat) 8 0 y (by omega) (by decide) (by rw [show (withβ m0 (storeN β1 a y 8)).n = m0.n from rfl, hn0]; exact HE.out) (fun _ => (load_store β1 a y 8).trans (Nat.mod_eq_of_lt hy)) (fun h => absurd rfl h)).mono ?_
      rintro e u5 ⟨rfl, rfl⟩
      clear HE
      go_wp2_with fail
      go_loopw [14] (fun iv wr => ∃ i : Nat, i ≤ 8 ∧ iv = .int .i64 (i : Int) ∧ ∃ γ, MS w [c, withβ m0 γ] wr ∧ ∀ k, k < 65536 → γ k = if a ≤ k ∧ k < a + i then c.β k else storeN β1 a y 8 k) (fun iv _ => (8 - intOf iv).toNat)
      case atStart => exact ⟨0, by omega, rfl, _, hs, fun k _ => by rw [if_neg (by omega)]⟩
      case round =>
        clear hs
        obtain ⟨i, hi, rfl, γ, hs, hγ⟩ := hrel
        by_cases hil : i < 8
        · have hlt : decide ((i : Int) < 8) = true := decide_eq_true (by omega)
          go_wp2_with fail
          refine (load_z (withβ m0 γ) _ (hs.get 1 rfl) ((a : Int) + (i : Int)) 1 0 (y / 2 ^ (8 * i) % 256) (by omega) (by decide) (by show mayE m0.n _ 1 = 0; rw [hn0]; unfold mayE; rw [if_pos (by decide), if_pos (by omega)]) (fun _ => by rw [show ((a : Int) + (i : Int)).toNat = a + i by omega]; refine (loadN_one _ _).trans ?_; show γ (a + i) = _; rw [hγ (a + i) (by omega), if_neg (by omega), storeN_get, if_pos (by omega), Nat.add_sub_cancel_left]) (fun h => absurd rfl h)).mono ?_
          rintro e u6 ⟨rfl, rfl⟩
          go_wp2_with fail
          refine (load_z c _ (hs.get 0 rfl) ((a : Int) + (i : Int)) 1 0 (c.β (a + i)) (by omega) (by decide) (by rw [hcn]; unfold mayE; rw [if_pos (by decide), if_pos (by omega)]) (fun _ => by rw [show ((a : Int) + (i : Int)).toNat = a + i by omega]; exact loadN_one _ _) (fun h => absurd rfl h)).mono ?_
          rintro e u7 ⟨rfl, rfl⟩
          go_wp2_with fail
          have hcl : c.β (a + i) < 256 := (hs.get 0 rfl).row.lt (a + i) (by rw [hcn]; omega)
          refine (store_z (withβ m0 γ) _ (hs.get 1 rfl) ((a : Int) + (i : Int)) 1 (c.β (a + i) : Nat) 0 (storeN γ (a + i) (c.β (a + i)) 1) (by omega) (by decide) (by omega) (by show mayE m0.n _ 1 = 0; rw [hn0]; unfold mayE; rw [if_pos (by decide), if_pos (by omega)]) (by unfold storeB; rw [if_pos (by show mayE m0.n _ 1 = 0; rw [hn0]; unfold mayE; rw [if_pos (by decide), if_pos (by omega)]), show ((a : Int) + (i : Int)).toNat = a + i by omega]; rfl)).mono ?_
          rintro e u8 ⟨rfl, hm, hk⟩
          replace hs : MS w [c, withβ m0 (storeN γ (a + i) (c.β (a + i)) 1)] u8 := hs.stored 1 rfl hk hm
          clear hm hk
          go_wp2_with fail
          refine ⟨?_, by first | (simp only [intOf]; omega) | (simp [intOf] <;> omega)⟩
          refine (?_ : ∀ X : ∀ k, k < 65536 → storeN γ (a + i) (c.β (a + i)) 1 k = if a ≤ k ∧ k < a + (i + 1) then c.β k else storeN β1 a y 8 k, _) fun k hk => ?_
          · exact fun X => by first | exact ⟨i + 1, by omega, by go_num, _, hs, X⟩ | ((repeat apply Exists.intro); exact ⟨⟨i + 1, by omega, by go_num, _, hs, X⟩, rfl⟩)
          rw [storeN_get]
          by_cases e : k = a + i
          · subst e
            rw [if_pos (by omega), if_pos (by omega), Nat.sub_self, Nat.mul_zero, Nat.pow_zero, Nat.div_one, Nat.mod_eq_of_lt hcl]
          · rw [if_neg (by omega), hγ k hk]
            by_cases e1 : a ≤ k ∧ k < a + i
            · rw [if_pos e1, if_pos (by omega)]
            · rw [if_neg e1, if_neg (by omega)]
        · obtain rfl : i = 8 := by omega
          go_wp2_with fail
          refine (same_z (withβ m0 γ) c _ (hs.get 1 rfl) (hs.get 0 rfl) (hn0.trans hcn.symm) (fun k hk => ?_) _ _ rfl rfl).mono ?_
          · have hk : k < 65536 := by rw [← hn0]; exact hk
            show γ k = c.β k
            rw [hγ k hk]
            by_cases e : a ≤ k ∧ k < a + 8
            · rw [if_pos e]
            · rw [if_neg e, storeN_get, if_neg e, hcβ k hk]
          rintro e u8 ⟨rfl, hb⟩
          replace hs := hs.below hb
          go_wp2_with fail
          go_ret
          exact ⟨rfl, hs.bel⟩

theorem whole_nat (a y : Nat) (n : Int) (w : World) (ha : a < 18446744073709551616) (hn : -9223372036854775808 ≤ n ∧ n ≤ 9223372036854775807) (hy : y < 18446744073709551616) :
    Calls Try.prog 5 #[.int .u64 (a : Nat), .int .i64 n, .int .u64 (y : Nat)] w fun e w' => e = .returned (.bool true) ∧ Below w.heap.size w w' := by
  by_cases hs0 : szOk n = true
  · rcases szOk_cases hs0 with h | h | h | h
    · by_cases hin : a + 1 ≤ 65536
      · exact whole_in1 a y n w ha hn hy h hin
      · exact whole_far1 a y n w ha hn hy h hin
    · by_cases hin : a + 2 ≤ 65536
      · exact whole_in2 a y n w ha hn hy h hin
      · exact whole_far2 a y n w ha hn hy h hin
    · by_cases hin : a + 4 ≤ 65536
      · exact whole_in4 a y n w ha hn hy h hin
      · exact whole_far4 a y n w ha hn hy h hin
    · by_cases hin : a + 8 ≤ 65536
      · exact whole_in8 a y n w ha hn hy h hin
      · exact whole_far8 a y n w ha hn hy h hin
  · exact whole_one a y n w ha hn hy hs0
theorem whole_walk (a n y : Int) (w : World) (ha : 0 ≤ a ∧ a < 18446744073709551616) (hn : -9223372036854775808 ≤ n ∧ n ≤ 9223372036854775807) (hy : 0 ≤ y ∧ y < 18446744073709551616) :
    Calls Try.prog 5 #[.int .u64 a, .int .i64 n, .int .u64 y] w fun e w' => e = .returned (.bool true) ∧ Below w.heap.size w w' := by
  obtain ⟨k, rfl⟩ := Int.eq_ofNat_of_zero_le ha.1
  obtain ⟨z, rfl⟩ := Int.eq_ofNat_of_zero_le hy.1
  exact whole_nat k z n w (by omega) hn (by omega)

end Go.Proofs.Ytlcndenbnokcjaa
