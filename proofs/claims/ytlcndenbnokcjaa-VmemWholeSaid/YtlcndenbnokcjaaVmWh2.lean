/-
  VmemWhole, walks by opcode.
-/
import Derived.Test.YtlcndenbnokcjaaVmWe
set_option linter.unusedSimpArgs false
set_option linter.unusedVariables false
namespace Go.Proofs.Ytlcndenbnokcjaa
open Go.RowKit Pl

set_option maxRecDepth 100000 in
set_option maxHeartbeats 2000000 in
theorem whole_02_far (a b : Int) (lo : Int) (hi at_ : Int) (L : Value) (v : Vec) (A : Nat) (w : World) (ha : 0 ≤ at_ ∧ at_ < 4294967296) (hb : 0 ≤ b ∧ b < 4294967296) (hA : (A : Int) = at_ + b)  (hin : ¬ A + 8 ≤ 65536) :
    Calls Try.prog 9 #[inV 64770 a b lo hi L, .int .u32 at_, .agg (cells v)] w fun e w' => e = .returned (.bool true) ∧ Below w.heap.size w w' := by
  have S1' : ∀ W, Calls Try.prog 33 #[.int .i64 64770] W fun e w' => e = .returned (.int .i64 8) ∧ Below W.heap.size W w' := fun W => sized_any 64770 W (by decide)
  have S1 := Lib.hid S1'
  have S2 := Lib.hid (fun W => vsize_02 W)
  have HF := Lib.hid filled_k
  have HA := Lib.hid hA
  clear S1' hA
  have hd1 : decide (b < 0) = false := decide_eq_false (by omega)
  have hd2 : decide (4294967296 ≤ b) = false := decide_eq_false (by omega)

  go_enter Try.func9, Try.ntmps9
  go_wp2_with fail
  have hs : WI w (.int .i64 64770) (.int .i64 a) (.int .i64 b) (.int .u64 lo) (.int .u64 hi) L v [] ((w.alloc (.cells #[.int .i64 64770, .int .i64 a, .int .i64 b, .int .u64 lo, .int .u64 hi, L] 65)).alloc (.cells (cells v) 61)) := WI.start w
  refine (awake11 _).mono ?_
  rintro e u0 ⟨rfl, hb0⟩
  replace hs := hs.below hb0
  clear hb0
  have C0 := hs.cell 0
  go_wp2_with fail
  refine (S1.out _).mono ?_
  rintro e u1 ⟨rfl, hb1⟩
  replace hs := hs.below hb1
  clear hb1 C0
  have C0 := hs.cell 0
  have C2 := hs.cell 2
  have C3 := hs.cell 3
  go_wp2_with fail
  refine (S2.out _).mono ?_
  rintro e u2 ⟨rfl, rfl⟩
  go_wp2_with fail
  go_region
  go_wp2_with fail
  clear C0 C2 C3 hd1 hd2 
  refine (HF.out _).mono ?_
  rintro e u3 ⟨o, rfl, hf⟩
  have on := hf.hn
  have oβ := hf.hβ
  replace hs := hs.fresh hf.undrew
  have C0 := hs.cell 0
  have C2 := hs.cell 2
  have C3 := hs.cell 3
  clear hf HF S1 S2
  go_wp2_with (first | ((with_reducible refine load_vec_g ?_ _ rfl _ rfl _ hs.vec ?_); (focus rfl)) | ((with_reducible refine load_in ?_ _ rfl _ rfl _ _ _ _ _ _ hs.ins ?_); (focus rfl)))
  refine (vload_02_far o v a b lo hi at_ L A _ (hs.ms.get 0 rfl) ha hb HA.out  (by rw [on]; exact hin)).mono ?_
  rintro e u4 ⟨rfl, hb4⟩
  replace hs := hs.below hb4
  have hsum : decide (65536 < at_ + b + 8) = true := decide_eq_true (by have := HA.out; omega)
  clear hb4 C0 C2 C3
  go_wp2_with fail
  refine (untouched_k o _ (hs.ms.get 0 rfl) on (-1) 0 (by decide) (by decide) (fun k hk _ => oβ k hk)).mono ?_
  rintro e u6 ⟨rfl, hb6⟩
  replace hs := hs.below hb6
  go_wp2_with fail
  go_ret
  exact ⟨rfl, hs.ms.bel⟩

set_option maxRecDepth 100000 in
set_option maxHeartbeats 2000000 in
theorem whole_02_in (a b : Int) (lo : Int) (hi at_ : Int) (L : Value) (v : Vec) (A : Nat) (w : World) (ha : 0 ≤ at_ ∧ at_ < 4294967296) (hb : 0 ≤ b ∧ b < 4294967296) (hA : (A : Int) = at_ + b)  (hin : A + 8 ≤ 65536) :
    Calls Try.prog 9 #[inV 64770 a b lo hi L, .int .u32 at_, .agg (cells v)] w fun e w' => e = .returned (.bool true) ∧ Below w.heap.size w w' := by
  have S1' : ∀ W, Calls Try.prog 33 #[.int .i64 64770] W fun e w' => e = .returned (.int .i64 8) ∧ Below W.heap.size W w' := fun W => sized_any 64770 W (by decide)
  have S1 := Lib.hid S1'
  have S2 := Lib.hid (fun W => vsize_02 W)
  have HF := Lib.hid filled_k
  have HA := Lib.hid hA
  clear S1' hA
  have hd1 : decide (b < 0) = false := decide_eq_false (by omega)
  have hd2 : decide (4294967296 ≤ b) = false := decide_eq_false (by omega)

  go_enter Try.func9, Try.ntmps9
  go_wp2_with fail
  have hs : WI w (.int .i64 64770) (.int .i64 a) (.int .i64 b) (.int .u64 lo) (.int .u64 hi) L v [] ((w.alloc (.cells #[.int .i64 64770, .int .i64 a, .int .i64 b, .int .u64 lo, .int .u64 hi, L] 65)).alloc (.cells (cells v) 61)) := WI.start w
  refine (awake11 _).mono ?_
  rintro e u0 ⟨rfl, hb0⟩
  replace hs := hs.below hb0
  clear hb0
  have C0 := hs.cell 0
  go_wp2_with fail
  refine (S1.out _).mono ?_
  rintro e u1 ⟨rfl, hb1⟩
  replace hs := hs.below hb1
  clear hb1 C0
  have C0 := hs.cell 0
  have C2 := hs.cell 2
  have C3 := hs.cell 3
  go_wp2_with fail
  refine (S2.out _).mono ?_
  rintro e u2 ⟨rfl, rfl⟩
  go_wp2_with fail
  go_region
  go_wp2_with fail
  clear C0 C2 C3 hd1 hd2 
  refine (HF.out _).mono ?_
  rintro e u3 ⟨o, rfl, hf⟩
  have on := hf.hn
  have oβ := hf.hβ
  replace hs := hs.fresh hf.undrew
  have C0 := hs.cell 0
  have C2 := hs.cell 2
  have C3 := hs.cell 3
  clear hf HF S1 S2
  go_wp2_with (first | ((with_reducible refine load_vec_g ?_ _ rfl _ rfl _ hs.vec ?_); (focus rfl)) | ((with_reducible refine load_in ?_ _ rfl _ rfl _ _ _ _ _ _ hs.ins ?_); (focus rfl)))
  refine (vload_02 o v a b lo hi at_ L A _ (hs.ms.get 0 rfl) ha hb HA.out  (by rw [on]; exact hin)).mono ?_
  rintro e u4 ⟨rfl, hb4⟩
  replace hs := hs.below hb4
  have hsum : decide (65536 < at_ + b + 8) = false := decide_eq_false (by have := HA.out; omega)
  clear hb4 C0 C2 C3
  go_wp2_with fail
  refine (untouched_k o _ (hs.ms.get 0 rfl) on (-1) 0 (by decide) (by decide) (fun k hk _ => oβ k hk)).mono ?_
  rintro e u6 ⟨rfl, hb6⟩
  replace hs := hs.below hb6
  go_wp2_with fail
  go_ret
  exact ⟨rfl, hs.ms.bel⟩

set_option maxRecDepth 100000 in
set_option maxHeartbeats 2000000 in
theorem whole_06_far (a b : Int) (lo : Int) (hi at_ : Int) (L : Value) (v : Vec) (A : Nat) (w : World) (ha : 0 ≤ at_ ∧ at_ < 4294967296) (hb : 0 ≤ b ∧ b < 4294967296) (hA : (A : Int) = at_ + b)  (hin : ¬ A + 8 ≤ 65536) :
    Calls Try.prog 9 #[inV 64774 a b lo hi L, .int .u32 at_, .agg (cells v)] w fun e w' => e = .returned (.bool true) ∧ Below w.heap.size w w' := by
  have S1' : ∀ W, Calls Try.prog 33 #[.int .i64 64774] W fun e w' => e = .returned (.int .i64 8) ∧ Below W.heap.size W w' := fun W => sized_any 64774 W (by decide)
  have S1 := Lib.hid S1'
  have S2 := Lib.hid (fun W => vsize_06 W)
  have HF := Lib.hid filled_k
  have HA := Lib.hid hA
  clear S1' hA
  have hd1 : decide (b < 0) = false := decide_eq_false (by omega)
  have hd2 : decide (4294967296 ≤ b) = false := decide_eq_false (by omega)

  go_enter Try.func9, Try.ntmps9
  go_wp2_with fail
  have hs : WI w (.int .i64 64774) (.int .i64 a) (.int .i64 b) (.int .u64 lo) (.int .u64 hi) L v [] ((w.alloc (.cells #[.int .i64 64774, .int .i64 a, .int .i64 b, .int .u64 lo, .int .u64 hi, L] 65)).alloc (.cells (cells v) 61)) := WI.start w
  refine (awake11 _).mono ?_
  rintro e u0 ⟨rfl, hb0⟩
  replace hs := hs.below hb0
  clear hb0
  have C0 := hs.cell 0
  go_wp2_with fail
  refine (S1.out _).mono ?_
  rintro e u1 ⟨rfl, hb1⟩
  replace hs := hs.below hb1
  clear hb1 C0
  have C0 := hs.cell 0
  have C2 := hs.cell 2
  have C3 := hs.cell 3
  go_wp2_with fail
  refine (S2.out _).mono ?_
  rintro e u2 ⟨rfl, rfl⟩
  go_wp2_with fail
  go_region
  go_wp2_with fail
  clear C0 C2 C3 hd1 hd2 
  refine (HF.out _).mono ?_
  rintro e u3 ⟨o, rfl, hf⟩
  have on := hf.hn
  have oβ := hf.hβ
  replace hs := hs.fresh hf.undrew
  have C0 := hs.cell 0
  have C2 := hs.cell 2
  have C3 := hs.cell 3
  clear hf HF S1 S2
  go_wp2_with (first | ((with_reducible refine load_vec_g ?_ _ rfl _ rfl _ hs.vec ?_); (focus rfl)) | ((with_reducible refine load_in ?_ _ rfl _ rfl _ _ _ _ _ _ hs.ins ?_); (focus rfl)))
  refine (vload_06_far o v a b lo hi at_ L A _ (hs.ms.get 0 rfl) ha hb HA.out  (by rw [on]; exact hin)).mono ?_
  rintro e u4 ⟨rfl, hb4⟩
  replace hs := hs.below hb4
  have hsum : decide (65536 < at_ + b + 8) = true := decide_eq_true (by have := HA.out; omega)
  clear hb4 C0 C2 C3
  go_wp2_with fail
  refine (untouched_k o _ (hs.ms.get 0 rfl) on (-1) 0 (by decide) (by decide) (fun k hk _ => oβ k hk)).mono ?_
  rintro e u6 ⟨rfl, hb6⟩
  replace hs := hs.below hb6
  go_wp2_with fail
  go_ret
  exact ⟨rfl, hs.ms.bel⟩

set_option maxRecDepth 100000 in
set_option maxHeartbeats 2000000 in
theorem whole_06_in (a b : Int) (lo : Int) (hi at_ : Int) (L : Value) (v : Vec) (A : Nat) (w : World) (ha : 0 ≤ at_ ∧ at_ < 4294967296) (hb : 0 ≤ b ∧ b < 4294967296) (hA : (A : Int) = at_ + b)  (hin : A + 8 ≤ 65536) :
    Calls Try.prog 9 #[inV 64774 a b lo hi L, .int .u32 at_, .agg (cells v)] w fun e w' => e = .returned (.bool true) ∧ Below w.heap.size w w' := by
  have S1' : ∀ W, Calls Try.prog 33 #[.int .i64 64774] W fun e w' => e = .returned (.int .i64 8) ∧ Below W.heap.size W w' := fun W => sized_any 64774 W (by decide)
  have S1 := Lib.hid S1'
  have S2 := Lib.hid (fun W => vsize_06 W)
  have HF := Lib.hid filled_k
  have HA := Lib.hid hA
  clear S1' hA
  have hd1 : decide (b < 0) = false := decide_eq_false (by omega)
  have hd2 : decide (4294967296 ≤ b) = false := decide_eq_false (by omega)

  go_enter Try.func9, Try.ntmps9
  go_wp2_with fail
  have hs : WI w (.int .i64 64774) (.int .i64 a) (.int .i64 b) (.int .u64 lo) (.int .u64 hi) L v [] ((w.alloc (.cells #[.int .i64 64774, .int .i64 a, .int .i64 b, .int .u64 lo, .int .u64 hi, L] 65)).alloc (.cells (cells v) 61)) := WI.start w
  refine (awake11 _).mono ?_
  rintro e u0 ⟨rfl, hb0⟩
  replace hs := hs.below hb0
  clear hb0
  have C0 := hs.cell 0
  go_wp2_with fail
  refine (S1.out _).mono ?_
  rintro e u1 ⟨rfl, hb1⟩
  replace hs := hs.below hb1
  clear hb1 C0
  have C0 := hs.cell 0
  have C2 := hs.cell 2
  have C3 := hs.cell 3
  go_wp2_with fail
  refine (S2.out _).mono ?_
  rintro e u2 ⟨rfl, rfl⟩
  go_wp2_with fail
  go_region
  go_wp2_with fail
  clear C0 C2 C3 hd1 hd2 
  refine (HF.out _).mono ?_
  rintro e u3 ⟨o, rfl, hf⟩
  have on := hf.hn
  have oβ := hf.hβ
  replace hs := hs.fresh hf.undrew
  have C0 := hs.cell 0
  have C2 := hs.cell 2
  have C3 := hs.cell 3
  clear hf HF S1 S2
  go_wp2_with (first | ((with_reducible refine load_vec_g ?_ _ rfl _ rfl _ hs.vec ?_); (focus rfl)) | ((with_reducible refine load_in ?_ _ rfl _ rfl _ _ _ _ _ _ hs.ins ?_); (focus rfl)))
  refine (vload_06 o v a b lo hi at_ L A _ (hs.ms.get 0 rfl) ha hb HA.out  (by rw [on]; exact hin)).mono ?_
  rintro e u4 ⟨rfl, hb4⟩
  replace hs := hs.below hb4
  have hsum : decide (65536 < at_ + b + 8) = false := decide_eq_false (by have := HA.out; omega)
  clear hb4 C0 C2 C3
  go_wp2_with fail
  refine (untouched_k o _ (hs.ms.get 0 rfl) on (-1) 0 (by decide) (by decide) (fun k hk _ => oβ k hk)).mono ?_
  rintro e u6 ⟨rfl, hb6⟩
  replace hs := hs.below hb6
  go_wp2_with fail
  go_ret
  exact ⟨rfl, hs.ms.bel⟩

set_option maxRecDepth 100000 in
set_option maxHeartbeats 2000000 in
theorem whole_0a_far (a b : Int) (lo : Int) (hi at_ : Int) (L : Value) (v : Vec) (A : Nat) (w : World) (ha : 0 ≤ at_ ∧ at_ < 4294967296) (hb : 0 ≤ b ∧ b < 4294967296) (hA : (A : Int) = at_ + b)  (hin : ¬ A + 8 ≤ 65536) :
    Calls Try.prog 9 #[inV 64778 a b lo hi L, .int .u32 at_, .agg (cells v)] w fun e w' => e = .returned (.bool true) ∧ Below w.heap.size w w' := by
  have S1' : ∀ W, Calls Try.prog 33 #[.int .i64 64778] W fun e w' => e = .returned (.int .i64 8) ∧ Below W.heap.size W w' := fun W => sized_any 64778 W (by decide)
  have S1 := Lib.hid S1'
  have S2 := Lib.hid (fun W => vsize_0a W)
  have HF := Lib.hid filled_k
  have HA := Lib.hid hA
  clear S1' hA
  have hd1 : decide (b < 0) = false := decide_eq_false (by omega)
  have hd2 : decide (4294967296 ≤ b) = false := decide_eq_false (by omega)

  go_enter Try.func9, Try.ntmps9
  go_wp2_with fail
  have hs : WI w (.int .i64 64778) (.int .i64 a) (.int .i64 b) (.int .u64 lo) (.int .u64 hi) L v [] ((w.alloc (.cells #[.int .i64 64778, .int .i64 a, .int .i64 b, .int .u64 lo, .int .u64 hi, L] 65)).alloc (.cells (cells v) 61)) := WI.start w
  refine (awake11 _).mono ?_
  rintro e u0 ⟨rfl, hb0⟩
  replace hs := hs.below hb0
  clear hb0
  have C0 := hs.cell 0
  go_wp2_with fail
  refine (S1.out _).mono ?_
  rintro e u1 ⟨rfl, hb1⟩
  replace hs := hs.below hb1
  clear hb1 C0
  have C0 := hs.cell 0
  have C2 := hs.cell 2
  have C3 := hs.cell 3
  go_wp2_with fail
  refine (S2.out _).mono ?_
  rintro e u2 ⟨rfl, rfl⟩
  go_wp2_with fail
  go_region
  go_wp2_with fail
  clear C0 C2 C3 hd1 hd2 
  refine (HF.out _).mono ?_
  rintro e u3 ⟨o, rfl, hf⟩
  have on := hf.hn
  have oβ := hf.hβ
  replace hs := hs.fresh hf.undrew
  have C0 := hs.cell 0
  have C2 := hs.cell 2
  have C3 := hs.cell 3
  clear hf HF S1 S2
  go_wp2_with (first | ((with_reducible refine load_vec_g ?_ _ rfl _ rfl _ hs.vec ?_); (focus rfl)) | ((with_reducible refine load_in ?_ _ rfl _ rfl _ _ _ _ _ _ hs.ins ?_); (focus rfl)))
  refine (vload_0a_far o v a b lo hi at_ L A _ (hs.ms.get 0 rfl) ha hb HA.out  (by rw [on]; exact hin)).mono ?_
  rintro e u4 ⟨rfl, hb4⟩
  replace hs := hs.below hb4
  have hsum : decide (65536 < at_ + b + 8) = true := decide_eq_true (by have := HA.out; omega)
  clear hb4 C0 C2 C3
  go_wp2_with fail
  refine (untouched_k o _ (hs.ms.get 0 rfl) on (-1) 0 (by decide) (by decide) (fun k hk _ => oβ k hk)).mono ?_
  rintro e u6 ⟨rfl, hb6⟩
  replace hs := hs.below hb6
  go_wp2_with fail
  go_ret
  exact ⟨rfl, hs.ms.bel⟩

set_option maxRecDepth 100000 in
set_option maxHeartbeats 2000000 in
theorem whole_0a_in (a b : Int) (lo : Int) (hi at_ : Int) (L : Value) (v : Vec) (A : Nat) (w : World) (ha : 0 ≤ at_ ∧ at_ < 4294967296) (hb : 0 ≤ b ∧ b < 4294967296) (hA : (A : Int) = at_ + b)  (hin : A + 8 ≤ 65536) :
    Calls Try.prog 9 #[inV 64778 a b lo hi L, .int .u32 at_, .agg (cells v)] w fun e w' => e = .returned (.bool true) ∧ Below w.heap.size w w' := by
  have S1' : ∀ W, Calls Try.prog 33 #[.int .i64 64778] W fun e w' => e = .returned (.int .i64 8) ∧ Below W.heap.size W w' := fun W => sized_any 64778 W (by decide)
  have S1 := Lib.hid S1'
  have S2 := Lib.hid (fun W => vsize_0a W)
  have HF := Lib.hid filled_k
  have HA := Lib.hid hA
  clear S1' hA
  have hd1 : decide (b < 0) = false := decide_eq_false (by omega)
  have hd2 : decide (4294967296 ≤ b) = false := decide_eq_false (by omega)

  go_enter Try.func9, Try.ntmps9
  go_wp2_with fail
  have hs : WI w (.int .i64 64778) (.int .i64 a) (.int .i64 b) (.int .u64 lo) (.int .u64 hi) L v [] ((w.alloc (.cells #[.int .i64 64778, .int .i64 a, .int .i64 b, .int .u64 lo, .int .u64 hi, L] 65)).alloc (.cells (cells v) 61)) := WI.start w
  refine (awake11 _).mono ?_
  rintro e u0 ⟨rfl, hb0⟩
  replace hs := hs.below hb0
  clear hb0
  have C0 := hs.cell 0
  go_wp2_with fail
  refine (S1.out _).mono ?_
  rintro e u1 ⟨rfl, hb1⟩
  replace hs := hs.below hb1
  clear hb1 C0
  have C0 := hs.cell 0
  have C2 := hs.cell 2
  have C3 := hs.cell 3
  go_wp2_with fail
  refine (S2.out _).mono ?_
  rintro e u2 ⟨rfl, rfl⟩
  go_wp2_with fail
  go_region
  go_wp2_with fail
  clear C0 C2 C3 hd1 hd2 
  refine (HF.out _).mono ?_
  rintro e u3 ⟨o, rfl, hf⟩
  have on := hf.hn
  have oβ := hf.hβ
  replace hs := hs.fresh hf.undrew
  have C0 := hs.cell 0
  have C2 := hs.cell 2
  have C3 := hs.cell 3
  clear hf HF S1 S2
  go_wp2_with (first | ((with_reducible refine load_vec_g ?_ _ rfl _ rfl _ hs.vec ?_); (focus rfl)) | ((with_reducible refine load_in ?_ _ rfl _ rfl _ _ _ _ _ _ hs.ins ?_); (focus rfl)))
  refine (vload_0a o v a b lo hi at_ L A _ (hs.ms.get 0 rfl) ha hb HA.out  (by rw [on]; exact hin)).mono ?_
  rintro e u4 ⟨rfl, hb4⟩
  replace hs := hs.below hb4
  have hsum : decide (65536 < at_ + b + 8) = false := decide_eq_false (by have := HA.out; omega)
  clear hb4 C0 C2 C3
  go_wp2_with fail
  refine (untouched_k o _ (hs.ms.get 0 rfl) on (-1) 0 (by decide) (by decide) (fun k hk _ => oβ k hk)).mono ?_
  rintro e u6 ⟨rfl, hb6⟩
  replace hs := hs.below hb6
  go_wp2_with fail
  go_ret
  exact ⟨rfl, hs.ms.bel⟩

set_option maxRecDepth 100000 in
set_option maxHeartbeats 2000000 in
theorem whole_56_far (a b : Int) (lo : Nat) (hi at_ : Int) (L : Value) (v : Vec) (A : Nat) (w : World) (ha : 0 ≤ at_ ∧ at_ < 4294967296) (hb : 0 ≤ b ∧ b < 4294967296) (hA : (A : Int) = at_ + b) (hl : lo < 4) (hin : ¬ A + 4 ≤ 65536) :
    Calls Try.prog 9 #[inV 64854 a b ((lo : Nat) : Int) hi L, .int .u32 at_, .agg (cells v)] w fun e w' => e = .returned (.bool true) ∧ Below w.heap.size w w' := by
  have S1' : ∀ W, Calls Try.prog 33 #[.int .i64 64854] W fun e w' => e = .returned (.int .i64 4) ∧ Below W.heap.size W w' := fun W => sized_any 64854 W (by decide)
  have S1 := Lib.hid S1'
  have S2 := Lib.hid (fun W => vsize_56 W)
  have HF := Lib.hid filled_k
  have HA := Lib.hid hA
  clear S1' hA
  have hd1 : decide (b < 0) = false := decide_eq_false (by omega)
  have hd2 : decide (4294967296 ≤ b) = false := decide_eq_false (by omega)
  have hd3 : decide ((4 : Int) ≤ (lo : Int)) = false := decide_eq_false (by omega)
  go_enter Try.func9, Try.ntmps9
  go_wp2_with fail
  have hs : WI w (.int .i64 64854) (.int .i64 a) (.int .i64 b) (.int .u64 ((lo : Nat) : Int)) (.int .u64 hi) L v [] ((w.alloc (.cells #[.int .i64 64854, .int .i64 a, .int .i64 b, .int .u64 ((lo : Nat) : Int), .int .u64 hi, L] 65)).alloc (.cells (cells v) 61)) := WI.start w
  refine (awake11 _).mono ?_
  rintro e u0 ⟨rfl, hb0⟩
  replace hs := hs.below hb0
  clear hb0
  have C0 := hs.cell 0
  go_wp2_with fail
  refine (S1.out _).mono ?_
  rintro e u1 ⟨rfl, hb1⟩
  replace hs := hs.below hb1
  clear hb1 C0
  have C0 := hs.cell 0
  have C2 := hs.cell 2
  have C3 := hs.cell 3
  go_wp2_with fail
  refine (S2.out _).mono ?_
  rintro e u2 ⟨rfl, rfl⟩
  go_wp2_with fail
  go_region
  go_wp2_with fail
  clear C0 C2 C3 hd1 hd2 hd3
  refine (HF.out _).mono ?_
  rintro e u3 ⟨o, rfl, hf⟩
  have on := hf.hn
  have oβ := hf.hβ
  replace hs := hs.fresh hf.undrew
  have C0 := hs.cell 0
  have C2 := hs.cell 2
  have C3 := hs.cell 3
  clear hf HF S1 S2
  go_wp2_with (first | ((with_reducible refine load_vec_g ?_ _ rfl _ rfl _ hs.vec ?_); (focus rfl)) | ((with_reducible refine load_in ?_ _ rfl _ rfl _ _ _ _ _ _ hs.ins ?_); (focus rfl)))
  refine (vload_56_far o v a b lo hi at_ L A _ (hs.ms.get 0 rfl) ha hb HA.out hl (by rw [on]; exact hin)).mono ?_
  rintro e u4 ⟨rfl, hb4⟩
  replace hs := hs.below hb4
  have hsum : decide (65536 < at_ + b + 4) = true := decide_eq_true (by have := HA.out; omega)
  clear hb4 C0 C2 C3
  go_wp2_with fail
  refine (untouched_k o _ (hs.ms.get 0 rfl) on (-1) 0 (by decide) (by decide) (fun k hk _ => oβ k hk)).mono ?_
  rintro e u6 ⟨rfl, hb6⟩
  replace hs := hs.below hb6
  go_wp2_with fail
  go_ret
  exact ⟨rfl, hs.ms.bel⟩

set_option maxRecDepth 100000 in
set_option maxHeartbeats 2000000 in
theorem whole_56_in (a b : Int) (lo : Nat) (hi at_ : Int) (L : Value) (v : Vec) (A : Nat) (w : World) (ha : 0 ≤ at_ ∧ at_ < 4294967296) (hb : 0 ≤ b ∧ b < 4294967296) (hA : (A : Int) = at_ + b) (hl : lo < 4) (hin : A + 4 ≤ 65536) :
    Calls Try.prog 9 #[inV 64854 a b ((lo : Nat) : Int) hi L, .int .u32 at_, .agg (cells v)] w fun e w' => e = .returned (.bool true) ∧ Below w.heap.size w w' := by
  have S1' : ∀ W, Calls Try.prog 33 #[.int .i64 64854] W fun e w' => e = .returned (.int .i64 4) ∧ Below W.heap.size W w' := fun W => sized_any 64854 W (by decide)
  have S1 := Lib.hid S1'
  have S2 := Lib.hid (fun W => vsize_56 W)
  have HF := Lib.hid filled_k
  have HA := Lib.hid hA
  clear S1' hA
  have hd1 : decide (b < 0) = false := decide_eq_false (by omega)
  have hd2 : decide (4294967296 ≤ b) = false := decide_eq_false (by omega)
  have hd3 : decide ((4 : Int) ≤ (lo : Int)) = false := decide_eq_false (by omega)
  go_enter Try.func9, Try.ntmps9
  go_wp2_with fail
  have hs : WI w (.int .i64 64854) (.int .i64 a) (.int .i64 b) (.int .u64 ((lo : Nat) : Int)) (.int .u64 hi) L v [] ((w.alloc (.cells #[.int .i64 64854, .int .i64 a, .int .i64 b, .int .u64 ((lo : Nat) : Int), .int .u64 hi, L] 65)).alloc (.cells (cells v) 61)) := WI.start w
  refine (awake11 _).mono ?_
  rintro e u0 ⟨rfl, hb0⟩
  replace hs := hs.below hb0
  clear hb0
  have C0 := hs.cell 0
  go_wp2_with fail
  refine (S1.out _).mono ?_
  rintro e u1 ⟨rfl, hb1⟩
  replace hs := hs.below hb1
  clear hb1 C0
  have C0 := hs.cell 0
  have C2 := hs.cell 2
  have C3 := hs.cell 3
  go_wp2_with fail
  refine (S2.out _).mono ?_
  rintro e u2 ⟨rfl, rfl⟩
  go_wp2_with fail
  go_region
  go_wp2_with fail
  clear C0 C2 C3 hd1 hd2 hd3
  refine (HF.out _).mono ?_
  rintro e u3 ⟨o, rfl, hf⟩
  have on := hf.hn
  have oβ := hf.hβ
  replace hs := hs.fresh hf.undrew
  have C0 := hs.cell 0
  have C2 := hs.cell 2
  have C3 := hs.cell 3
  clear hf HF S1 S2
  go_wp2_with (first | ((with_reducible refine load_vec_g ?_ _ rfl _ rfl _ hs.vec ?_); (focus rfl)) | ((with_reducible refine load_in ?_ _ rfl _ rfl _ _ _ _ _ _ hs.ins ?_); (focus rfl)))
  refine (vload_56 o v a b lo hi at_ L A _ (hs.ms.get 0 rfl) ha hb HA.out hl (by rw [on]; exact hin)).mono ?_
  rintro e u4 ⟨rfl, hb4⟩
  replace hs := hs.below hb4
  have hsum : decide (65536 < at_ + b + 4) = false := decide_eq_false (by have := HA.out; omega)
  clear hb4 C0 C2 C3
  go_wp2_with fail
  refine (untouched_k o _ (hs.ms.get 0 rfl) on (-1) 0 (by decide) (by decide) (fun k hk _ => oβ k hk)).mono ?_
  rintro e u6 ⟨rfl, hb6⟩
  replace hs := hs.below hb6
  go_wp2_with fail
  go_ret
  exact ⟨rfl, hs.ms.bel⟩

set_option maxRecDepth 100000 in
set_option maxHeartbeats 2000000 in
theorem whole_5a_far (a b : Int) (lo : Nat) (hi at_ : Int) (L : Value) (v : Vec) (A : Nat) (w : World) (ha : 0 ≤ at_ ∧ at_ < 4294967296) (hb : 0 ≤ b ∧ b < 4294967296) (hA : (A : Int) = at_ + b) (hl : lo < 4) (hin : ¬ A + 4 ≤ 65536) :
    Calls Try.prog 9 #[inV 64858 a b ((lo : Nat) : Int) hi L, .int .u32 at_, .agg (cells v)] w fun e w' => e = .returned (.bool true) ∧ Below w.heap.size w w' := by
  have S1' : ∀ W, Calls Try.prog 33 #[.int .i64 64858] W fun e w' => e = .returned (.int .i64 4) ∧ Below W.heap.size W w' := fun W => sized_any 64858 W (by decide)
  have S1 := Lib.hid S1'
  have S2 := Lib.hid (fun W => vsize_5a W)
  have HF := Lib.hid filled_k
  have HA := Lib.hid hA
  clear S1' hA
  have hd1 : decide (b < 0) = false := decide_eq_false (by omega)
  have hd2 : decide (4294967296 ≤ b) = false := decide_eq_false (by omega)
  have hd3 : decide ((4 : Int) ≤ (lo : Int)) = false := decide_eq_false (by omega)
  go_enter Try.func9, Try.ntmps9
  go_wp2_with fail
  have hs : WI w (.int .i64 64858) (.int .i64 a) (.int .i64 b) (.int .u64 ((lo : Nat) : Int)) (.int .u64 hi) L v [] ((w.alloc (.cells #[.int .i64 64858, .int .i64 a, .int .i64 b, .int .u64 ((lo : Nat) : Int), .int .u64 hi, L] 65)).alloc (.cells (cells v) 61)) := WI.start w
  refine (awake11 _).mono ?_
  rintro e u0 ⟨rfl, hb0⟩
  replace hs := hs.below hb0
  clear hb0
  have C0 := hs.cell 0
  go_wp2_with fail
  refine (S1.out _).mono ?_
  rintro e u1 ⟨rfl, hb1⟩
  replace hs := hs.below hb1
  clear hb1 C0
  have C0 := hs.cell 0
  have C2 := hs.cell 2
  have C3 := hs.cell 3
  go_wp2_with fail
  refine (S2.out _).mono ?_
  rintro e u2 ⟨rfl, rfl⟩
  go_wp2_with fail
  go_region
  go_wp2_with fail
  clear C0 C2 C3 hd1 hd2 hd3
  refine (HF.out _).mono ?_
  rintro e u3 ⟨o, rfl, hf⟩
  have on := hf.hn
  have oβ := hf.hβ
  replace hs := hs.fresh hf.undrew
  have C0 := hs.cell 0
  have C2 := hs.cell 2
  have C3 := hs.cell 3
  clear hf HF S1 S2
  go_wp2_with (first | ((with_reducible refine load_vec_g ?_ _ rfl _ rfl _ hs.vec ?_); (focus rfl)) | ((with_reducible refine load_in ?_ _ rfl _ rfl _ _ _ _ _ _ hs.ins ?_); (focus rfl)))
  refine (vstore_5a_far o v a b lo hi at_ L A _ (hs.ms.get 0 rfl) ha hb HA.out hl (by rw [on]; exact hin)).mono ?_
  rintro e u4 ⟨rfl, hb4⟩
  replace hs := hs.below hb4
  have hsum : decide (65536 < at_ + b + 4) = true := decide_eq_true (by have := HA.out; omega)
  clear hb4 C0 C2 C3
  go_wp2_with fail
  refine (untouched_k o _ (hs.ms.get 0 rfl) on (-1) 0 (by decide) (by decide) (fun k hk _ => oβ k hk)).mono ?_
  rintro e u6 ⟨rfl, hb6⟩
  replace hs := hs.below hb6
  go_wp2_with fail
  go_ret
  exact ⟨rfl, hs.ms.bel⟩

set_option maxRecDepth 100000 in
set_option maxHeartbeats 2000000 in
theorem whole_5a_in (a b : Int) (lo : Nat) (hi at_ : Int) (L : Value) (v : Vec) (A : Nat) (w : World) (ha : 0 ≤ at_ ∧ at_ < 4294967296) (hb : 0 ≤ b ∧ b < 4294967296) (hA : (A : Int) = at_ + b) (hl : lo < 4) (hin : A + 4 ≤ 65536) :
    Calls Try.prog 9 #[inV 64858 a b ((lo : Nat) : Int) hi L, .int .u32 at_, .agg (cells v)] w fun e w' => e = .returned (.bool true) ∧ Below w.heap.size w w' := by
  have S1' : ∀ W, Calls Try.prog 33 #[.int .i64 64858] W fun e w' => e = .returned (.int .i64 4) ∧ Below W.heap.size W w' := fun W => sized_any 64858 W (by decide)
  have S1 := Lib.hid S1'
  have S2 := Lib.hid (fun W => vsize_5a W)
  have HF := Lib.hid filled_k
  have HA := Lib.hid hA
  clear S1' hA
  have hd1 : decide (b < 0) = false := decide_eq_false (by omega)
  have hd2 : decide (4294967296 ≤ b) = false := decide_eq_false (by omega)
  have hd3 : decide ((4 : Int) ≤ (lo : Int)) = false := decide_eq_false (by omega)
  go_enter Try.func9, Try.ntmps9
  go_wp2_with fail
  have hs : WI w (.int .i64 64858) (.int .i64 a) (.int .i64 b) (.int .u64 ((lo : Nat) : Int)) (.int .u64 hi) L v [] ((w.alloc (.cells #[.int .i64 64858, .int .i64 a, .int .i64 b, .int .u64 ((lo : Nat) : Int), .int .u64 hi, L] 65)).alloc (.cells (cells v) 61)) := WI.start w
  refine (awake11 _).mono ?_
  rintro e u0 ⟨rfl, hb0⟩
  replace hs := hs.below hb0
  clear hb0
  have C0 := hs.cell 0
  go_wp2_with fail
  refine (S1.out _).mono ?_
  rintro e u1 ⟨rfl, hb1⟩
  replace hs := hs.below hb1
  clear hb1 C0
  have C0 := hs.cell 0
  have C2 := hs.cell 2
  have C3 := hs.cell 3
  go_wp2_with fail
  refine (S2.out _).mono ?_
  rintro e u2 ⟨rfl, rfl⟩
  go_wp2_with fail
  go_region
  go_wp2_with fail
  clear C0 C2 C3 hd1 hd2 hd3
  refine (HF.out _).mono ?_
  rintro e u3 ⟨o, rfl, hf⟩
  have on := hf.hn
  have oβ := hf.hβ
  replace hs := hs.fresh hf.undrew
  have C0 := hs.cell 0
  have C2 := hs.cell 2
  have C3 := hs.cell 3
  clear hf HF S1 S2
  go_wp2_with (first | ((with_reducible refine load_vec_g ?_ _ rfl _ rfl _ hs.vec ?_); (focus rfl)) | ((with_reducible refine load_in ?_ _ rfl _ rfl _ _ _ _ _ _ hs.ins ?_); (focus rfl)))
  refine (vstore_5a o v a b lo hi at_ L A _ (hs.ms.get 0 rfl) ha hb HA.out hl (by rw [on]; exact hin)).mono ?_
  rintro e u4 ⟨rfl, hm4, hk4⟩
  replace hs := hs.stored 0 rfl hk4 hm4
  obtain ⟨p, hp⟩ : ∃ p, p = withβ o (storeN o.β A (getN v 32 lo) 4) := ⟨_, rfl⟩
  have pn : p.n = 65536 := by rw [hp]; exact on
  have pp : o.p = p.p := by rw [hp]; rfl
  have p1 : ∀ j, j < 4 → p.β (A + j) = getN v 8 (4 * lo + j) := fun j hj => by rw [hp]; show (storeN o.β A (getN v 32 lo) 4) (A + j) = _; rw [storeN_get, if_pos (by omega), Nat.add_sub_cancel_left]; exact (byte_of_lane v 4 lo j hj).symm
  have p2 : ∀ k : Nat, k < 65536 → ((k : Int) < A ∨ (A : Int) + 4 ≤ k) → p.β k = fillB k := fun k hk hc => by rw [hp]; show (storeN o.β A (getN v 32 lo) 4) k = _; rw [storeN_get, if_neg (by omega)]; exact oβ k hk
  rw [← hp] at hs
  rw [pp]
  have hsum : decide (65536 < at_ + b + 4) = false := decide_eq_false (by have := HA.out; omega)
  have hA2 : at_ + b + 4 - 4 = (A : Int) := by have := HA.out; omega
  clear hp pp hm4 hk4 C0 C2 C3 oβ on
  have C3 := hs.cell 3
  go_wp2_with fail
  refine (peek_z p _ (hs.ms.get 0 rfl) (A : Int) 4 (by omega) (by decide) (by rw [pn]; omega)).mono ?_
  rintro e u5 ⟨v1, rfl, k1⟩
  obtain ⟨q, c, rfl, hr, hq⟩ := k1.ex
  replace hs := hs.below k1.bel
  obtain ⟨bb, rfl, hr⟩ := hr.pos (by decide)
  rw [show headOf (some bb) = some ⟨bb, 0, none⟩ from rfl]
  have hle : 4 ≤ c := hr.le
  have HR := Lib.hid hr
  clear hr hq k1 C3
  have C3 := hs.cell 3
  obtain ⟨f, hf⟩ : ∃ f : Nat, f = 4 * lo := ⟨_, rfl⟩
  rw [← hf] at p1
  have hf1 : (4 : Int) * (lo : Int) = (f : Int) := by omega

  have hf2 : f + 4 ≤ 16 := by omega
  have HF := Lib.hid hf
  clear hf
  go_wp2_with fail
  go_loopw [18] (fun iv wr => ∃ I : Nat, (I : Int) ≤ 4 ∧ iv = .int .i64 (I : Nat) ∧ Below u5.heap.size u5 wr) (fun iv _ => (4 - intOf iv).toNat)
  case atStart => exact ⟨0, by decide, rfl, Below.refl _ _⟩
  case round =>
    obtain ⟨I, hI, rfl, hbr⟩ := hrel
    replace hs := hs.below hbr
    by_cases hlI : (I : Int) < 4
    · obtain ⟨G, hG, hG1, hG2⟩ : ∃ G : Nat, (f : Int) + (I : Int) = (G : Int) ∧ f + I ≤ G ∧ G ≤ f + I := ⟨f + I, by omega, by omega, by omega⟩
      have hc1 : wr.cell? ⟨bb, I, none⟩ = some (.int .u8 (getN v 8 G : Nat)) := by
        have := (BytesAt.keep HR.out (S := fun _ => False) (Keep.of_below hbr) (fun h => h)).cell (i := I) (by show I < (4 : Int).toNat; omega)
        rw [show ((A : Nat) : Int).toNat + I = A + I by omega, p1 I (by omega), show f + I = G by omega] at this
        exact this
      have hc2 : wr.cell? ⟨w.heap.size + 1, G, none⟩ = some (.int .u8 (getN v 8 G : Nat)) := by
        rw [cell_of_row wr _ G _ _ _ hs.vec, getElem?_cells v G (by omega)]
        rfl
      have hIc : I < c := by omega
      have hG16 : G < 16 := by omega
      generalize getN v 8 G = Y at *
      go_wp2_with fail
      go_region
      go_wp2_with fail
      exact ⟨⟨I + 1, by omega, by go_num, hbr.drew⟩, by simp [intOf]; omega⟩
    · go_wp2_with fail
      refine (untouched_k p _ (hs.ms.get 0 rfl) pn (A : Int) 4 (by omega) (by decide) p2).mono ?_
      rintro e u6 ⟨rfl, hb6⟩
      replace hs := hs.below hb6
      go_wp2_with fail
      go_ret
      exact ⟨rfl, hs.ms.bel⟩

end Go.Proofs.Ytlcndenbnokcjaa
