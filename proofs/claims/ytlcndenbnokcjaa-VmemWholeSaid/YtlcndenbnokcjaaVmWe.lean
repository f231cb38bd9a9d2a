/-
  VmemWhole: what its walks share; the errors.
-/
import Derived.Test.YtlcndenbnokcjaaVmW
set_option linter.unusedSimpArgs false
set_option linter.unusedVariables false
namespace Go.Proofs.Ytlcndenbnokcjaa
open Go.RowKit Pl

/-- World u is w0 but for new blocks: the first two hold an instruction and a vector. -/
structure WI (w0 : World) (c0 c1 c2 c3 c4 c5 : Value) (v : Vec) (l : List MObj) (u : World) : Prop where
  ms : MS w0 l u
  ins : u.heap[w0.heap.size]? = some (.cells #[c0, c1, c2, c3, c4, c5] 65 (0, 0))
  vec : u.heap[w0.heap.size + 1]? = some (.cells (cells v) 61 (0, 0))
  off : ∀ o ∈ l, ∀ k, o.has k → w0.heap.size + 1 < k
section
variable {w0 u u1 : World} {c0 c1 c2 c3 c4 c5 : Value} {v : Vec} {l : List MObj}
theorem WI.below (h : WI w0 c0 c1 c2 c3 c4 c5 v l u) (hb : Below u.heap.size u u1) : WI w0 c0 c1 c2 c3 c4 c5 v l u1 :=
  ⟨h.ms.below hb, blk_keep h.ins hb, blk_keep h.vec hb, h.off⟩
theorem WI.start (w0 : World) : WI w0 c0 c1 c2 c3 c4 c5 v [] ((w0.alloc (.cells #[c0, c1, c2, c3, c4, c5] 65)).alloc (.cells (cells v) 61)) :=
  ⟨(MS.start w0).below (((Below.refl _ _).alloc (Nat.le_refl _) _).alloc (by simp) _), heap_alloc2_old _ _ _, heap_alloc2_new _ _ _, fun _ h => (by cases h)⟩
theorem WI.fresh (h : WI w0 c0 c1 c2 c3 c4 c5 v l u) {o : MObj} {T : TypeId} {n : Nat} {β : Nat → Nat} {most : Int} (f : Fresh u u1 o T n β most) : WI w0 c0 c1 c2 c3 c4 c5 v (o :: l) u1 :=
  ⟨h.ms.fresh f, blk_keep h.ins f.bel, blk_keep h.vec f.bel, fun p hp k hk => by
    rcases List.mem_cons.1 hp with rfl | hp
    · exact Nat.lt_of_lt_of_le (block_lt h.vec) (f.new k hk)
    · exact h.off p hp k hk⟩
theorem WI.stored (h : WI w0 c0 c1 c2 c3 c4 c5 v l u) (i : Nat) {o : MObj} (hi : l[i]? = some o) {γ : Nat → Nat} (hk : Keep (fun k => o.q = some k) u u1) (hm : MemAt u1 (withβ o γ)) : WI w0 c0 c1 c2 c3 c4 c5 v (l.set i (withβ o γ)) u1 := by
  have ho := h.off o (List.mem_of_getElem? hi)
  refine ⟨h.ms.stored i hi hk hm, hk.get h.ins (fun e => by have := ho _ (.inr e); omega), hk.get h.vec (fun e => by have := ho _ (.inr e); omega), fun p hp k hk1 => ?_⟩
  rcases List.mem_or_eq_of_mem_set hp with hp | rfl
  · exact h.off p hp k hk1
  · exact ho k hk1
theorem WI.cell (h : WI w0 c0 c1 c2 c3 c4 c5 v l u) (j : Nat) : u.cell? ⟨w0.heap.size, j, none⟩ = (#[c0, c1, c2, c3, c4, c5] : Array Value)[j]? := cell_of_row u _ j _ _ _ h.ins
end
theorem VBad.both {op b lo : Int} (h : VBad op b lo true ∨ VBad op b lo false) : True := trivial

set_option maxRecDepth 100000 in
set_option maxHeartbeats 1000000 in
theorem whole_bad_none (op a b lo hi at_ : Int) (L : Value) (v : Vec) (w : World) (N : Int) (hr : -9223372036854775808 ≤ op ∧ op ≤ 9223372036854775807) (hN : vszN op = N) (hb : -9223372036854775808 ≤ b ∧ b ≤ 9223372036854775807) (hB1 : VBad op b lo true) (hB2 : VBad op b lo false) (hz : N = 0) :
    Calls Try.prog 9 #[inV op a b lo hi L, .int .u32 at_, .agg (cells v)] w fun e w' => e = .returned (.bool true) ∧ Below w.heap.size w w' := by
  have S1 := Lib.hid (fun W => sized_any op W hr)
  have S2 := Lib.hid (fun W => vsize_any op W hr)
  rw [hN] at S1 S2
  have E1 := Lib.hid (fun p W => vload_bad p op a b lo hi at_ L v W hr hB2)
  have E2 := Lib.hid (fun p W => vstore_bad p op a b lo hi at_ L v W hr hB1)
  have HF := Lib.hid filled_k
  clear hB1 hB2 hN hr
  subst hz
  go_enter Try.func9, Try.ntmps9
  go_wp2_with fail
  have hs : WI w (.int .i64 op) (.int .i64 a) (.int .i64 b) (.int .u64 lo) (.int .u64 hi) L v [] ((w.alloc (.cells #[.int .i64 op, .int .i64 a, .int .i64 b, .int .u64 lo, .int .u64 hi, L] 65)).alloc (.cells (cells v) 61)) := WI.start w
  refine (awake11 _).mono ?_
  rintro e u0 ⟨rfl, hb0⟩
  replace hs := hs.below hb0
  clear hb0
  have C0 := hs.cell 0
  go_wp2_with fail
  refine (S1.out _).mono ?_
  rintro e u1 ⟨rfl, hb1⟩
  replace hs := hs.below hb1
  clear hb1 C0
  have C0 := hs.cell 0
  have C2 := hs.cell 2
  have C3 := hs.cell 3
  go_wp2_with fail
  refine (S2.out _).mono ?_
  rintro e u2 ⟨rfl, rfl⟩
  go_wp2_with fail
  go_region
  go_wp2_with fail
  clear C0 C2 C3
  refine (HF.out _).mono ?_
  rintro e u3 ⟨o, rfl, hf⟩
  have on := hf.hn
  have oβ := hf.hβ
  replace hs := hs.fresh hf.undrew
  clear hf HF
  go_wp2_with (first | ((with_reducible refine load_vec_g ?_ _ rfl _ rfl _ hs.vec ?_); (focus rfl)) | ((with_reducible refine load_in ?_ _ rfl _ rfl _ _ _ _ _ _ hs.ins ?_); (focus rfl)))
  refine (E1.out _ _).mono ?_
  rintro e u4 ⟨rfl, hb4⟩
  replace hs := hs.below hb4
  clear hb4
  go_wp2_with (first | ((with_reducible refine store_vec rfl _ _ rfl _ _ rfl rfl 0 (heap_new_zero _) ?_); intro wA hA; replace hs := hs.below (((Below.refl _ _).alloc (Nat.le_refl _) _).trans hA.below); clear hA) | ((with_reducible refine load_vec_g ?_ _ rfl _ rfl _ hs.vec ?_); (focus rfl)) | ((with_reducible refine load_in ?_ _ rfl _ rfl _ _ _ _ _ _ hs.ins ?_); (focus rfl)))
  refine (E2.out _ _).mono ?_
  rintro e u5 ⟨rfl, hb5⟩
  replace hs := hs.below hb5
  clear hb5
  go_wp2_with fail
  refine (untouched_k o _ (hs.ms.get 0 rfl) on (-1) 0 (by decide) (by decide) (fun k hk _ => oβ k hk)).mono ?_
  rintro e u6 ⟨rfl, hb6⟩
  replace hs := hs.below hb6
  go_wp2_with fail
  go_ret
  exact ⟨rfl, hs.ms.bel⟩

set_option maxRecDepth 100000 in
set_option maxHeartbeats 1000000 in
theorem whole_bad_neg (op a b lo hi at_ : Int) (L : Value) (v : Vec) (w : World) (N : Int) (hr : -9223372036854775808 ≤ op ∧ op ≤ 9223372036854775807) (hN : vszN op = N) (hb : -9223372036854775808 ≤ b ∧ b ≤ 9223372036854775807) (hB1 : VBad op b lo true) (hB2 : VBad op b lo false) (h1 : (N == 0) = false) (h2 : b < 0) :
    Calls Try.prog 9 #[inV op a b lo hi L, .int .u32 at_, .agg (cells v)] w fun e w' => e = .returned (.bool true) ∧ Below w.heap.size w w' := by
  have S1 := Lib.hid (fun W => sized_any op W hr)
  have S2 := Lib.hid (fun W => vsize_any op W hr)
  rw [hN] at S1 S2
  have E1 := Lib.hid (fun p W => vload_bad p op a b lo hi at_ L v W hr hB2)
  have E2 := Lib.hid (fun p W => vstore_bad p op a b lo hi at_ L v W hr hB1)
  have HF := Lib.hid filled_k
  clear hB1 hB2 hN hr
  go_enter Try.func9, Try.ntmps9
  go_wp2_with fail
  have hs : WI w (.int .i64 op) (.int .i64 a) (.int .i64 b) (.int .u64 lo) (.int .u64 hi) L v [] ((w.alloc (.cells #[.int .i64 op, .int .i64 a, .int .i64 b, .int .u64 lo, .int .u64 hi, L] 65)).alloc (.cells (cells v) 61)) := WI.start w
  refine (awake11 _).mono ?_
  rintro e u0 ⟨rfl, hb0⟩
  replace hs := hs.below hb0
  clear hb0
  have C0 := hs.cell 0
  go_wp2_with fail
  refine (S1.out _).mono ?_
  rintro e u1 ⟨rfl, hb1⟩
  replace hs := hs.below hb1
  clear hb1 C0
  have C0 := hs.cell 0
  have C2 := hs.cell 2
  have C3 := hs.cell 3
  go_wp2_with fail
  refine (S2.out _).mono ?_
  rintro e u2 ⟨rfl, rfl⟩
  go_wp2_with fail
  go_region
  go_wp2_with fail
  clear C0 C2 C3
  refine (HF.out _).mono ?_
  rintro e u3 ⟨o, rfl, hf⟩
  have on := hf.hn
  have oβ := hf.hβ
  replace hs := hs.fresh hf.undrew
  clear hf HF
  go_wp2_with (first | ((with_reducible refine load_vec_g ?_ _ rfl _ rfl _ hs.vec ?_); (focus rfl)) | ((with_reducible refine load_in ?_ _ rfl _ rfl _ _ _ _ _ _ hs.ins ?_); (focus rfl)))
  refine (E1.out _ _).mono ?_
  rintro e u4 ⟨rfl, hb4⟩
  replace hs := hs.below hb4
  clear hb4
  go_wp2_with (first | ((with_reducible refine store_vec rfl _ _ rfl _ _ rfl rfl 0 (heap_new_zero _) ?_); intro wA hA; replace hs := hs.below (((Below.refl _ _).alloc (Nat.le_refl _) _).trans hA.below); clear hA) | ((with_reducible refine load_vec_g ?_ _ rfl _ rfl _ hs.vec ?_); (focus rfl)) | ((with_reducible refine load_in ?_ _ rfl _ rfl _ _ _ _ _ _ hs.ins ?_); (focus rfl)))
  refine (E2.out _ _).mono ?_
  rintro e u5 ⟨rfl, hb5⟩
  replace hs := hs.below hb5
  clear hb5
  go_wp2_with fail
  refine (untouched_k o _ (hs.ms.get 0 rfl) on (-1) 0 (by decide) (by decide) (fun k hk _ => oβ k hk)).mono ?_
  rintro e u6 ⟨rfl, hb6⟩
  replace hs := hs.below hb6
  go_wp2_with fail
  go_ret
  exact ⟨rfl, hs.ms.bel⟩

set_option maxRecDepth 100000 in
set_option maxHeartbeats 1000000 in
theorem whole_bad_big (op a b lo hi at_ : Int) (L : Value) (v : Vec) (w : World) (N : Int) (hr : -9223372036854775808 ≤ op ∧ op ≤ 9223372036854775807) (hN : vszN op = N) (hb : -9223372036854775808 ≤ b ∧ b ≤ 9223372036854775807) (hB1 : VBad op b lo true) (hB2 : VBad op b lo false) (h1 : (N == 0) = false) (h2 : 4294967296 ≤ b) (h3 : 0 ≤ b) :
    Calls Try.prog 9 #[inV op a b lo hi L, .int .u32 at_, .agg (cells v)] w fun e w' => e = .returned (.bool true) ∧ Below w.heap.size w w' := by
  have S1 := Lib.hid (fun W => sized_any op W hr)
  have S2 := Lib.hid (fun W => vsize_any op W hr)
  rw [hN] at S1 S2
  have E1 := Lib.hid (fun p W => vload_bad p op a b lo hi at_ L v W hr hB2)
  have E2 := Lib.hid (fun p W => vstore_bad p op a b lo hi at_ L v W hr hB1)
  have HF := Lib.hid filled_k
  clear hB1 hB2 hN hr
  have hd1 : decide (b < 0) = false := decide_eq_false (by omega)
  have hd2 : decide (4294967296 ≤ b) = true := decide_eq_true h2
  go_enter Try.func9, Try.ntmps9
  go_wp2_with fail
  have hs : WI w (.int .i64 op) (.int .i64 a) (.int .i64 b) (.int .u64 lo) (.int .u64 hi) L v [] ((w.alloc (.cells #[.int .i64 op, .int .i64 a, .int .i64 b, .int .u64 lo, .int .u64 hi, L] 65)).alloc (.cells (cells v) 61)) := WI.start w
  refine (awake11 _).mono ?_
  rintro e u0 ⟨rfl, hb0⟩
  replace hs := hs.below hb0
  clear hb0
  have C0 := hs.cell 0
  go_wp2_with fail
  refine (S1.out _).mono ?_
  rintro e u1 ⟨rfl, hb1⟩
  replace hs := hs.below hb1
  clear hb1 C0
  have C0 := hs.cell 0
  have C2 := hs.cell 2
  have C3 := hs.cell 3
  go_wp2_with fail
  refine (S2.out _).mono ?_
  rintro e u2 ⟨rfl, rfl⟩
  go_wp2_with fail
  go_region
  go_wp2_with fail
  clear C0 C2 C3
  refine (HF.out _).mono ?_
  rintro e u3 ⟨o, rfl, hf⟩
  have on := hf.hn
  have oβ := hf.hβ
  replace hs := hs.fresh hf.undrew
  clear hf HF
  go_wp2_with (first | ((with_reducible refine load_vec_g ?_ _ rfl _ rfl _ hs.vec ?_); (focus rfl)) | ((with_reducible refine load_in ?_ _ rfl _ rfl _ _ _ _ _ _ hs.ins ?_); (focus rfl)))
  refine (E1.out _ _).mono ?_
  rintro e u4 ⟨rfl, hb4⟩
  replace hs := hs.below hb4
  clear hb4
  go_wp2_with (first | ((with_reducible refine store_vec rfl _ _ rfl _ _ rfl rfl 0 (heap_new_zero _) ?_); intro wA hA; replace hs := hs.below (((Below.refl _ _).alloc (Nat.le_refl _) _).trans hA.below); clear hA) | ((with_reducible refine load_vec_g ?_ _ rfl _ rfl _ hs.vec ?_); (focus rfl)) | ((with_reducible refine load_in ?_ _ rfl _ rfl _ _ _ _ _ _ hs.ins ?_); (focus rfl)))
  refine (E2.out _ _).mono ?_
  rintro e u5 ⟨rfl, hb5⟩
  replace hs := hs.below hb5
  clear hb5
  go_wp2_with fail
  refine (untouched_k o _ (hs.ms.get 0 rfl) on (-1) 0 (by decide) (by decide) (fun k hk _ => oβ k hk)).mono ?_
  rintro e u6 ⟨rfl, hb6⟩
  replace hs := hs.below hb6
  go_wp2_with fail
  go_ret
  exact ⟨rfl, hs.ms.bel⟩

set_option maxRecDepth 100000 in
set_option maxHeartbeats 1000000 in
theorem whole_bad_54 (op a b lo hi at_ : Int) (L : Value) (v : Vec) (w : World) (N : Int) (hr : -9223372036854775808 ≤ op ∧ op ≤ 9223372036854775807) (hN : vszN op = N) (hb : -9223372036854775808 ≤ b ∧ b ≤ 9223372036854775807) (hB1 : VBad op b lo true) (hB2 : VBad op b lo false) (h2 : 0 ≤ b ∧ b < 4294967296) (hop : op = 64852 ∧ N = 1) (h3 : 16 ≤ lo) :
    Calls Try.prog 9 #[inV op a b lo hi L, .int .u32 at_, .agg (cells v)] w fun e w' => e = .returned (.bool true) ∧ Below w.heap.size w w' := by
  have S1 := Lib.hid (fun W => sized_any op W hr)
  have S2 := Lib.hid (fun W => vsize_any op W hr)
  rw [hN] at S1 S2
  have E1 := Lib.hid (fun p W => vload_bad p op a b lo hi at_ L v W hr hB2)
  have E2 := Lib.hid (fun p W => vstore_bad p op a b lo hi at_ L v W hr hB1)
  have HF := Lib.hid filled_k
  clear hB1 hB2 hN hr
  obtain ⟨rfl, rfl⟩ := hop
  have hd1 : decide (b < 0) = false := decide_eq_false (by omega)
  have hd2 : decide (4294967296 ≤ b) = false := decide_eq_false (by omega)
  have hd3 : decide (16 ≤ lo) = true := decide_eq_true h3
  go_enter Try.func9, Try.ntmps9
  go_wp2_with fail
  have hs : WI w (.int .i64 64852) (.int .i64 a) (.int .i64 b) (.int .u64 lo) (.int .u64 hi) L v [] ((w.alloc (.cells #[.int .i64 64852, .int .i64 a, .int .i64 b, .int .u64 lo, .int .u64 hi, L] 65)).alloc (.cells (cells v) 61)) := WI.start w
  refine (awake11 _).mono ?_
  rintro e u0 ⟨rfl, hb0⟩
  replace hs := hs.below hb0
  clear hb0
  have C0 := hs.cell 0
  go_wp2_with fail
  refine (S1.out _).mono ?_
  rintro e u1 ⟨rfl, hb1⟩
  replace hs := hs.below hb1
  clear hb1 C0
  have C0 := hs.cell 0
  have C2 := hs.cell 2
  have C3 := hs.cell 3
  go_wp2_with fail
  refine (S2.out _).mono ?_
  rintro e u2 ⟨rfl, rfl⟩
  go_wp2_with fail
  go_region
  go_wp2_with fail
  clear C0 C2 C3
  refine (HF.out _).mono ?_
  rintro e u3 ⟨o, rfl, hf⟩
  have on := hf.hn
  have oβ := hf.hβ
  replace hs := hs.fresh hf.undrew
  clear hf HF
  go_wp2_with (first | ((with_reducible refine load_vec_g ?_ _ rfl _ rfl _ hs.vec ?_); (focus rfl)) | ((with_reducible refine load_in ?_ _ rfl _ rfl _ _ _ _ _ _ hs.ins ?_); (focus rfl)))
  refine (E1.out _ _).mono ?_
  rintro e u4 ⟨rfl, hb4⟩
  replace hs := hs.below hb4
  clear hb4
  go_wp2_with (first | ((with_reducible refine store_vec rfl _ _ rfl _ _ rfl rfl 0 (heap_new_zero _) ?_); intro wA hA; replace hs := hs.below (((Below.refl _ _).alloc (Nat.le_refl _) _).trans hA.below); clear hA) | ((with_reducible refine load_vec_g ?_ _ rfl _ rfl _ hs.vec ?_); (focus rfl)) | ((with_reducible refine load_in ?_ _ rfl _ rfl _ _ _ _ _ _ hs.ins ?_); (focus rfl)))
  refine (E2.out _ _).mono ?_
  rintro e u5 ⟨rfl, hb5⟩
  replace hs := hs.below hb5
  clear hb5
  go_wp2_with fail
  refine (untouched_k o _ (hs.ms.get 0 rfl) on (-1) 0 (by decide) (by decide) (fun k hk _ => oβ k hk)).mono ?_
  rintro e u6 ⟨rfl, hb6⟩
  replace hs := hs.below hb6
  go_wp2_with fail
  go_ret
  exact ⟨rfl, hs.ms.bel⟩

set_option maxRecDepth 100000 in
set_option maxHeartbeats 1000000 in
theorem whole_bad_55 (op a b lo hi at_ : Int) (L : Value) (v : Vec) (w : World) (N : Int) (hr : -9223372036854775808 ≤ op ∧ op ≤ 9223372036854775807) (hN : vszN op = N) (hb : -9223372036854775808 ≤ b ∧ b ≤ 9223372036854775807) (hB1 : VBad op b lo true) (hB2 : VBad op b lo false) (h2 : 0 ≤ b ∧ b < 4294967296) (hop : op = 64853 ∧ N = 2) (h3 : 8 ≤ lo) :
    Calls Try.prog 9 #[inV op a b lo hi L, .int .u32 at_, .agg (cells v)] w fun e w' => e = .returned (.bool true) ∧ Below w.heap.size w w' := by
  have S1 := Lib.hid (fun W => sized_any op W hr)
  have S2 := Lib.hid (fun W => vsize_any op W hr)
  rw [hN] at S1 S2
  have E1 := Lib.hid (fun p W => vload_bad p op a b lo hi at_ L v W hr hB2)
  have E2 := Lib.hid (fun p W => vstore_bad p op a b lo hi at_ L v W hr hB1)
  have HF := Lib.hid filled_k
  clear hB1 hB2 hN hr
  obtain ⟨rfl, rfl⟩ := hop
  have hd1 : decide (b < 0) = false := decide_eq_false (by omega)
  have hd2 : decide (4294967296 ≤ b) = false := decide_eq_false (by omega)
  have hd3 : decide (8 ≤ lo) = true := decide_eq_true h3
  go_enter Try.func9, Try.ntmps9
  go_wp2_with fail
  have hs : WI w (.int .i64 64853) (.int .i64 a) (.int .i64 b) (.int .u64 lo) (.int .u64 hi) L v [] ((w.alloc (.cells #[.int .i64 64853, .int .i64 a, .int .i64 b, .int .u64 lo, .int .u64 hi, L] 65)).alloc (.cells (cells v) 61)) := WI.start w
  refine (awake11 _).mono ?_
  rintro e u0 ⟨rfl, hb0⟩
  replace hs := hs.below hb0
  clear hb0
  have C0 := hs.cell 0
  go_wp2_with fail
  refine (S1.out _).mono ?_
  rintro e u1 ⟨rfl, hb1⟩
  replace hs := hs.below hb1
  clear hb1 C0
  have C0 := hs.cell 0
  have C2 := hs.cell 2
  have C3 := hs.cell 3
  go_wp2_with fail
  refine (S2.out _).mono ?_
  rintro e u2 ⟨rfl, rfl⟩
  go_wp2_with fail
  go_region
  go_wp2_with fail
  clear C0 C2 C3
  refine (HF.out _).mono ?_
  rintro e u3 ⟨o, rfl, hf⟩
  have on := hf.hn
  have oβ := hf.hβ
  replace hs := hs.fresh hf.undrew
  clear hf HF
  go_wp2_with (first | ((with_reducible refine load_vec_g ?_ _ rfl _ rfl _ hs.vec ?_); (focus rfl)) | ((with_reducible refine load_in ?_ _ rfl _ rfl _ _ _ _ _ _ hs.ins ?_); (focus rfl)))
  refine (E1.out _ _).mono ?_
  rintro e u4 ⟨rfl, hb4⟩
  replace hs := hs.below hb4
  clear hb4
  go_wp2_with (first | ((with_reducible refine store_vec rfl _ _ rfl _ _ rfl rfl 0 (heap_new_zero _) ?_); intro wA hA; replace hs := hs.below (((Below.refl _ _).alloc (Nat.le_refl _) _).trans hA.below); clear hA) | ((with_reducible refine load_vec_g ?_ _ rfl _ rfl _ hs.vec ?_); (focus rfl)) | ((with_reducible refine load_in ?_ _ rfl _ rfl _ _ _ _ _ _ hs.ins ?_); (focus rfl)))
  refine (E2.out _ _).mono ?_
  rintro e u5 ⟨rfl, hb5⟩
  replace hs := hs.below hb5
  clear hb5
  go_wp2_with fail
  refine (untouched_k o _ (hs.ms.get 0 rfl) on (-1) 0 (by decide) (by decide) (fun k hk _ => oβ k hk)).mono ?_
  rintro e u6 ⟨rfl, hb6⟩
  replace hs := hs.below hb6
  go_wp2_with fail
  go_ret
  exact ⟨rfl, hs.ms.bel⟩

set_option maxRecDepth 100000 in
set_option maxHeartbeats 1000000 in
theorem whole_bad_56 (op a b lo hi at_ : Int) (L : Value) (v : Vec) (w : World) (N : Int) (hr : -9223372036854775808 ≤ op ∧ op ≤ 9223372036854775807) (hN : vszN op = N) (hb : -9223372036854775808 ≤ b ∧ b ≤ 9223372036854775807) (hB1 : VBad op b lo true) (hB2 : VBad op b lo false) (h2 : 0 ≤ b ∧ b < 4294967296) (hop : op = 64854 ∧ N = 4) (h3 : 4 ≤ lo) :
    Calls Try.prog 9 #[inV op a b lo hi L, .int .u32 at_, .agg (cells v)] w fun e w' => e = .returned (.bool true) ∧ Below w.heap.size w w' := by
  have S1 := Lib.hid (fun W => sized_any op W hr)
  have S2 := Lib.hid (fun W => vsize_any op W hr)
  rw [hN] at S1 S2
  have E1 := Lib.hid (fun p W => vload_bad p op a b lo hi at_ L v W hr hB2)
  have E2 := Lib.hid (fun p W => vstore_bad p op a b lo hi at_ L v W hr hB1)
  have HF := Lib.hid filled_k
  clear hB1 hB2 hN hr
  obtain ⟨rfl, rfl⟩ := hop
  have hd1 : decide (b < 0) = false := decide_eq_false (by omega)
  have hd2 : decide (4294967296 ≤ b) = false := decide_eq_false (by omega)
  have hd3 : decide (4 ≤ lo) = true := decide_eq_true h3
  go_enter Try.func9, Try.ntmps9
  go_wp2_with fail
  have hs : WI w (.int .i64 64854) (.int .i64 a) (.int .i64 b) (.int .u64 lo) (.int .u64 hi) L v [] ((w.alloc (.cells #[.int .i64 64854, .int .i64 a, .int .i64 b, .int .u64 lo, .int .u64 hi, L] 65)).alloc (.cells (cells v) 61)) := WI.start w
  refine (awake11 _).mono ?_
  rintro e u0 ⟨rfl, hb0⟩
  replace hs := hs.below hb0
  clear hb0
  have C0 := hs.cell 0
  go_wp2_with fail
  refine (S1.out _).mono ?_
  rintro e u1 ⟨rfl, hb1⟩
  replace hs := hs.below hb1
  clear hb1 C0
  have C0 := hs.cell 0
  have C2 := hs.cell 2
  have C3 := hs.cell 3
  go_wp2_with fail
  refine (S2.out _).mono ?_
  rintro e u2 ⟨rfl, rfl⟩
  go_wp2_with fail
  go_region
  go_wp2_with fail
  clear C0 C2 C3
  refine (HF.out _).mono ?_
  rintro e u3 ⟨o, rfl, hf⟩
  have on := hf.hn
  have oβ := hf.hβ
  replace hs := hs.fresh hf.undrew
  clear hf HF
  go_wp2_with (first | ((with_reducible refine load_vec_g ?_ _ rfl _ rfl _ hs.vec ?_); (focus rfl)) | ((with_reducible refine load_in ?_ _ rfl _ rfl _ _ _ _ _ _ hs.ins ?_); (focus rfl)))
  refine (E1.out _ _).mono ?_
  rintro e u4 ⟨rfl, hb4⟩
  replace hs := hs.below hb4
  clear hb4
  go_wp2_with (first | ((with_reducible refine store_vec rfl _ _ rfl _ _ rfl rfl 0 (heap_new_zero _) ?_); intro wA hA; replace hs := hs.below (((Below.refl _ _).alloc (Nat.le_refl _) _).trans hA.below); clear hA) | ((with_reducible refine load_vec_g ?_ _ rfl _ rfl _ hs.vec ?_); (focus rfl)) | ((with_reducible refine load_in ?_ _ rfl _ rfl _ _ _ _ _ _ hs.ins ?_); (focus rfl)))
  refine (E2.out _ _).mono ?_
  rintro e u5 ⟨rfl, hb5⟩
  replace hs := hs.below hb5
  clear hb5
  go_wp2_with fail
  refine (untouched_k o _ (hs.ms.get 0 rfl) on (-1) 0 (by decide) (by decide) (fun k hk _ => oβ k hk)).mono ?_
  rintro e u6 ⟨rfl, hb6⟩
  replace hs := hs.below hb6
  go_wp2_with fail
  go_ret
  exact ⟨rfl, hs.ms.bel⟩

set_option maxRecDepth 100000 in
set_option maxHeartbeats 1000000 in
theorem whole_bad_57 (op a b lo hi at_ : Int) (L : Value) (v : Vec) (w : World) (N : Int) (hr : -9223372036854775808 ≤ op ∧ op ≤ 9223372036854775807) (hN : vszN op = N) (hb : -9223372036854775808 ≤ b ∧ b ≤ 9223372036854775807) (hB1 : VBad op b lo true) (hB2 : VBad op b lo false) (h2 : 0 ≤ b ∧ b < 4294967296) (hop : op = 64855 ∧ N = 8) (h3 : 2 ≤ lo) :
    Calls Try.prog 9 #[inV op a b lo hi L, .int .u32 at_, .agg (cells v)] w fun e w' => e = .returned (.bool true) ∧ Below w.heap.size w w' := by
  have S1 := Lib.hid (fun W => sized_any op W hr)
  have S2 := Lib.hid (fun W => vsize_any op W hr)
  rw [hN] at S1 S2
  have E1 := Lib.hid (fun p W => vload_bad p op a b lo hi at_ L v W hr hB2)
  have E2 := Lib.hid (fun p W => vstore_bad p op a b lo hi at_ L v W hr hB1)
  have HF := Lib.hid filled_k
  clear hB1 hB2 hN hr
  obtain ⟨rfl, rfl⟩ := hop
  have hd1 : decide (b < 0) = false := decide_eq_false (by omega)
  have hd2 : decide (4294967296 ≤ b) = false := decide_eq_false (by omega)
  have hd3 : decide (2 ≤ lo) = true := decide_eq_true h3
  go_enter Try.func9, Try.ntmps9
  go_wp2_with fail
  have hs : WI w (.int .i64 64855) (.int .i64 a) (.int .i64 b) (.int .u64 lo) (.int .u64 hi) L v [] ((w.alloc (.cells #[.int .i64 64855, .int .i64 a, .int .i64 b, .int .u64 lo, .int .u64 hi, L] 65)).alloc (.cells (cells v) 61)) := WI.start w
  refine (awake11 _).mono ?_
  rintro e u0 ⟨rfl, hb0⟩
  replace hs := hs.below hb0
  clear hb0
  have C0 := hs.cell 0
  go_wp2_with fail
  refine (S1.out _).mono ?_
  rintro e u1 ⟨rfl, hb1⟩
  replace hs := hs.below hb1
  clear hb1 C0
  have C0 := hs.cell 0
  have C2 := hs.cell 2
  have C3 := hs.cell 3
  go_wp2_with fail
  refine (S2.out _).mono ?_
  rintro e u2 ⟨rfl, rfl⟩
  go_wp2_with fail
  go_region
  go_wp2_with fail
  clear C0 C2 C3
  refine (HF.out _).mono ?_
  rintro e u3 ⟨o, rfl, hf⟩
  have on := hf.hn
  have oβ := hf.hβ
  replace hs := hs.fresh hf.undrew
  clear hf HF
  go_wp2_with (first | ((with_reducible refine load_vec_g ?_ _ rfl _ rfl _ hs.vec ?_); (focus rfl)) | ((with_reducible refine load_in ?_ _ rfl _ rfl _ _ _ _ _ _ hs.ins ?_); (focus rfl)))
  refine (E1.out _ _).mono ?_
  rintro e u4 ⟨rfl, hb4⟩
  replace hs := hs.below hb4
  clear hb4
  go_wp2_with (first | ((with_reducible refine store_vec rfl _ _ rfl _ _ rfl rfl 0 (heap_new_zero _) ?_); intro wA hA; replace hs := hs.below (((Below.refl _ _).alloc (Nat.le_refl _) _).trans hA.below); clear hA) | ((with_reducible refine load_vec_g ?_ _ rfl _ rfl _ hs.vec ?_); (focus rfl)) | ((with_reducible refine load_in ?_ _ rfl _ rfl _ _ _ _ _ _ hs.ins ?_); (focus rfl)))
  refine (E2.out _ _).mono ?_
  rintro e u5 ⟨rfl, hb5⟩
  replace hs := hs.below hb5
  clear hb5
  go_wp2_with fail
  refine (untouched_k o _ (hs.ms.get 0 rfl) on (-1) 0 (by decide) (by decide) (fun k hk _ => oβ k hk)).mono ?_
  rintro e u6 ⟨rfl, hb6⟩
  replace hs := hs.below hb6
  go_wp2_with fail
  go_ret
  exact ⟨rfl, hs.ms.bel⟩

set_option maxRecDepth 100000 in
set_option maxHeartbeats 1000000 in
theorem whole_bad_58 (op a b lo hi at_ : Int) (L : Value) (v : Vec) (w : World) (N : Int) (hr : -9223372036854775808 ≤ op ∧ op ≤ 9223372036854775807) (hN : vszN op = N) (hb : -9223372036854775808 ≤ b ∧ b ≤ 9223372036854775807) (hB1 : VBad op b lo true) (hB2 : VBad op b lo false) (h2 : 0 ≤ b ∧ b < 4294967296) (hop : op = 64856 ∧ N = 1) (h3 : 16 ≤ lo) :
    Calls Try.prog 9 #[inV op a b lo hi L, .int .u32 at_, .agg (cells v)] w fun e w' => e = .returned (.bool true) ∧ Below w.heap.size w w' := by
  have S1 := Lib.hid (fun W => sized_any op W hr)
  have S2 := Lib.hid (fun W => vsize_any op W hr)
  rw [hN] at S1 S2
  have E1 := Lib.hid (fun p W => vload_bad p op a b lo hi at_ L v W hr hB2)
  have E2 := Lib.hid (fun p W => vstore_bad p op a b lo hi at_ L v W hr hB1)
  have HF := Lib.hid filled_k
  clear hB1 hB2 hN hr
  obtain ⟨rfl, rfl⟩ := hop
  have hd1 : decide (b < 0) = false := decide_eq_false (by omega)
  have hd2 : decide (4294967296 ≤ b) = false := decide_eq_false (by omega)
  have hd3 : decide (16 ≤ lo) = true := decide_eq_true h3
  go_enter Try.func9, Try.ntmps9
  go_wp2_with fail
  have hs : WI w (.int .i64 64856) (.int .i64 a) (.int .i64 b) (.int .u64 lo) (.int .u64 hi) L v [] ((w.alloc (.cells #[.int .i64 64856, .int .i64 a, .int .i64 b, .int .u64 lo, .int .u64 hi, L] 65)).alloc (.cells (cells v) 61)) := WI.start w
  refine (awake11 _).mono ?_
  rintro e u0 ⟨rfl, hb0⟩
  replace hs := hs.below hb0
  clear hb0
  have C0 := hs.cell 0
  go_wp2_with fail
  refine (S1.out _).mono ?_
  rintro e u1 ⟨rfl, hb1⟩
  replace hs := hs.below hb1
  clear hb1 C0
  have C0 := hs.cell 0
  have C2 := hs.cell 2
  have C3 := hs.cell 3
  go_wp2_with fail
  refine (S2.out _).mono ?_
  rintro e u2 ⟨rfl, rfl⟩
  go_wp2_with fail
  go_region
  go_wp2_with fail
  clear C0 C2 C3
  refine (HF.out _).mono ?_
  rintro e u3 ⟨o, rfl, hf⟩
  have on := hf.hn
  have oβ := hf.hβ
  replace hs := hs.fresh hf.undrew
  clear hf HF
  go_wp2_with (first | ((with_reducible refine load_vec_g ?_ _ rfl _ rfl _ hs.vec ?_); (focus rfl)) | ((with_reducible refine load_in ?_ _ rfl _ rfl _ _ _ _ _ _ hs.ins ?_); (focus rfl)))
  refine (E1.out _ _).mono ?_
  rintro e u4 ⟨rfl, hb4⟩
  replace hs := hs.below hb4
  clear hb4
  go_wp2_with (first | ((with_reducible refine store_vec rfl _ _ rfl _ _ rfl rfl 0 (heap_new_zero _) ?_); intro wA hA; replace hs := hs.below (((Below.refl _ _).alloc (Nat.le_refl _) _).trans hA.below); clear hA) | ((with_reducible refine load_vec_g ?_ _ rfl _ rfl _ hs.vec ?_); (focus rfl)) | ((with_reducible refine load_in ?_ _ rfl _ rfl _ _ _ _ _ _ hs.ins ?_); (focus rfl)))
  refine (E2.out _ _).mono ?_
  rintro e u5 ⟨rfl, hb5⟩
  replace hs := hs.below hb5
  clear hb5
  go_wp2_with fail
  refine (untouched_k o _ (hs.ms.get 0 rfl) on (-1) 0 (by decide) (by decide) (fun k hk _ => oβ k hk)).mono ?_
  rintro e u6 ⟨rfl, hb6⟩
  replace hs := hs.below hb6
  go_wp2_with fail
  go_ret
  exact ⟨rfl, hs.ms.bel⟩

set_option maxRecDepth 100000 in
set_option maxHeartbeats 1000000 in
theorem whole_bad_59 (op a b lo hi at_ : Int) (L : Value) (v : Vec) (w : World) (N : Int) (hr : -9223372036854775808 ≤ op ∧ op ≤ 9223372036854775807) (hN : vszN op = N) (hb : -9223372036854775808 ≤ b ∧ b ≤ 9223372036854775807) (hB1 : VBad op b lo true) (hB2 : VBad op b lo false) (h2 : 0 ≤ b ∧ b < 4294967296) (hop : op = 64857 ∧ N = 2) (h3 : 8 ≤ lo) :
    Calls Try.prog 9 #[inV op a b lo hi L, .int .u32 at_, .agg (cells v)] w fun e w' => e = .returned (.bool true) ∧ Below w.heap.size w w' := by
  have S1 := Lib.hid (fun W => sized_any op W hr)
  have S2 := Lib.hid (fun W => vsize_any op W hr)
  rw [hN] at S1 S2
  have E1 := Lib.hid (fun p W => vload_bad p op a b lo hi at_ L v W hr hB2)
  have E2 := Lib.hid (fun p W => vstore_bad p op a b lo hi at_ L v W hr hB1)
  have HF := Lib.hid filled_k
  clear hB1 hB2 hN hr
  obtain ⟨rfl, rfl⟩ := hop
  have hd1 : decide (b < 0) = false := decide_eq_false (by omega)
  have hd2 : decide (4294967296 ≤ b) = false := decide_eq_false (by omega)
  have hd3 : decide (8 ≤ lo) = true := decide_eq_true h3
  go_enter Try.func9, Try.ntmps9
  go_wp2_with fail
  have hs : WI w (.int .i64 64857) (.int .i64 a) (.int .i64 b) (.int .u64 lo) (.int .u64 hi) L v [] ((w.alloc (.cells #[.int .i64 64857, .int .i64 a, .int .i64 b, .int .u64 lo, .int .u64 hi, L] 65)).alloc (.cells (cells v) 61)) := WI.start w
  refine (awake11 _).mono ?_
  rintro e u0 ⟨rfl, hb0⟩
  replace hs := hs.below hb0
  clear hb0
  have C0 := hs.cell 0
  go_wp2_with fail
  refine (S1.out _).mono ?_
  rintro e u1 ⟨rfl, hb1⟩
  replace hs := hs.below hb1
  clear hb1 C0
  have C0 := hs.cell 0
  have C2 := hs.cell 2
  have C3 := hs.cell 3
  go_wp2_with fail
  refine (S2.out _).mono ?_
  rintro e u2 ⟨rfl, rfl⟩
  go_wp2_with fail
  go_region
  go_wp2_with fail
  clear C0 C2 C3
  refine (HF.out _).mono ?_
  rintro e u3 ⟨o, rfl, hf⟩
  have on := hf.hn
  have oβ := hf.hβ
  replace hs := hs.fresh hf.undrew
  clear hf HF
  go_wp2_with (first | ((with_reducible refine load_vec_g ?_ _ rfl _ rfl _ hs.vec ?_); (focus rfl)) | ((with_reducible refine load_in ?_ _ rfl _ rfl _ _ _ _ _ _ hs.ins ?_); (focus rfl)))
  refine (E1.out _ _).mono ?_
  rintro e u4 ⟨rfl, hb4⟩
  replace hs := hs.below hb4
  clear hb4
  go_wp2_with (first | ((with_reducible refine store_vec rfl _ _ rfl _ _ rfl rfl 0 (heap_new_zero _) ?_); intro wA hA; replace hs := hs.below (((Below.refl _ _).alloc (Nat.le_refl _) _).trans hA.below); clear hA) | ((with_reducible refine load_vec_g ?_ _ rfl _ rfl _ hs.vec ?_); (focus rfl)) | ((with_reducible refine load_in ?_ _ rfl _ rfl _ _ _ _ _ _ hs.ins ?_); (focus rfl)))
  refine (E2.out _ _).mono ?_
  rintro e u5 ⟨rfl, hb5⟩
  replace hs := hs.below hb5
  clear hb5
  go_wp2_with fail
  refine (untouched_k o _ (hs.ms.get 0 rfl) on (-1) 0 (by decide) (by decide) (fun k hk _ => oβ k hk)).mono ?_
  rintro e u6 ⟨rfl, hb6⟩
  replace hs := hs.below hb6
  go_wp2_with fail
  go_ret
  exact ⟨rfl, hs.ms.bel⟩

set_option maxRecDepth 100000 in
set_option maxHeartbeats 1000000 in
theorem whole_bad_5a (op a b lo hi at_ : Int) (L : Value) (v : Vec) (w : World) (N : Int) (hr : -9223372036854775808 ≤ op ∧ op ≤ 9223372036854775807) (hN : vszN op = N) (hb : -9223372036854775808 ≤ b ∧ b ≤ 9223372036854775807) (hB1 : VBad op b lo true) (hB2 : VBad op b lo false) (h2 : 0 ≤ b ∧ b < 4294967296) (hop : op = 64858 ∧ N = 4) (h3 : 4 ≤ lo) :
    Calls Try.prog 9 #[inV op a b lo hi L, .int .u32 at_, .agg (cells v)] w fun e w' => e = .returned (.bool true) ∧ Below w.heap.size w w' := by
  have S1 := Lib.hid (fun W => sized_any op W hr)
  have S2 := Lib.hid (fun W => vsize_any op W hr)
  rw [hN] at S1 S2
  have E1 := Lib.hid (fun p W => vload_bad p op a b lo hi at_ L v W hr hB2)
  have E2 := Lib.hid (fun p W => vstore_bad p op a b lo hi at_ L v W hr hB1)
  have HF := Lib.hid filled_k
  clear hB1 hB2 hN hr
  obtain ⟨rfl, rfl⟩ := hop
  have hd1 : decide (b < 0) = false := decide_eq_false (by omega)
  have hd2 : decide (4294967296 ≤ b) = false := decide_eq_false (by omega)
  have hd3 : decide (4 ≤ lo) = true := decide_eq_true h3
  go_enter Try.func9, Try.ntmps9
  go_wp2_with fail
  have hs : WI w (.int .i64 64858) (.int .i64 a) (.int .i64 b) (.int .u64 lo) (.int .u64 hi) L v [] ((w.alloc (.cells #[.int .i64 64858, .int .i64 a, .int .i64 b, .int .u64 lo, .int .u64 hi, L] 65)).alloc (.cells (cells v) 61)) := WI.start w
  refine (awake11 _).mono ?_
  rintro e u0 ⟨rfl, hb0⟩
  replace hs := hs.below hb0
  clear hb0
  have C0 := hs.cell 0
  go_wp2_with fail
  refine (S1.out _).mono ?_
  rintro e u1 ⟨rfl, hb1⟩
  replace hs := hs.below hb1
  clear hb1 C0
  have C0 := hs.cell 0
  have C2 := hs.cell 2
  have C3 := hs.cell 3
  go_wp2_with fail
  refine (S2.out _).mono ?_
  rintro e u2 ⟨rfl, rfl⟩
  go_wp2_with fail
  go_region
  go_wp2_with fail
  clear C0 C2 C3
  refine (HF.out _).mono ?_
  rintro e u3 ⟨o, rfl, hf⟩
  have on := hf.hn
  have oβ := hf.hβ
  replace hs := hs.fresh hf.undrew
  clear hf HF
  go_wp2_with (first | ((with_reducible refine load_vec_g ?_ _ rfl _ rfl _ hs.vec ?_); (focus rfl)) | ((with_reducible refine load_in ?_ _ rfl _ rfl _ _ _ _ _ _ hs.ins ?_); (focus rfl)))
  refine (E1.out _ _).mono ?_
  rintro e u4 ⟨rfl, hb4⟩
  replace hs := hs.below hb4
  clear hb4
  go_wp2_with (first | ((with_reducible refine store_vec rfl _ _ rfl _ _ rfl rfl 0 (heap_new_zero _) ?_); intro wA hA; replace hs := hs.below (((Below.refl _ _).alloc (Nat.le_refl _) _).trans hA.below); clear hA) | ((with_reducible refine load_vec_g ?_ _ rfl _ rfl _ hs.vec ?_); (focus rfl)) | ((with_reducible refine load_in ?_ _ rfl _ rfl _ _ _ _ _ _ hs.ins ?_); (focus rfl)))
  refine (E2.out _ _).mono ?_
  rintro e u5 ⟨rfl, hb5⟩
  replace hs := hs.below hb5
  clear hb5
  go_wp2_with fail
  refine (untouched_k o _ (hs.ms.get 0 rfl) on (-1) 0 (by decide) (by decide) (fun k hk _ => oβ k hk)).mono ?_
  rintro e u6 ⟨rfl, hb6⟩
  replace hs := hs.below hb6
  go_wp2_with fail
  go_ret
  exact ⟨rfl, hs.ms.bel⟩

set_option maxRecDepth 100000 in
set_option maxHeartbeats 1000000 in
theorem whole_bad_5b (op a b lo hi at_ : Int) (L : Value) (v : Vec) (w : World) (N : Int) (hr : -9223372036854775808 ≤ op ∧ op ≤ 9223372036854775807) (hN : vszN op = N) (hb : -9223372036854775808 ≤ b ∧ b ≤ 9223372036854775807) (hB1 : VBad op b lo true) (hB2 : VBad op b lo false) (h2 : 0 ≤ b ∧ b < 4294967296) (hop : op = 64859 ∧ N = 8) (h3 : 2 ≤ lo) :
    Calls Try.prog 9 #[inV op a b lo hi L, .int .u32 at_, .agg (cells v)] w fun e w' => e = .returned (.bool true) ∧ Below w.heap.size w w' := by
  have S1 := Lib.hid (fun W => sized_any op W hr)
  have S2 := Lib.hid (fun W => vsize_any op W hr)
  rw [hN] at S1 S2
  have E1 := Lib.hid (fun p W => vload_bad p op a b lo hi at_ L v W hr hB2)
  have E2 := Lib.hid (fun p W => vstore_bad p op a b lo hi at_ L v W hr hB1)
  have HF := Lib.hid filled_k
  clear hB1 hB2 hN hr
  obtain ⟨rfl, rfl⟩ := hop
  have hd1 : decide (b < 0) = false := decide_eq_false (by omega)
  have hd2 : decide (4294967296 ≤ b) = false := decide_eq_false (by omega)
  have hd3 : decide (2 ≤ lo) = true := decide_eq_true h3
  go_enter Try.func9, Try.ntmps9
  go_wp2_with fail
  have hs : WI w (.int .i64 64859) (.int .i64 a) (.int .i64 b) (.int .u64 lo) (.int .u64 hi) L v [] ((w.alloc (.cells #[.int .i64 64859, .int .i64 a, .int .i64 b, .int .u64 lo, .int .u64 hi, L] 65)).alloc (.cells (cells v) 61)) := WI.start w
  refine (awake11 _).mono ?_
  rintro e u0 ⟨rfl, hb0⟩
  replace hs := hs.below hb0
  clear hb0
  have C0 := hs.cell 0
  go_wp2_with fail
  refine (S1.out _).mono ?_
  rintro e u1 ⟨rfl, hb1⟩
  replace hs := hs.below hb1
  clear hb1 C0
  have C0 := hs.cell 0
  have C2 := hs.cell 2
  have C3 := hs.cell 3
  go_wp2_with fail
  refine (S2.out _).mono ?_
  rintro e u2 ⟨rfl, rfl⟩
  go_wp2_with fail
  go_region
  go_wp2_with fail
  clear C0 C2 C3
  refine (HF.out _).mono ?_
  rintro e u3 ⟨o, rfl, hf⟩
  have on := hf.hn
  have oβ := hf.hβ
  replace hs := hs.fresh hf.undrew
  clear hf HF
  go_wp2_with (first | ((with_reducible refine load_vec_g ?_ _ rfl _ rfl _ hs.vec ?_); (focus rfl)) | ((with_reducible refine load_in ?_ _ rfl _ rfl _ _ _ _ _ _ hs.ins ?_); (focus rfl)))
  refine (E1.out _ _).mono ?_
  rintro e u4 ⟨rfl, hb4⟩
  replace hs := hs.below hb4
  clear hb4
  go_wp2_with (first | ((with_reducible refine store_vec rfl _ _ rfl _ _ rfl rfl 0 (heap_new_zero _) ?_); intro wA hA; replace hs := hs.below (((Below.refl _ _).alloc (Nat.le_refl _) _).trans hA.below); clear hA) | ((with_reducible refine load_vec_g ?_ _ rfl _ rfl _ hs.vec ?_); (focus rfl)) | ((with_reducible refine load_in ?_ _ rfl _ rfl _ _ _ _ _ _ hs.ins ?_); (focus rfl)))
  refine (E2.out _ _).mono ?_
  rintro e u5 ⟨rfl, hb5⟩
  replace hs := hs.below hb5
  clear hb5
  go_wp2_with fail
  refine (untouched_k o _ (hs.ms.get 0 rfl) on (-1) 0 (by decide) (by decide) (fun k hk _ => oβ k hk)).mono ?_
  rintro e u6 ⟨rfl, hb6⟩
  replace hs := hs.below hb6
  go_wp2_with fail
  go_ret
  exact ⟨rfl, hs.ms.bel⟩

theorem vszN_pos (op : Int) (hv : (64768 ≤ op ∧ op ≤ 64779 ∨ 64852 ≤ op ∧ op ≤ 64861)) : (vszN op == 0) = false := by
  rcases vops op hv with rfl | rfl | rfl | rfl | rfl | rfl | rfl | rfl | rfl | rfl | rfl | rfl | rfl | rfl | rfl | rfl | rfl | rfl | rfl | rfl | rfl | rfl <;> rfl
/-- What the law itself finds wrong. -/
def LBad (op b lo : Int) : Prop := ¬ (64768 ≤ op ∧ op ≤ 64779 ∨ 64852 ≤ op ∧ op ≤ 64861) ∨ b < 0 ∨ 4294967296 ≤ b ∨ (vln op ∧ 16 / vszN op ≤ lo)
theorem LBad.v {op b lo : Int} (h : LBad op b lo) (s : Bool) : VBad op b lo s := by
  rcases h with h | h | h | h
  · exact .inl h
  · exact .inr (.inr (.inl h))
  · exact .inr (.inr (.inr (.inl h)))
  · exact .inr (.inr (.inr (.inr h)))
theorem whole_bad (op a b lo hi at_ : Int) (L : Value) (v : Vec) (w : World) (hr : -9223372036854775808 ≤ op ∧ op ≤ 9223372036854775807) (hb : -9223372036854775808 ≤ b ∧ b ≤ 9223372036854775807) (h : LBad op b lo) :
    Calls Try.prog 9 #[inV op a b lo hi L, .int .u32 at_, .agg (cells v)] w fun e w' => e = .returned (.bool true) ∧ Below w.heap.size w w' := by
  have h1 := h.v true
  have h2 := h.v false
  by_cases hv : (64768 ≤ op ∧ op ≤ 64779 ∨ 64852 ≤ op ∧ op ≤ 64861)
  · have h0 := vszN_pos op hv
    by_cases c1 : b < 0
    · exact whole_bad_neg op a b lo hi at_ L v w _ hr rfl hb h1 h2 h0 c1
    · by_cases c2 : 4294967296 ≤ b
      · exact whole_bad_big op a b lo hi at_ L v w _ hr rfl hb h1 h2 h0 c2 (by omega)
      · have hl := ((h.resolve_left (fun c => c hv)).resolve_left c1).resolve_left c2
        have hvl := hl.1
        unfold vln at hvl
        have hc : op = 64852 ∨ op = 64853 ∨ op = 64854 ∨ op = 64855 ∨ op = 64856 ∨ op = 64857 ∨ op = 64858 ∨ op = 64859 := by omega
        rcases hc with rfl | rfl | rfl | rfl | rfl | rfl | rfl | rfl
        · exact whole_bad_54 _ a b lo hi at_ L v w _ hr rfl hb h1 h2 ⟨by omega, by omega⟩ ⟨rfl, rfl⟩ hl.2
        · exact whole_bad_55 _ a b lo hi at_ L v w _ hr rfl hb h1 h2 ⟨by omega, by omega⟩ ⟨rfl, rfl⟩ hl.2
        · exact whole_bad_56 _ a b lo hi at_ L v w _ hr rfl hb h1 h2 ⟨by omega, by omega⟩ ⟨rfl, rfl⟩ hl.2
        · exact whole_bad_57 _ a b lo hi at_ L v w _ hr rfl hb h1 h2 ⟨by omega, by omega⟩ ⟨rfl, rfl⟩ hl.2
        · exact whole_bad_58 _ a b lo hi at_ L v w _ hr rfl hb h1 h2 ⟨by omega, by omega⟩ ⟨rfl, rfl⟩ hl.2
        · exact whole_bad_59 _ a b lo hi at_ L v w _ hr rfl hb h1 h2 ⟨by omega, by omega⟩ ⟨rfl, rfl⟩ hl.2
        · exact whole_bad_5a _ a b lo hi at_ L v w _ hr rfl hb h1 h2 ⟨by omega, by omega⟩ ⟨rfl, rfl⟩ hl.2
        · exact whole_bad_5b _ a b lo hi at_ L v w _ hr rfl hb h1 h2 ⟨by omega, by omega⟩ ⟨rfl, rfl⟩ hl.2
  · exact whole_bad_none op a b lo hi at_ L v w _ hr rfl hb h1 h2 (by unfold vszN; rw [if_neg (by omega), if_neg (by omega)])

end Go.Proofs.Ytlcndenbnokcjaa
