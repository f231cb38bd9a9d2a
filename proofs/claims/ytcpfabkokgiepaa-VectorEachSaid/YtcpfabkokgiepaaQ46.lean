/-
  Texts VcRz, VcR8, VcRs.
-/
import Derived.Test.YtcpfabkokgiepaaQ43
import Derived.Deep.Cut
set_option linter.unusedSimpArgs false
set_option linter.unusedVariables false
set_option maxHeartbeats 8000000
open Pl
section
namespace Go.Proofs.Ytcpfabkokgiepaa
open Go.RowKit Pl
end Go.Proofs.Ytcpfabkokgiepaa
namespace Pl
open Go
def rW (op a b c d : Int) : Int := if op = 64768 + a then 0 else if op = 64768 + b then 1 else if op = 64768 + c then 2 else if op = 64768 + d then 3 else -1
end Pl
namespace Go.Proofs.Ytcpfabkokgiepaa
open Go.RowKit Pl
set_option maxRecDepth 100000 in
theorem s9 (op a b c d : Int) (w : World) (ha : 0 ≤ a ∧ a ≤ 255) (hb0 : 0 ≤ b ∧ b ≤ 255) (hc : 0 ≤ c ∧ c ≤ 255) (hd : 0 ≤ d ∧ d ≤ 255) : Calls Try.prog 71 #[.int .i64 op, .agg #[.int .i64 a, .int .i64 b, .int .i64 c, .int .i64 d]] w fun e w' => e = .returned (.int .i64 (rW op a b c d)) ∧ Below w.heap.size w w' := by
 have w0 : IntKind.i64.wrap (64768 + a) = 64768 + a := IntWalk.i64_in _ (by omega)
 have w1 : IntKind.i64.wrap (64768 + b) = 64768 + b := IntWalk.i64_in _ (by omega)
 have w2 : IntKind.i64.wrap (64768 + c) = 64768 + c := IntWalk.i64_in _ (by omega)
 have w3 : IntKind.i64.wrap (64768 + d) = 64768 + d := IntWalk.i64_in _ (by omega)
 obtain ⟨r, hr⟩ : ∃ r, r = rW op a b c d := ⟨_, rfl⟩
 go_enter Try.func71, Try.ntmps71
 go_wp2_with fail
 go_loopw [5] (fun jv wr => ∃ j : Nat, j ≤ 4 ∧ jv = .int .i64 j ∧ (0 < j → op ≠ 64768 + a) ∧ (1 < j → op ≠ 64768 + b) ∧ (2 < j → op ≠ 64768 + c) ∧ (3 < j → op ≠ 64768 + d) ∧ wr.heap[w.heap.size]? = some (.cells #[.int .i64 a, .int .i64 b, .int .i64 c, .int .i64 d] 103 (0, 0)) ∧ Below w.heap.size w wr) (fun jv _ => 4 - (intOf jv).toNat)
 case atStart => exact ⟨0, by decide, rfl, fun h => absurd h (by decide), fun h => absurd h (by decide), fun h => absurd h (by decide), fun h => absurd h (by decide), heap_alloc_new _ _, (Below.refl _ _).alloc (Nat.le_refl _) _⟩
 case round =>
  clear hr
  obtain ⟨j, hj, rfl, h0, h1, h2, h3, hA, hb⟩ := hrel
  have hj5 : j = 0 ∨ j = 1 ∨ j = 2 ∨ j = 3 ∨ j = 4 := by omega
  replace h0 := Lib.hid h0
  replace h1 := Lib.hid h1
  replace h2 := Lib.hid h2
  replace h3 := Lib.hid h3
  rcases hj5 with rfl | rfl | rfl | rfl | rfl
  ·as_aux_lemma =>
   by_cases he : op = 64768 + a
   ·have q : (op == 64768 + a) = true := by simp [he]
    have HE := Lib.hid he
    clear he
    go_wp2_with (first | ((with_reducible refine t8 ?_ 3 mM _ rfl _ _ rfl _ _ hA _ rfl ?_); (focus rfl)))
    go_ret
    exact ⟨by unfold rW; rw [if_pos HE.out]; rfl, hb⟩
   ·have q : (op == 64768 + a) = false := by simp [he]
    have HE := Lib.hid he
    clear he
    go_wp2_with (first | ((with_reducible refine t8 ?_ 3 mM _ rfl _ _ rfl _ _ hA _ rfl ?_); (focus rfl)))
    exact ⟨⟨1, by decide, rfl, fun _ => HE.out, fun h => absurd h (by decide), fun h => absurd h (by decide), fun h => absurd h (by decide), hA, hb⟩, by simp [intOf]⟩
  ·as_aux_lemma =>
   by_cases he : op = 64768 + b
   ·have q : (op == 64768 + b) = true := by simp [he]
    have HE := Lib.hid he
    clear he
    go_wp2_with (first | ((with_reducible refine t8 ?_ 3 mM _ rfl _ _ rfl _ _ hA _ rfl ?_); (focus rfl)))
    go_ret
    exact ⟨by unfold rW; rw [if_neg (h0.out (by decide))]; rw [if_pos HE.out]; rfl, hb⟩
   ·have q : (op == 64768 + b) = false := by simp [he]
    have HE := Lib.hid he
    clear he
    go_wp2_with (first | ((with_reducible refine t8 ?_ 3 mM _ rfl _ _ rfl _ _ hA _ rfl ?_); (focus rfl)))
    exact ⟨⟨2, by decide, rfl, fun _ => h0.out (by decide), fun _ => HE.out, fun h => absurd h (by decide), fun h => absurd h (by decide), hA, hb⟩, by simp [intOf]⟩
  ·as_aux_lemma =>
   by_cases he : op = 64768 + c
   ·have q : (op == 64768 + c) = true := by simp [he]
    have HE := Lib.hid he
    clear he
    go_wp2_with (first | ((with_reducible refine t8 ?_ 3 mM _ rfl _ _ rfl _ _ hA _ rfl ?_); (focus rfl)))
    go_ret
    exact ⟨by unfold rW; rw [if_neg (h0.out (by decide))]; rw [if_neg (h1.out (by decide))]; rw [if_pos HE.out]; rfl, hb⟩
   ·have q : (op == 64768 + c) = false := by simp [he]
    have HE := Lib.hid he
    clear he
    go_wp2_with (first | ((with_reducible refine t8 ?_ 3 mM _ rfl _ _ rfl _ _ hA _ rfl ?_); (focus rfl)))
    exact ⟨⟨3, by decide, rfl, fun _ => h0.out (by decide), fun _ => h1.out (by decide), fun _ => HE.out, fun h => absurd h (by decide), hA, hb⟩, by simp [intOf]⟩
  ·as_aux_lemma =>
   by_cases he : op = 64768 + d
   ·have q : (op == 64768 + d) = true := by simp [he]
    have HE := Lib.hid he
    clear he
    go_wp2_with (first | ((with_reducible refine t8 ?_ 3 mM _ rfl _ _ rfl _ _ hA _ rfl ?_); (focus rfl)))
    go_ret
    exact ⟨by unfold rW; rw [if_neg (h0.out (by decide))]; rw [if_neg (h1.out (by decide))]; rw [if_neg (h2.out (by decide))]; rw [if_pos HE.out]; rfl, hb⟩
   ·have q : (op == 64768 + d) = false := by simp [he]
    have HE := Lib.hid he
    clear he
    go_wp2_with (first | ((with_reducible refine t8 ?_ 3 mM _ rfl _ _ rfl _ _ hA _ rfl ?_); (focus rfl)))
    exact ⟨⟨4, by decide, rfl, fun _ => h0.out (by decide), fun _ => h1.out (by decide), fun _ => h2.out (by decide), fun _ => HE.out, hA, hb⟩, by simp [intOf]⟩
  ·as_aux_lemma =>
   go_wp2_with fail
   go_ret
   exact ⟨by unfold rW; rw [if_neg (h0.out (by decide)), if_neg (h1.out (by decide)), if_neg (h2.out (by decide)), if_neg (h3.out (by decide))]; rfl, hb⟩
set_option maxRecDepth 100000 in
theorem w7_0 (w : World) : Calls Try.prog 72 #[.int .i64 0] w fun e w' => e = .returned (.int .i64 8) ∧ Below w.heap.size w w' := by
 go_enter Try.func72, Try.ntmps72
 go_wp2_with fail
 go_loopw [3, 4] (fun wv jv wx => ∃ j : Nat, j ≤ 0 ∧ jv = .int .i64 j ∧ wv = .int .i64 ((8 * 2 ^ j : Nat) : Int) ∧ w = wx) (fun _ jv _ => 0 - (intOf jv).toNat)
 case atStart => exact qL
 case round =>
  obtain ⟨j, hj, rfl, rfl, rfl⟩ := hrel
  have hj5 : j = 0 := by omega
  rcases hj5 with rfl
  ·exact qM
set_option maxRecDepth 100000 in
theorem w7_1 (w : World) : Calls Try.prog 72 #[.int .i64 1] w fun e w' => e = .returned (.int .i64 16) ∧ Below w.heap.size w w' := by
 go_enter Try.func72, Try.ntmps72
 go_wp2_with fail
 go_loopw [3, 4] (fun wv jv wx => ∃ j : Nat, j ≤ 1 ∧ jv = .int .i64 j ∧ wv = .int .i64 ((8 * 2 ^ j : Nat) : Int) ∧ w = wx) (fun _ jv _ => 1 - (intOf jv).toNat)
 case atStart => exact qL
 case round =>
  obtain ⟨j, hj, rfl, rfl, rfl⟩ := hrel
  have hj5 : j = 0 ∨ j = 1 := by omega
  rcases hj5 with rfl | rfl
  ·exact j6
  ·exact qM
set_option maxRecDepth 100000 in
theorem w7_2 (w : World) : Calls Try.prog 72 #[.int .i64 2] w fun e w' => e = .returned (.int .i64 32) ∧ Below w.heap.size w w' := by
 go_enter Try.func72, Try.ntmps72
 go_wp2_with fail
 go_loopw [3, 4] (fun wv jv wx => ∃ j : Nat, j ≤ 2 ∧ jv = .int .i64 j ∧ wv = .int .i64 ((8 * 2 ^ j : Nat) : Int) ∧ w = wx) (fun _ jv _ => 2 - (intOf jv).toNat)
 case atStart => exact qL
 case round =>
  obtain ⟨j, hj, rfl, rfl, rfl⟩ := hrel
  have hj5 : j = 0 ∨ j = 1 ∨ j = 2 := by omega
  rcases hj5 with rfl | rfl | rfl
  ·exact j6
  ·exact kP
  ·exact qM
set_option maxRecDepth 100000 in
theorem w7_3 (w : World) : Calls Try.prog 72 #[.int .i64 3] w fun e w' => e = .returned (.int .i64 64) ∧ Below w.heap.size w w' := by
 go_enter Try.func72, Try.ntmps72
 go_wp2_with fail
 go_loopw [3, 4] (fun wv jv wx => ∃ j : Nat, j ≤ 3 ∧ jv = .int .i64 j ∧ wv = .int .i64 ((8 * 2 ^ j : Nat) : Int) ∧ w = wx) (fun _ jv _ => 3 - (intOf jv).toNat)
 case atStart => exact qL
 case round =>
  obtain ⟨j, hj, rfl, rfl, rfl⟩ := hrel
  have hj5 : j = 0 ∨ j = 1 ∨ j = 2 ∨ j = 3 := by omega
  rcases hj5 with rfl | rfl | rfl | rfl
  ·exact j6
  ·exact kP
  ·go_wp2_with fail
   exact ⟨⟨3, by decide, rfl, rfl, by first | rfl | trivial⟩, by simp [intOf]⟩
  ·exact qM
end Go.Proofs.Ytcpfabkokgiepaa
end
section
namespace Go.Proofs.Ytcpfabkokgiepaa
open Go.RowKit Pl
theorem build_more (f : Nat → Nat) (i : Nat) (hi : i < 16) (h : f i = 0) : mJ 0 8 f (i + 1) = mJ 0 8 f i := by
 refine rL 8 16 (by decide) (by decide) fun j hj => ?_
 rw [pX 0 8 f (i + 1) j (by omega), pX 0 8 f i j (by omega)]
 by_cases h1 : j < i
 ·rw [if_pos (by omega), if_pos h1]
 ·by_cases h2 : j = i
  ·subst h2
   rw [if_pos (by omega), if_neg h1, h]
   simp [mT, tW]
  ·rw [if_neg (by omega), if_neg h1]
theorem dQ {w : World} {g : Nat} {v : Vec} (h : w.heap[g]? = some (.cells (mY v) 45 (0, 0))) (i : Nat) (hi : i < 16) : w.cell? ⟨g, i, none⟩ = some (.int .u8 (mT v 8 i : Nat)) := by
 rw [cell_of_row w g i _ _ _ h, getElem?_cells _ _ hi]
 rfl
set_option maxRecDepth 100000 in
theorem rswiz_s (a b : Vec) (w : World) : Calls Try.prog 41 #[.agg (mY a), .agg (mY b)] w fun e w' => e = .returned (.agg (mY (swizV a b))) ∧ Below w.heap.size w w' := by
 go_enter Try.func41, Try.ntmps41
 go_upto_region 2 with fail
 rw [← mU]
 obtain ⟨W, hW, hA, hB, hR, hO, hZ⟩ := zD w a b
 rw [← hW]
 clear hW
 go_upto_region 3 with fail
 go_loopw [6] (fun iv wr => ∃ i : Nat, i ≤ 16 ∧ iv = .int .i64 i ∧ St W (w.heap.size + 3) (mJ 0 8 (sH a b) i) wr) (fun iv _ => 16 - (intOf iv).toNat)
 case atStart => exact jT
 case round =>
  obtain ⟨wo, hwo⟩ : ∃ x, x = wr := ⟨_, rfl⟩
  subst hwo
  obtain ⟨i, hi, rfl, hs⟩ := hrel
  by_cases hlt : i < 16
  ·have hdi : decide ((i : Int) < 16) = true := by simp; omega
   go_upto_region 6 with fail
   (try simp only [hdi])
   go_loopw [7] (fun kv wx => ∃ k : Nat, k ≤ 16 ∧ kv = .int .i64 k ∧ St W (w.heap.size + 3) (if mT b 8 i < k then mJ 0 8 (sH a b) (i + 1) else mJ 0 8 (sH a b) i) wx) (fun kv _ => 16 - (intOf kv).toNat)
   case atStart => exact ⟨0, by decide, rfl, by rw [if_neg (Nat.not_lt_zero _)]; exact hs⟩
   case round =>
    obtain ⟨k, hk, rfl, hx⟩ := hrel
    have hB' := hx.kb.get hB (by omega)
    have hA' := hx.kb.get hA (by omega)
    by_cases hk2 : k < 16
    ·have cb := dQ hB' i hlt
     have ca := dQ hA' k hk2
     have hg := mL a 8 k
     obtain ⟨y, hy⟩ : ∃ y, y = mT b 8 i := ⟨_, rfl⟩
     obtain ⟨z, hz⟩ : ∃ z, z = mT a 8 k := ⟨_, rfl⟩
     have hyl : y < 256 := hy ▸ mL b 8 i
     rw [← hy] at cb hx
     rw [← hz] at ca hg
     have HY := Lib.hid hy
     have HZ := Lib.hid hz
     clear hy hz hA' hB'
     by_cases he : y = k
     ·have q : ((y : Int) == (k : Int)) = true := by simp [he]
      have hx2 : St W (w.heap.size + 3) (mJ 0 8 (sH a b) i) wr := by rw [if_neg (by omega)] at hx; exact hx
      have hzz : (z : Int) = ((z % 256 : Nat) : Int) := by omega
      have HE := Lib.hid he
      have HZZ := Lib.hid hzz
      clear he hx hzz
      as_aux_lemma =>
      go_wp2_with (first | (with_reducible refine mP rfl _ _ rfl (w.heap.size + 3) i _ z rfl rfl _ hx2.this hlt HZZ.out ?_; intro wq hq))
      have hend : St W (w.heap.size + 3) (if mT b 8 i < k + 1 then mJ 0 8 (sH a b) (i + 1) else mJ 0 8 (sH a b) i) wq := by
       rw [if_pos (by rw [← HY.out, HE.out]; omega)]
       have h1 := hx2.sets hq
       have h2 : sH a b i = z := by unfold sH; rw [← HY.out, HE.out, if_pos hk2, HZ.out]
       rw [mJ, h2]
       exact h1
      (refine ⟨?_, by simp [intOf]; omega⟩; first | exact ⟨k + 1, by omega, by go_num, hend⟩ | ((repeat apply Exists.intro); exact ⟨⟨k + 1, by omega, by go_num, hend⟩, rfl⟩))
     ·have q : ((y : Int) == (k : Int)) = false := by simp; omega
      have hx2 : St W (w.heap.size + 3) (if mT b 8 i < k + 1 then mJ 0 8 (sH a b) (i + 1) else mJ 0 8 (sH a b) i) wr := by
       rw [← HY.out]
       by_cases h : y < k
       ·rw [if_pos h] at hx; rw [if_pos (by omega)]; exact hx
       ·rw [if_neg h] at hx; rw [if_neg (by omega)]; exact hx
      clear he hx
      as_aux_lemma =>
      go_wp2_with fail
      (refine ⟨?_, by simp [intOf]; omega⟩; first | exact ⟨k + 1, by omega, by go_num, hx2⟩ | ((repeat apply Exists.intro); exact ⟨⟨k + 1, by omega, by go_num, hx2⟩, rfl⟩))
    ·obtain rfl : k = 16 := by omega
     have hx2 : St W (w.heap.size + 3) (mJ 0 8 (sH a b) (i + 1)) wr := by
      by_cases h : mT b 8 i < 16
      ·rw [if_pos h] at hx; exact hx
      ·rw [if_neg h] at hx
       rw [build_more _ i hlt (by unfold sH; rw [if_neg h])]
       exact hx
     clear hx hA' hB'
     as_aux_lemma =>
     go_wp2_with fail
     (refine ⟨?_, by simp [intOf]; omega⟩; first | exact ⟨i + 1, by omega, by go_num, hx2⟩ | ((repeat apply Exists.intro); exact ⟨⟨i + 1, by omega, by go_num, hx2⟩, rfl⟩))
  ·obtain rfl : i = 16 := by omega
   exact yQ
end Go.Proofs.Ytcpfabkokgiepaa
end
section
namespace Go.Proofs.Ytcpfabkokgiepaa
open Go.RowKit Pl
def sR (f : Nat → Nat) : Array Value := Array.ofFn (n := 32) (fun j => Value.int .u8 (f j.val : Nat))
theorem eM (f : Nat → Nat) : (sR f).size = 32 := by simp [sR]
theorem dF (f : Nat → Nat) (j : Nat) (h : j < 32) : (sR f)[j]? = some (.int .u8 (f j : Nat)) := by simp [sR, h]
theorem cellsF_zero : (#[.int .u8 0, .int .u8 0, .int .u8 0, .int .u8 0, .int .u8 0, .int .u8 0, .int .u8 0, .int .u8 0, .int .u8 0, .int .u8 0, .int .u8 0, .int .u8 0, .int .u8 0, .int .u8 0, .int .u8 0, .int .u8 0, .int .u8 0, .int .u8 0, .int .u8 0, .int .u8 0, .int .u8 0, .int .u8 0, .int .u8 0, .int .u8 0, .int .u8 0, .int .u8 0, .int .u8 0, .int .u8 0, .int .u8 0, .int .u8 0, .int .u8 0, .int .u8 0] : Array Value) = sR (fun _ => 0) := by kernel_rfl
theorem cellsF_set (f : Nat → Nat) (j z : Nat) (h : j < 32) : (sR f).setIfInBounds j (.int .u8 (z : Nat)) = sR (fun k => if k = j then z else f k) := by
 apply Array.ext_getElem?
 intro k
 rw [Array.getElem?_setIfInBounds]
 by_cases hk : k < 32
 ·by_cases e : j = k
  ·subst e; rw [if_pos rfl, if_pos (by rw [eM]; exact h), dF (fun k => if k = j then z else f k) j hk]; simp
  ·rw [if_neg e, dF f k hk, dF (fun k => if k = j then z else f k) k hk]; simp [fun h : k = j => e h.symm, Ne.symm e]
 ·have hn : ∀ g, (sR g)[k]? = none := fun g => Array.getElem?_eq_none (by rw [eM]; omega)
  rw [hn, if_neg (by omega), hn]
theorem cellsF_congr {f g : Nat → Nat} (h : ∀ k, k < 32 → f k = g k) : sR f = sR g := by
 apply Array.ext
 ·simp [sR]
 ·intro k h1 h2
  have hk : k < 32 := by simpa [sR] using h2
  simp only [sR, Array.getElem_ofFn]
  rw [h k hk]
def dZ (a b : Vec) (i j : Nat) : Nat := if j < i then mT a 8 j else if 16 ≤ j ∧ j < 16 + i then mT b 8 (j - 16) else 0
theorem both_step (a b : Vec) (i : Nat) (hi : i < 16) : ((sR (dZ a b i)).setIfInBounds i (.int .u8 (mT a 8 i : Nat))).setIfInBounds (16 + i) (.int .u8 (mT b 8 i : Nat)) = sR (dZ a b (i + 1)) := by
 rw [cellsF_set _ i _ (by omega), cellsF_set _ (16 + i) _ (by omega)]
 refine cellsF_congr fun k hk => ?_
 show (if k = 16 + i then mT b 8 i else if k = i then mT a 8 i else dZ a b i k) = dZ a b (i + 1) k
 unfold dZ
 (repeat' split) <;> first | rfl | omega | (have : k - 16 = i := by omega
                                            rw [this]) | (have : k = i := by omega
                                                          rw [this])
theorem both_shuf (s a b : Vec) (i : Nat) (h : mT s 8 i < 32) : dZ a b 16 (mT s 8 i) = sA s a b i := by
 unfold dZ sA
 by_cases h1 : 16 ≤ mT s 8 i
 ·rw [if_neg (by omega), if_pos (by omega), if_pos h1]
 ·rw [if_pos (by omega), if_neg h1]
theorem a32size : (Try.prog.info? 104).map (·.size) = some (#[.int .u8 0, .int .u8 0, .int .u8 0, .int .u8 0, .int .u8 0, .int .u8 0, .int .u8 0, .int .u8 0, .int .u8 0, .int .u8 0, .int .u8 0, .int .u8 0, .int .u8 0, .int .u8 0, .int .u8 0, .int .u8 0, .int .u8 0, .int .u8 0, .int .u8 0, .int .u8 0, .int .u8 0, .int .u8 0, .int .u8 0, .int .u8 0, .int .u8 0, .int .u8 0, .int .u8 0, .int .u8 0, .int .u8 0, .int .u8 0, .int .u8 0, .int .u8 0] : Array Value).size := by kernel_rfl
theorem a32hold : (#[.int .u8 0, .int .u8 0, .int .u8 0, .int .u8 0, .int .u8 0, .int .u8 0, .int .u8 0, .int .u8 0, .int .u8 0, .int .u8 0, .int .u8 0, .int .u8 0, .int .u8 0, .int .u8 0, .int .u8 0, .int .u8 0, .int .u8 0, .int .u8 0, .int .u8 0, .int .u8 0, .int .u8 0, .int .u8 0, .int .u8 0, .int .u8 0, .int .u8 0, .int .u8 0, .int .u8 0, .int .u8 0, .int .u8 0, .int .u8 0, .int .u8 0, .int .u8 0] : Array Value).size = (#[.int .u8 0, .int .u8 0, .int .u8 0, .int .u8 0, .int .u8 0, .int .u8 0, .int .u8 0, .int .u8 0, .int .u8 0, .int .u8 0, .int .u8 0, .int .u8 0, .int .u8 0, .int .u8 0, .int .u8 0, .int .u8 0, .int .u8 0, .int .u8 0, .int .u8 0, .int .u8 0, .int .u8 0, .int .u8 0, .int .u8 0, .int .u8 0, .int .u8 0, .int .u8 0, .int .u8 0, .int .u8 0, .int .u8 0, .int .u8 0, .int .u8 0, .int .u8 0] : Array Value).size := rfl
theorem a32all : (#[.int .u8 0, .int .u8 0, .int .u8 0, .int .u8 0, .int .u8 0, .int .u8 0, .int .u8 0, .int .u8 0, .int .u8 0, .int .u8 0, .int .u8 0, .int .u8 0, .int .u8 0, .int .u8 0, .int .u8 0, .int .u8 0, .int .u8 0, .int .u8 0, .int .u8 0, .int .u8 0, .int .u8 0, .int .u8 0, .int .u8 0, .int .u8 0, .int .u8 0, .int .u8 0, .int .u8 0, .int .u8 0, .int .u8 0, .int .u8 0, .int .u8 0, .int .u8 0] : Array Value).all (·.oneCell') = true := by kernel_rfl
theorem size_u8 : (Try.prog.info? 5).map (·.size) = some 1 := by kernel_rfl
theorem shuf_ok {s a b : Vec} (h : ∀ i, i < 16 → mT s 8 i < 32) : rC s a b = (mJ 0 8 (sA s a b) 16, 0) := by
 unfold rC
 rw [if_pos]
 rw [List.all_eq_true]
 intro i hi
 exact decide_eq_true (h i (List.mem_range.1 hi))
theorem shuf_bad {s a b : Vec} (i : Nat) (hi : i < 16) (h : ¬ mT s 8 i < 32) : rC s a b = (0, 1) := by
 unfold rC
 rw [if_neg]
 intro h2
 have := List.all_eq_true.1 h2 i (List.mem_range.2 hi)
 exact h (of_decide_eq_true this)
set_option maxRecDepth 100000 in
theorem rshuf_s (s a b : Vec) (w : World) : Calls Try.prog 40 #[.agg (mY s), .agg (mY a), .agg (mY b)] w fun e w' => e = .returned (.tuple #[.agg (mY (rC s a b).1), .int .i64 (rC s a b).2]) ∧ Below w.heap.size w w' := by
 obtain ⟨RV1, RE1, hRV⟩ : ∃ V E, rC s a b = (V, E) := ⟨_, _, rfl⟩
 rw [hRV]
 have HRV := Lib.hid hRV
 clear hRV
 go_enter Try.func40, Try.ntmps40
 go_upto_region 1 with fail
 rw [← mU]
 obtain ⟨W0, hW⟩ : ∃ W, W = (((w.alloc (.cells (mY s) 45)).alloc (.cells (mY a) 45)).alloc (.cells (mY b) 45)).alloc (.cells (mY 0) 45) := ⟨_, rfl⟩
 have hS : W0.heap[w.heap.size]? = some (.cells (mY s) 45 (0, 0)) := by rw [hW]; exact rU _ _ _ _ _
 have hA : W0.heap[w.heap.size + 1]? = some (.cells (mY a) 45 (0, 0)) := by rw [hW]; exact rV _ _ _ _ _
 have hB : W0.heap[w.heap.size + 2]? = some (.cells (mY b) 45 (0, 0)) := by rw [hW]; exact rG _ _ _ _ _
 have hR : W0.heap[w.heap.size + 3]? = some (.cells (mY 0) 45 (0, 0)) := by rw [hW]; exact rK _ _ _ _ _
 have hZ : Below w.heap.size w W0 := by rw [hW]; exact vY _ _ _ _ _
 have hs0' : W0.heap.size = w.heap.size + 4 := by rw [hW]; simp
 have HS0 := Lib.hid hs0'
 clear hs0'
 rw [← hW]
 clear hW
 as_aux_lemma =>
 go_upto_region 2 with (first | ((with_reducible refine vR rfl 104 _ _ rfl _ _ rfl rfl a32size a32hold a32all ?_); intro W hb1 hC0 lC))
 replace hS := mV hS hb1
 replace hA := mV hA hb1
 replace hB := mV hB hb1
 replace hR := mV hR hb1
 replace hZ := hZ.trans (hb1.mono hZ.size)
 rw [cellsF_zero] at hC0
 obtain ⟨BB, hBB⟩ : ∃ B, B = W0.heap.size := ⟨_, rfl⟩
 rw [← hBB] at hC0 ⊢
 have hs1 : w.heap.size + 4 ≤ BB := by rw [hBB, HS0.out]; exact Nat.le_refl _
 have hsz : BB < W.heap.size := mF hC0
 clear hb1 lC hBB
 as_aux_lemma =>
 go_upto_region 3 with fail
 go_loopw [9] (fun iv wr => ∃ i : Nat, i ≤ 16 ∧ iv = .int .i64 i ∧ W.grownBy wr (some BB) ∧ wr.heap[BB]? = some (.cells (sR (dZ a b i)) 104 (0, 0))) (fun iv _ => 16 - (intOf iv).toNat)
 case atStart => exact ⟨0, by decide, rfl, grown_refl _ _, by rw [hC0, cellsF_congr (g := dZ a b 0) (fun k _ => by unfold dZ; rw [if_neg (Nat.not_lt_zero _), if_neg (by omega)])]⟩
 case round =>
  obtain ⟨wo, hwo⟩ : ∃ x, x = wr := ⟨_, rfl⟩
  subst hwo
  obtain ⟨i, hi, rfl, hg, hC⟩ := hrel
  have hk : ∀ k, k < BB → wo.heap[k]? = W.heap[k]? := fun k h => hg.block k (by omega) (fun e => by injection e with e; omega)
  have hgs := hg.size
  by_cases hlt : i < 16
  ·have hB' := (hk _ (by omega)).trans hB
   have ca := dQ ((hk _ (by omega)).trans hA) i hlt
   have hga := mL a 8 i
   have hgb := mL b 8 i
   clear hk
   as_aux_lemma =>
   go_wp2_with (first | (refine rP rfl 5 size_u8 _ _ rfl BB i rfl (.int .u8 _) rfl rfl rfl _ _ hC (by rw [eM]; omega) ?_; intro y1 g1 s1 hC1; have hB1 := (g1.block _ (by omega) (fun e => by injection e with e; omega)).trans hB'; have cb1 := dQ hB1 i hlt) | (refine rP rfl 5 size_u8 _ _ rfl BB (16 + i) rfl (.int .u8 _) rfl rfl rfl _ _ hC1 (by rw [Array.size_setIfInBounds, eM]; omega) ?_; intro y2 g2 s2 hC2))
   skip
   have hend : W.grownBy y2 (some BB) ∧ y2.heap[BB]? = some (.cells (sR (dZ a b (i + 1))) 104 (0, 0)) := ⟨eN (eN hg g1) g2, by rw [hC2, both_step a b i hlt]⟩
   (refine ⟨?_, by simp [intOf]; omega⟩; first | exact ⟨i + 1, by omega, by go_num, hend⟩ | ((repeat apply Exists.intro); exact ⟨⟨i + 1, by omega, by go_num, hend⟩, rfl⟩))
  ·obtain rfl : i = 16 := by omega
   replace hS := (hk _ (by omega)).trans hS
   replace hR := (hk _ (by omega)).trans hR
   have hZ2 : Below w.heap.size w wo := hZ.trans (tU hg (by omega) (fun g e => by injection e with e; omega))
   clear hk hA hB hC0
   as_aux_lemma =>
   go_upto_region 8 with fail
   rw [← mU]
   obtain ⟨W2, hW2⟩ : ∃ W2, W2 = wo.alloc (.cells (mY 0) 45) := ⟨_, rfl⟩
   replace hS := hW2 ▸ mE hS (.cells (mY 0) 45)
   replace hR := hW2 ▸ mE hR (.cells (mY 0) 45)
   replace hC := hW2 ▸ mE hC (.cells (mY 0) 45)
   have hO : W2.heap[wo.heap.size]? = some (.cells (mY 0) 45 (0, 0)) := hW2 ▸ heap_alloc_new _ _
   replace hZ2 : Below w.heap.size w W2 := hW2 ▸ hZ2.alloc hZ2.size _
   rw [← hW2]
   clear hW2
   go_upto_region 9 with fail
   go_loopw [11] (fun iv wx => ∃ i : Nat, i ≤ 16 ∧ iv = .int .i64 i ∧ (∀ j, j < i → mT s 8 j < 32) ∧ St W2 wo.heap.size (mJ 0 8 (sA s a b) i) wx) (fun iv _ => 16 - (intOf iv).toNat)
   case atStart => exact ⟨0, by decide, rfl, fun j hj => absurd hj (Nat.not_lt_zero _), St.start hO⟩
   case round =>
    obtain ⟨i, hi, rfl, hall, hx⟩ := hrel
    have HALL := Lib.hid hall
    clear hall
    have hS' := hx.kb.get hS (by omega)
    have hR' := hx.kb.get hR (by omega)
    have hC' := hx.kb.get hC (by omega)
    by_cases hlt : i < 16
    ·have cs := dQ hS' i hlt
     obtain ⟨y, hy⟩ : ∃ y, y = mT s 8 i := ⟨_, rfl⟩
     have hyl : y < 256 := hy ▸ mL s 8 i
     rw [← hy] at cs
     have HY := Lib.hid hy
     clear hy
     by_cases hb : y < 32
     ·have q : decide ((31 : Int) < (y : Int)) = false := by simp; omega
      have cc : wr.cell? ⟨BB, y, none⟩ = some (.int .u8 (dZ a b 16 y : Nat)) := by
       rw [cell_of_row wr _ y _ _ _ hC', dF _ _ hb]
      have hz : dZ a b 16 y = sA s a b i := by rw [HY.out]; exact both_shuf s a b i (HY.out ▸ hb)
      rw [hz] at cc
      have hzl : sA s a b i < 256 := by unfold sA; split <;> exact mL _ _ _
      obtain ⟨z, hzz⟩ : ∃ z, z = sA s a b i := ⟨_, rfl⟩
      rw [← hzz] at cc hzl
      have HZZ := Lib.hid hzz
      have HM : Hid ((z : Int) = ((z % 256 : Nat) : Int)) := Lib.hid (by omega)
      have hall2 : Hid (∀ j, j < i + 1 → mT s 8 j < 32) := Lib.hid (fun j hj => by
       by_cases e : j = i
       ·subst e; rw [← HY.out]; exact hb
       ·exact HALL.out j (by omega))
      clear hz hzz
      as_aux_lemma =>
      go_wp2_with (first | (with_reducible refine mP rfl _ _ rfl wo.heap.size i _ z rfl rfl _ hx.this hlt HM.out ?_; intro wq hq))
      have hend : St W2 wo.heap.size (mJ 0 8 (sA s a b) (i + 1)) wq := by
       have h1 := hx.sets hq
       rw [mJ, ← HZZ.out]
       exact h1
      (refine ⟨?_, by simp [intOf]; omega⟩; first | exact ⟨i + 1, by omega, by go_num, hall2.out, hend⟩ | ((repeat apply Exists.intro); exact ⟨⟨i + 1, by omega, by go_num, hall2.out, hend⟩, rfl⟩))
     ·have q : decide ((31 : Int) < (y : Int)) = true := by simp; omega
      have e1 : (RV1, RE1) = (0, 1) := by rw [← HRV.out]; exact shuf_bad i hlt (by rw [← HY.out]; exact hb)
      injection e1 with e1 e2
      subst e1 e2
      clear HRV
      as_aux_lemma =>
      go_wp2_with (first | (refine mK rfl _ _ rfl (w.heap.size + 3) 0 rfl (by rw [mU]; rfl) _ hR' ?_; intro wq hq))
      exact bodyPost_ret (mS rfl _ _ (w.heap.size + 3) _ _ rfl rfl hq.this) rfl ⟨rfl, (hx.kb.to_below hZ2 (by omega)).trans (hq.below.mono (by omega))⟩
    ·obtain rfl : i = 16 := by omega
     have e1 : (RV1, RE1) = (mJ 0 8 (sA s a b) 16, 0) := by rw [← HRV.out]; exact shuf_ok HALL.out
     injection e1 with e1 e2
     subst e1 e2
     clear HRV
     as_aux_lemma =>
     go_wp2_with (first | (with_reducible refine mG rfl _ rfl _ rfl _ hx.this ?_) | (with_reducible refine mK rfl _ _ rfl (w.heap.size + 3) _ rfl rfl _ hR' ?_; intro wq hq))
     exact bodyPost_ret (mS rfl _ _ (w.heap.size + 3) _ _ rfl rfl hq.this) rfl ⟨rfl, (hx.kb.to_below hZ2 (by omega)).trans (hq.below.mono (by omega))⟩
end Go.Proofs.Ytcpfabkokgiepaa
end
