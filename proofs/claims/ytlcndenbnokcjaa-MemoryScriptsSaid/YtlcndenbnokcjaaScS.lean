/-
  plaitlaw10.right: kind 4.
-/
import Derived.Test.YtlcndenbnokcjaaScB
set_option linter.unusedSimpArgs false
set_option linter.unusedVariables false
namespace Go.Proofs.Ytlcndenbnokcjaa
open Go.RowKit Pl

theorem u8_succ (x : Nat) : ∃ z : Nat, z < 256 ∧ IntKind.u8.wrap ((x : Int) + 1) = (z : Int) := ⟨(x + 1) % 256, by omega, by
  have : IntKind.u8.wrap ((x : Int) + 1) = ((x : Int) + 1) % 256 := by simp [IntKind.wrap, IntKind.bits, IntKind.signed]
  rw [this]; omega⟩
set_option maxRecDepth 100000 in
set_option maxHeartbeats 4000000 in
theorem right_4 (a b : Option MObj) (y : OpR) (w : World) (h : Pr w a b) (ok : y.Ok) (hk : y.kind = 4) :
    Calls Try.prog 23 #[ptrO a, ptrO b, .agg y.row] w fun e w' => e = .returned (.bool true) ∧ ∃ a1 b1, Turned w w' a b a1 b1 := by
  obtain ⟨W, hW⟩ : ∃ W, W = w.alloc (.cells y.row 50) := ⟨_, rfl⟩
  have bx : Bx W w.heap.size y := hW ▸ Bx.new w y
  have hbw : Below w.heap.size w W := hW ▸ (Below.refl _ _).alloc (Nat.le_refl _) _
  have hp := h.below hbw
  obtain ⟨na, nb⟩ := h.off (Nat.le_refl w.heap.size)
  obtain ⟨E, k, ν, hk4, CA, CB⟩ := peek_pair a b h.like y.p y.len ok.p ok.len
  have CA := Lib.hid (CA W hp.ha)
  have CB := Lib.hid CB
  go_enter Try.func23, Try.ntmps23
  go_upto_region 1 with fail
  rw [← hW]
  have c0 := bx.c0
  rw [hk] at c0
  have HW := Lib.hid hW
  clear hW
  have c5 := bx.c5
  have c6 := bx.c6
  go_wp2_with fail
  refine CA.out.mono ?_
  rintro e u1 ⟨v1, rfl, k1⟩
  have bx1 := bx.below k1.bel
  clear c0 c5 c6
  have c0 := bx1.c0
  rw [hk] at c0
  have c5 := bx1.c5
  have c6 := bx1.c6
  go_wp2_with fail
  refine (CB.out u1 (hp.hb.below k1.bel)).mono ?_
  rintro e u2 ⟨v2, rfl, k2⟩
  obtain ⟨S, hS⟩ : ∃ S, S = strB k ν := ⟨_, rfl⟩
  have f1 : (convert 48 9 v1).run Try.prog u2 = .ok (.string S) u2 := by rw [hS]; exact conv_bytes (k1.view.below k2.bel)
  have f2 : (convert 48 9 v2).run Try.prog u2 = .ok (.string S) u2 := by rw [hS]; exact conv_bytes k2.view
  have hb2 : Below W.heap.size W u2 := Below.trans k1.bel (k2.bel.mono k1.bel.size)
  obtain ⟨q, c, hv, hr, hq⟩ := k1.ex
  have hr2 : RowAt u2 q k c ν := hr.keep (S := fun _ => False) (Keep.of_below k2.bel) (fun _ _ h => h)
  clear c0 c5 c6 hS hr bx1 CA CB k1 k2 ok
  subst hv
  cases q with
  | none =>
    obtain ⟨rfl, rfl⟩ := hr2
    simp only [headOf, Option.map_none] at f1 ⊢
    go_wp2_with fail
    go_loopw [16] (fun iv wr => iv = .int .i64 0 ∧ wr = u2) (fun iv _ => 0)
    case atStart => exact ⟨rfl, rfl⟩
    case round =>
      obtain ⟨rfl, rfl⟩ := hrel
      go_wp2_with fail
      go_ret
      exact ⟨rfl, a, b, Turned.of_below h (Below.trans hbw (hb2.mono hbw.size))⟩
  | some g =>
    have hg := hq g rfl
    have hr3 : BytesAt u2 g k c ν := hr2
    simp only [headOf, Option.map_some] at f1 ⊢
    go_wp2_with fail
    clear f1 f2 hr2
    go_loopw [16] (fun iv wr => ∃ (j : Nat) (γ : Nat → Nat), j ≤ k ∧ iv = .int .i64 (j : Int) ∧ BytesAt wr g k c γ ∧ Below W.heap.size W wr) (fun iv _ => k - (intOf iv).toNat)
    case atStart => exact ⟨0, ν, Nat.zero_le _, rfl, hr3, hb2⟩
    case round =>
      clear hr3 hb2
      obtain ⟨j, γ, hj, rfl, hB, hb3⟩ := hrel
      by_cases hlt : j < k
      · have hcell := hB.cell hlt
        have hfz := hB.frozen j
        have hle := hB.le
        obtain ⟨z, hz, e1⟩ := u8_succ (γ j)
        have hset := hB.set hlt hz
        have hb4 := hb3.setCell (p := ⟨g, j, none⟩) hg (.int .u8 (z : Nat))
        have HS := Lib.hid hset
        have HB := Lib.hid hb4
        clear hset hb4 hB hb3
        generalize γ j = gj at hcell e1
        go_wp2_with fail
        refine ⟨?_, ?_⟩
        · exact ⟨j + 1, _, by omega, by go_num, HS.out, HB.out⟩
        · simp [intOf] <;> omega
      · obtain rfl : j = k := by omega
        go_wp2_with fail
        go_ret
        exact ⟨rfl, a, b, Turned.of_below h (Below.trans hbw (hb3.mono hbw.size))⟩

end Go.Proofs.Ytlcndenbnokcjaa
