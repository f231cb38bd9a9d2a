/-
  plaitlaw10.all for a pair; right, whatever the kind.
-/
import Derived.Test.YtlcndenbnokcjaaScR
import Derived.Test.YtlcndenbnokcjaaScS
import Derived.Test.YtlcndenbnokcjaaScT
import Derived.Test.YtlcndenbnokcjaaScL
set_option linter.unusedSimpArgs false
set_option linter.unusedVariables false
namespace Go.Proofs.Ytlcndenbnokcjaa
open Go.RowKit Pl

set_option maxRecDepth 100000 in
theorem all10_nil (w : World) : Calls Try.prog 24 #[.pointer none, .pointer none] w fun e w' => e = .returned (.bool true) ∧ Below w.heap.size w w' := by
  go_enter Try.func24, Try.ntmps24
  go_wp2_with fail
  refine (pages_nil _).mono ?_
  rintro e u ⟨rfl, rfl⟩
  go_wp2_with fail
  refine (rpages_nil _).mono ?_
  rintro e u ⟨rfl, rfl⟩
  go_wp2_with fail
  go_loopw [5] (fun iv wr => iv = .int .i64 0 ∧ wr = u) (fun iv _ => 0)
  case atStart => exact ⟨rfl, rfl⟩
  case round =>
    obtain ⟨rfl, rfl⟩ := hrel
    go_wp2_with fail
    go_ret
    exact ⟨rfl, Below.refl _ _⟩
set_option maxHeartbeats 2000000 in
set_option maxRecDepth 100000 in
theorem all10_k (p q : MObj) (w : World) (hp : MemAt w p) (hq : MemAt w q) (hn : p.n = q.n) (he : ∀ i, i < p.n → p.β i = q.β i) :
    Calls Try.prog 24 #[.pointer (some ⟨p.p, 0, none⟩), .pointer (some ⟨q.p, 0, none⟩)] w fun e w' => e = .returned (.bool true) ∧ Below w.heap.size w w' := by
  obtain ⟨K, hK, hKn⟩ := hp.pages
  have P1 := Lib.hid (fun W (h : MemAt W p) => pages_z p W h K (by rw [hKn, Nat.mul_div_cancel_left _ (by decide)]))
  have P2 := Lib.hid (fun W (h : MemAt W q) => rpages_z q W h K (by rw [← hn, hKn, Nat.mul_div_cancel_left _ (by decide)]))
  go_enter Try.func24, Try.ntmps24
  have hlen := hq.row.le
  go_wp2_with fail
  refine (P1.out _ hp).mono ?_
  rintro e u1 ⟨rfl, e1⟩
  subst e1
  go_wp2_with fail
  refine (P2.out _ hq).mono ?_
  rintro e u1 ⟨rfl, e1⟩
  subst e1
  go_wp2_with fail
  go_loopw [5] (fun av wr => ∃ I : Nat, I ≤ q.n ∧ (∃ j, I = 4096 * j) ∧ av = .int .i64 (I : Int) ∧ Below u1.heap.size u1 wr) (fun av _ => (65536 * K - intOf av).toNat)
  case atStart => exact ⟨0, by omega, ⟨0, rfl⟩, rfl, Below.refl _ _⟩
  case round =>
    obtain ⟨I, hI, hj, rfl, hb⟩ := hrel
    have hp1 := hp.below hb
    have hq1 := hq.below hb
    by_cases hjl : I < q.n
    · obtain ⟨b, hqb, hrb⟩ := hq.row.pos (by omega)
      have m0 := hq1.c0
      rw [hqb, show headOf (some b) = some ⟨b, 0, none⟩ from rfl] at m0
      have hin : I + 4096 ≤ q.n := by obtain ⟨j, hj⟩ := hj; omega
      obtain ⟨E, hE, hE1, hE2, hE3⟩ : ∃ E : Nat, (I : Int) + 4096 = (E : Int) ∧ I + 4096 ≤ E ∧ E ≤ I + 4096 ∧ ∃ j, E = 4096 * j := ⟨I + 4096, by omega, by omega, by omega, by obtain ⟨j, hj⟩ := hj; exact ⟨j + 1, by omega⟩⟩
      have HE := Lib.hid hE3
      have hsz := hq.size
      have e9 : IntKind.i64.wrap (E : Int) = (E : Int) := IntWalk.i64_in _ (by omega)
      have h5 : (E : Int) ≤ q.n := by omega
      have h7 : (I : Int) ≤ E := by omega
      have h8 : (E : Int) ≤ q.c := by omega
      have h9 : (I : Int) < q.n := by omega
      have hK9 : (E : Int) ≤ 65536 * K := by omega
      clear hE3 hj
      go_wp2_with fail
      refine (peek_z p wr hp1 (I : Int) 4096 (by omega) (by decide) (by omega)).mono ?_
      rintro e u3 ⟨v1, rfl, k1⟩
      obtain ⟨S, hS⟩ : ∃ S, S = strB (E - I) (fun i => q.β (I + i)) := ⟨_, rfl⟩
      have c1 : ∀ W, Below u3.heap.size u3 W → (convert 48 9 v1).run Try.prog W = .ok (.string S) W := fun W hW => by
        have := conv_bytes (k1.view.below hW)
        rw [show (4096 : Int).toNat = E - I by rw [show E - I = 4096 by omega]; rfl] at this
        rw [this, hS, strB_congr (μ := fun i => q.β (I + i)) (fun i hi => by
          show p.β ((I : Int).toNat + i) = _
          rw [Int.toNat_natCast]
          exact he _ (by omega))]
      have c2 : ∀ W, Below u3.heap.size u3 W → (convert 48 9 (.slice (some ⟨b, I, none⟩) (E - I) (q.c - I))).run Try.prog W = .ok (.string S) W := fun W hW => by
        rw [hS]
        exact conv_bytes (mem_piece ((hq1.below k1.bel).below hW) b hqb I (E - I) (by omega))
      have m1 : ∀ W, Below u3.heap.size u3 W → W.cell? ⟨q.p, 0, none⟩ = some (.slice (some ⟨b, 0, none⟩) q.n q.c) := fun W hW => by
        have := ((hq1.below k1.bel).below hW).c0
        rw [hqb] at this
        exact this
      have hb4 := Below.trans hb (k1.bel.mono hb.size)
      by_cases hc : q.c = I
      · omega
      clear hS k1 hb hp1 hq1 m0 hrb
      go_wp2_with fail
      refine region_do (fun W => Below u3.heap.size u3 W) 15 (by kernel_rfl) (by kernel_rfl) (Below.refl _ _).drew ?_
      simp only [List.take_succ_cons, List.take_zero, List.drop_succ_cons, List.drop_zero]
      repeat (first | (refine do_conv rfl _ _ _ rfl _ rfl _ c1 ?_; simp only [Act.put, List.setIfInBounds_toArray, List.set_cons_zero, List.set_cons_succ]) | (refine do_conv rfl _ _ _ rfl _ rfl _ c2 ?_; simp only [Act.put, List.setIfInBounds_toArray, List.set_cons_zero, List.set_cons_succ]) | (refine do_ldc rfl _ isAgg_bytes _ rfl _ 0 rfl _ m1 ?_; simp only [Act.put, List.setIfInBounds_toArray, List.set_cons_zero, List.set_cons_succ]) | (refine wpD_skip rfl ?_; simp only [Act.put, List.setIfInBounds_toArray, List.set_cons_zero, List.set_cons_succ]) | (refine wpD_pure (v := ?_) rfl (fun u => ?_) ?_; rotate_left; (focus (go_simp; (try with_reducible rfl); done)); simp only [Act.put, List.setIfInBounds_toArray, List.set_cons_zero, List.set_cons_succ]) | (refine wpD_pureg (v := ?_) rfl (fun u => ?_) ?_; rotate_left; (focus (go_simp; (try with_reducible rfl); done)); simp only [Act.put, List.setIfInBounds_toArray, List.set_cons_zero, List.set_cons_succ]))
      refine wpD_nil (fun wr1 hr => ?_)
      replace hb4 := hb4.trans (hr.mono hb4.size)
      clear hr c1 c2 m1
      go_wp2_with fail
      exact ⟨⟨E, by omega, HE.out, rfl, hb4⟩, by simp [intOf]; omega⟩
    · have h9 : (q.n : Int) ≤ I := by omega
      have m0 := hq1.c0
      go_wp2_with fail
      go_ret
      exact ⟨rfl, hb⟩
theorem all_pair (a b : Option MObj) (w : World) (h : Pr w a b) : Calls Try.prog 24 #[ptrO a, ptrO b] w fun e w' => e = .returned (.bool true) ∧ Below w.heap.size w w' := by
  have hl := h.like
  cases a with
  | none =>
    cases b with
    | none => exact all10_nil w
    | some r => exact hl.elim
  | some m =>
    cases b with
    | none => exact hl.elim
    | some r =>
      obtain ⟨_, _, hn, hβ, _⟩ := hl
      exact all10_k m r w (h.ha.mem m rfl) (h.hb.mem r rfl) hn.symm (fun i _ => by rw [hβ])
theorem right_any (a b : Option MObj) (y : OpR) (w : World) (h : Pr w a b) (ok : y.Ok) (hd : BView w (.slice y.ad y.dm y.dc) y.dm y.ν) (hoff : 0 < y.dm → ∀ g, y.ad = some g → ¬ hasO a g.block ∧ ¬ hasO b g.block) (hnil : y.ad = none → y.dc = 0) :
    Calls Try.prog 23 #[ptrO a, ptrO b, .agg y.row] w fun e w' => e = .returned (.bool true) ∧ ∃ a1 b1, Turned w w' a b a1 b1 := by
  by_cases h1 : y.kind = 1
  · exact right_1 a b y w h ok h1
  by_cases h2 : y.kind = 2
  · exact right_2 a b y w h ok h2
  by_cases h3 : y.kind = 3
  · exact right_3 a b y w h ok h3
  by_cases h4 : y.kind = 4
  · exact right_4 a b y w h ok h4
  by_cases h5 : y.kind = 5
  · exact right_5 a b y w h ok h5 hd (fun h0 g e => (hoff h0 g e).1) (fun h0 g e => (hoff h0 g e).2) hnil
  by_cases h7 : y.kind = 7
  · exact right_7 a b y w h ok h7
  exact right_0 a b y w h ok h1 h2 h3 h4 h5 h7

end Go.Proofs.Ytlcndenbnokcjaa
