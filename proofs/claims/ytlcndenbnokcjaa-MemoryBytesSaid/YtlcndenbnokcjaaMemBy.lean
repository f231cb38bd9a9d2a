/-
  The walk of plaitlaw10.MemoryBytes.
-/
import Derived.Test.YtlcndenbnokcjaaMemE
import Derived.Test.YtlcndenbnokcjaaDoG
set_option linter.unusedSimpArgs false
set_option linter.unusedVariables false
namespace Go.Proofs.Ytlcndenbnokcjaa
open Go.RowKit Pl

theorem do_convert {ops : Array Oper} {S : World → Prop} {L : Act → Prop} {o : Oper} {rest : List Oper} {a : Act} (hg : Region.wanted o (yielded ops a.tmps) = true) (x : Operand) (s d : TypeId) (ho : o.op = .convert s d x)
    (v : Value) (hx : a.eval x = v) (v1 : Value) (h : ∀ w, S w → (convert s d v).run Try.prog w = .ok v1 w) (hr : wpD Try.prog ops S L rest (a.put o.dst v1)) : wpD Try.prog ops S L (o :: rest) a :=
  wpD_hereg hg (fun w hS => by simp [execOp, ho, hx, h w hS, Result.andThen]) hr
theorem BView.sub {w : World} {b off m : Nat} {ν : Nat → Nat} (h : ∀ j, j < m → w.cell? ⟨b, off + j, none⟩ = some (.int .u8 (ν j : Nat))) (hl : ∀ j, j < m → ν j < 256) (I k n : Nat) (hn : I + n ≤ m) : BView w (.slice (some ⟨b, off + I, none⟩) n k) n (fun j => ν (I + j)) :=
  ⟨⟨_, _, rfl, .inr ⟨b, off + I, rfl, fun j hj => by rw [Nat.add_assoc]; exact h _ (by omega)⟩⟩, fun j hj => hl _ (by omega)⟩
theorem putB_zero (β ν μ : Nat → Nat) (a m : Nat) (h : ∀ i, i < 65536 → β i = 0) (hν : ∀ j, j < m → μ j = 0) : ∀ i, i < 65536 → putB (putB β a m ν) a m μ i = 0 := by
  intro i hi
  unfold putB
  by_cases c : a ≤ i ∧ i < a + m
  · rw [if_pos c]; exact hν _ (by omega)
  · rw [if_neg c, if_neg c]; exact h i hi
theorem pokeB_far {o : MObj} {a m : Nat} {ν : Nat → Nat} (h : ¬ a + m ≤ o.n) : withβ o (pokeB o a m ν) = o := by unfold pokeB; rw [if_neg h]; rfl
theorem pokeB_in {o : MObj} {a m : Nat} {ν : Nat → Nat} (h : a + m ≤ o.n) : pokeB o a m ν = putB o.β a m ν := if_pos h
theorem putB_get (β ν : Nat → Nat) (a m j : Nat) (h : j < m) : putB β a m ν (a + j) = ν j := by unfold putB; rw [if_pos (by omega), Nat.add_sub_cancel_left]

set_option maxRecDepth 100000 in
set_option maxHeartbeats 1000000 in
theorem bytes_far (a m c : Nat) (ad : Option Addr) (ν : Nat → Nat) (w : World) (hv : BView w (.slice ad m c) m ν) (hmc : m ≤ c) (ha : a < 18446744073709551616) (hm : c ≤ 9223372036854775807) (hin : ¬ a + m ≤ 65536) :
    Calls Try.prog 7 #[.int .u64 (a : Nat), .slice ad m c] w fun e w' => e = .returned (.bool true) ∧ Below w.heap.size w w' := by
  have hx : m = 0 ∨ ∃ b off, ad = some ⟨b, off, none⟩ ∧ ∀ j, j < m → w.cell? ⟨b, off + j, none⟩ = some (.int .u8 (ν j : Nat)) := by
    obtain ⟨ad1, c1, e, hx⟩ := hv.ex
    cases e
    exact hx
  have N1 := Lib.hid (fun W => new_ok 1 (-1) W (by decide) (.inl rfl))
  go_enter Try.func7, Try.ntmps7
  go_wp2_with (go_at_call 12; (with_reducible refine (awake10 _).mono ?_); rintro e u0 ⟨rfl, hb0⟩)
  have hs := (MS.start w).below hb0
  clear hb0
  refine (N1.out _).mono ?_
  rintro e u1 ⟨o, rfl, hf⟩
  have on := hf.hn
  have oT := hf.hT
  have oβ := hf.hβ
  replace hs := hs.fresh hf
  clear hf N1
  go_wp2_with fail
  refine (clone_k o u1 (hs.get 0 rfl) oT).mono ?_
  rintro e u2 ⟨c2, rfl, hf⟩
  have cn := hf.hn
  have cβ := hf.hβ
  rw [on] at cn cβ
  replace hs := hs.fresh hf
  clear hf oT
  go_wp2_with fail
  refine (poke_k o u2 (hs.get 1 rfl) a m _ ν (hv.below hs.bel) ha (by omega)).mono ?_
  rintro e u3 ⟨rfl, hm3, hk3⟩
  replace hs := hs.stored 1 rfl hk3 hm3
  have hin1 : ¬ a + m ≤ o.n := by rw [on]; exact hin
  rw [pokeB_far hin1] at hs
  rw [show pokeE o.n a m = 23 from if_neg hin1]
  have hsm := same_k o c2 u3 (hs.get 1 rfl) (hs.get 0 rfl) (by rw [on, cn]) (fun i hi => by rw [cβ i (by omega)])
  have hbel := hs.bel
  clear hm3 hk3 hv hs on cn oβ cβ hin1
  by_cases h1 : 65536 < m
  · go_wp2_with (go_at_call 21; (with_reducible refine hsm.mono ?_); rintro e u4 ⟨rfl, hb4⟩)
    go_ret
    exact ⟨rfl, hbel.trans (hb4.mono hbel.size)⟩
  · have h2 : ¬ (a : Int) ≤ 65536 - (m : Int) := by omega
    go_wp2_with (go_at_call 21; (with_reducible refine hsm.mono ?_); rintro e u4 ⟨rfl, hb4⟩)
    go_ret
    exact ⟨rfl, hbel.trans (hb4.mono hbel.size)⟩

set_option maxRecDepth 100000 in
set_option maxHeartbeats 1000000 in
theorem bytes_in (a m c : Nat) (ad : Option Addr) (ν : Nat → Nat) (w : World) (hv : BView w (.slice ad m c) m ν) (hmc : m ≤ c) (ha : a < 18446744073709551616) (hm : c ≤ 9223372036854775807) (hin : a + m ≤ 65536) :
    Calls Try.prog 7 #[.int .u64 (a : Nat), .slice ad m c] w fun e w' => e = .returned (.bool true) ∧ Below w.heap.size w w' := by
  have hx : m = 0 ∨ ∃ b off, ad = some ⟨b, off, none⟩ ∧ ∀ j, j < m → w.cell? ⟨b, off + j, none⟩ = some (.int .u8 (ν j : Nat)) := by
    obtain ⟨ad1, c1, e, hx⟩ := hv.ex
    cases e
    exact hx
  have N1 := Lib.hid (fun W => new_ok 1 (-1) W (by decide) (.inl rfl))
  go_enter Try.func7, Try.ntmps7
  go_wp2_with (go_at_call 12; (with_reducible refine (awake10 _).mono ?_); rintro e u0 ⟨rfl, hb0⟩)
  have hs := (MS.start w).below hb0
  clear hb0
  refine (N1.out _).mono ?_
  rintro e u1 ⟨o, rfl, hf⟩
  have on := hf.hn
  have oT := hf.hT
  have oβ := hf.hβ
  replace hs := hs.fresh hf
  clear hf N1
  go_wp2_with fail
  refine (clone_k o u1 (hs.get 0 rfl) oT).mono ?_
  rintro e u2 ⟨c2, rfl, hf⟩
  have cn := hf.hn
  have cβ := hf.hβ
  rw [on] at cn cβ
  replace hs := hs.fresh hf
  clear hf oT
  go_wp2_with fail
  refine (poke_k o u2 (hs.get 1 rfl) a m _ ν (hv.below hs.bel) ha (by omega)).mono ?_
  rintro e u3 ⟨rfl, hm3, hk3⟩
  replace hs := hs.stored 1 rfl hk3 hm3
  have hin1 : a + m ≤ o.n := by rw [on]; exact hin
  rw [pokeB_in hin1] at hs hm3
  rw [show pokeE o.n a m = 0 from if_pos hin1]
  clear hm3 hk3
  have D1 : ((a : Int) ≤ 65536 - (m : Int)) := by omega
  obtain ⟨p, hp⟩ : ∃ p, p = withβ o (putB o.β a m ν) := ⟨_, rfl⟩
  have pp : o.p = p.p := by rw [hp]; rfl
  have pn : p.n = 65536 := by rw [hp]; exact on
  have pβ : ∀ j, j < m → p.β (a + j) = ν j := fun j hj => by rw [hp]; exact putB_get _ _ _ _ _ hj
  have pz : ∀ i, i < 65536 → putB p.β a m (fun _ => 0) i = 0 := by rw [hp]; exact putB_zero _ _ _ _ _ oβ (fun _ _ => rfl)
  rw [← hp] at hs
  rw [pp]
  clear hp pp on
  go_wp2_with fail
  go_loopw [9] (fun iv wr => ∃ I : Nat, I < m + 4096 ∧ iv = .int .i64 (I : Nat) ∧ MS w [c2, p] wr) (fun iv _ => (m - intOf iv).toNat)
  case atStart => exact ⟨0, by omega, rfl, hs⟩
  case round =>
    clear hs
    obtain ⟨I, hI, rfl, hs⟩ := hrel
    by_cases hlt : I < m
    · obtain ⟨b, off, rfl, hc⟩ := hx.resolve_left (by omega)
      have hne : ¬ c = I := by omega
      obtain ⟨E, hE, hE1, hE2⟩ : ∃ E : Nat, (I : Int) + 4096 = (E : Int) ∧ I + 4096 ≤ E ∧ E ≤ I + 4096 := ⟨I + 4096, by omega, by omega, by omega⟩
      by_cases h4 : E ≤ m
      · have h5 : (E : Int) ≤ m := by omega
        have h7 : (I : Int) ≤ E := by omega
        have h8 : (E : Int) ≤ c := by omega
        have c2 : ∀ W, Below wr.heap.size wr W → (convert 48 9 (.slice (some ⟨b, off + I, none⟩) (E - I) (c - I))).run Try.prog W = .ok (.string (strB (E - I) (fun j => ν (I + j)))) W := fun W hW => conv_bytes (((BView.sub hc hv.lt I (c - I) (E - I) (by omega)).below hs.bel).below hW)
        go_wp2_with fail
        refine (peek_z p wr (hs.get 1 rfl) ((a : Int) + (I : Int)) ((E : Int) - (I : Int)) (by omega) (by omega) (by rw [pn]; omega)).mono ?_
        rintro e u4 ⟨v1, rfl, k1⟩
        have c1 : ∀ W, Below u4.heap.size u4 W → (convert 48 9 v1).run Try.prog W = .ok (.string (strB (E - I) (fun j => ν (I + j)))) W := fun W hW => by
          have := conv_bytes (k1.view.below hW)
          rw [show (((E : Nat) : Int) - (I : Int)).toNat = E - I by omega] at this
          rw [this, strB_congr (μ := fun j => ν (I + j)) (fun j hj => by
            show p.β (((a : Int) + (I : Int)).toNat + j) = _
            rw [show ((a : Int) + (I : Int)).toNat + j = a + (I + j) by omega]
            exact pβ _ (by omega))]
        have kb := k1.bel
        replace hs := hs.below kb
        clear k1
        generalize strB (E - I) (fun j => ν (I + j)) = S at *
        go_wp2_with fail
        refine region_do (fun W => Below u4.heap.size u4 W) 11 (by kernel_rfl) (by kernel_rfl) (Below.refl _ _).drew ?_
        simp only [List.take_succ_cons, List.take_zero, List.drop_succ_cons, List.drop_zero]
        repeat (first | (refine do_convert rfl _ _ _ rfl _ rfl _ c1 ?_; simp only [Act.put, List.setIfInBounds_toArray, List.set_cons_zero, List.set_cons_succ]) | (refine do_convert rfl _ _ _ rfl _ rfl _ (fun W hW => c2 W (kb.trans (hW.mono kb.size))) ?_; simp only [Act.put, List.setIfInBounds_toArray, List.set_cons_zero, List.set_cons_succ]) | (refine wpD_skip rfl ?_; simp only [Act.put, List.setIfInBounds_toArray, List.set_cons_zero, List.set_cons_succ]) | (refine wpD_pure (v := ?_) rfl (fun u => ?_) ?_; rotate_left; (focus (go_simp; (try with_reducible rfl); done)); simp only [Act.put, List.setIfInBounds_toArray, List.set_cons_zero, List.set_cons_succ]) | (refine wpD_pureg (v := ?_) rfl (fun u => ?_) ?_; rotate_left; (focus (go_simp; (try with_reducible rfl); done)); simp only [Act.put, List.setIfInBounds_toArray, List.set_cons_zero, List.set_cons_succ]))
        refine wpD_nil (fun wr1 hr => ?_)
        replace hs := hs.below hr
        clear hr kb c1 c2
        go_wp2_with fail
        exact ⟨⟨E, by omega, rfl, hs⟩, by simp [intOf]; omega⟩
      · have h6 : (m : Int) < E := by omega
        have h7 : (I : Int) ≤ m := by omega
        have h8 : (m : Int) ≤ c := by omega
        have c2 : ∀ W, Below wr.heap.size wr W → (convert 48 9 (.slice (some ⟨b, off + I, none⟩) (m - I) (c - I))).run Try.prog W = .ok (.string (strB (m - I) (fun j => ν (I + j)))) W := fun W hW => conv_bytes (((BView.sub hc hv.lt I (c - I) (m - I) (by omega)).below hs.bel).below hW)
        go_wp2_with fail
        refine (peek_z p wr (hs.get 1 rfl) ((a : Int) + (I : Int)) ((m : Int) - (I : Int)) (by omega) (by omega) (by rw [pn]; omega)).mono ?_
        rintro e u4 ⟨v1, rfl, k1⟩
        have c1 : ∀ W, Below u4.heap.size u4 W → (convert 48 9 v1).run Try.prog W = .ok (.string (strB (m - I) (fun j => ν (I + j)))) W := fun W hW => by
          have := conv_bytes (k1.view.below hW)
          rw [show (((m : Nat) : Int) - (I : Int)).toNat = m - I by omega] at this
          rw [this, strB_congr (μ := fun j => ν (I + j)) (fun j hj => by
            show p.β (((a : Int) + (I : Int)).toNat + j) = _
            rw [show ((a : Int) + (I : Int)).toNat + j = a + (I + j) by omega]
            exact pβ _ (by omega))]
        have kb := k1.bel
        replace hs := hs.below kb
        clear k1
        generalize strB (m - I) (fun j => ν (I + j)) = S at *
        go_wp2_with fail
        refine region_do (fun W => Below u4.heap.size u4 W) 11 (by kernel_rfl) (by kernel_rfl) (Below.refl _ _).drew ?_
        simp only [List.take_succ_cons, List.take_zero, List.drop_succ_cons, List.drop_zero]
        repeat (first | (refine do_convert rfl _ _ _ rfl _ rfl _ c1 ?_; simp only [Act.put, List.setIfInBounds_toArray, List.set_cons_zero, List.set_cons_succ]) | (refine do_convert rfl _ _ _ rfl _ rfl _ (fun W hW => c2 W (kb.trans (hW.mono kb.size))) ?_; simp only [Act.put, List.setIfInBounds_toArray, List.set_cons_zero, List.set_cons_succ]) | (refine wpD_skip rfl ?_; simp only [Act.put, List.setIfInBounds_toArray, List.set_cons_zero, List.set_cons_succ]) | (refine wpD_pure (v := ?_) rfl (fun u => ?_) ?_; rotate_left; (focus (go_simp; (try with_reducible rfl); done)); simp only [Act.put, List.setIfInBounds_toArray, List.set_cons_zero, List.set_cons_succ]) | (refine wpD_pureg (v := ?_) rfl (fun u => ?_) ?_; rotate_left; (focus (go_simp; (try with_reducible rfl); done)); simp only [Act.put, List.setIfInBounds_toArray, List.set_cons_zero, List.set_cons_succ]))
        refine wpD_nil (fun wr1 hr => ?_)
        replace hs := hs.below hr
        clear hr kb c1 c2
        go_wp2_with fail
        exact ⟨⟨E, by omega, rfl, hs⟩, by simp [intOf]; omega⟩
    · have hmk := make_bytes wr m (by omega)
      have hz0 := row_new wr m
      have hbz := (Below.refl wr.heap.size wr).alloc (Nat.le_refl _) (.cells (zerosN m) 5)
      have hlt1 : ¬ (I : Int) < m := by omega
      go_wp2_with fail
      replace hs := hs.below hbz
      clear hmk hbz
      refine (poke_k p _ (hs.get 1 rfl) a m _ (fun _ => 0) (BView.row (q := some wr.heap.size) hz0) ha (by omega)).mono ?_
      rintro e u5 ⟨rfl, hm5, hk5⟩
      replace hs := hs.stored 1 rfl hk5 hm5
      rw [show pokeE p.n a m = 0 from if_pos (by rw [pn]; exact hin)]
      have hsm := same_k (withβ p (pokeB p a m (fun _ => 0))) c2 u5 (hs.get 1 rfl) (hs.get 0 rfl) (by show p.n = _; rw [pn, cn]) (fun i hi => by
        have hi1 : i < 65536 := by rw [← pn]; exact hi
        show pokeB p a m (fun _ => 0) i = _
        rw [pokeB_in (by rw [pn]; exact hin), pz i hi1, cβ i (by omega), oβ i (by omega)])
      have hbel := hs.bel
      replace hsm : Calls Try.prog 21 #[.pointer (some ⟨p.p, 0, none⟩), .pointer (some ⟨c2.p, 0, none⟩)] u5 fun e w' => e = .returned (.bool true) ∧ Below u5.heap.size u5 w' := hsm
      clear hs hm5 hk5 hz0
      go_wp2_with (go_at_call 21; (with_reducible refine hsm.mono ?_); rintro e u6 ⟨rfl, hb6⟩)
      go_ret
      exact ⟨rfl, hbel.trans (hb6.mono hbel.size)⟩

end Go.Proofs.Ytlcndenbnokcjaa
