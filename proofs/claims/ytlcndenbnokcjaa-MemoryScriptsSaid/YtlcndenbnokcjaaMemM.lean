/-
  Worlds that hold memories; what the walks of chapter 10's laws share.
-/
import Derived.Test.YtlcndenbnokcjaaMemB
set_option linter.unusedSimpArgs false
set_option linter.unusedVariables false
namespace Go.Proofs.Ytlcndenbnokcjaa
open Go.RowKit Pl

/-- World u is w0 but for new blocks, in which the memories of l lie apart from each other. -/
structure MS (w0 : World) (l : List MObj) (u : World) : Prop where
  bel : Below w0.heap.size w0 u
  mem : ∀ o ∈ l, MemAt u o
  new : ∀ o ∈ l, ∀ k, o.has k → w0.heap.size ≤ k
  nd : ∀ (i j : Nat) (a b : MObj), l[i]? = some a → l[j]? = some b → i ≠ j → ∀ k, a.has k → ¬ b.has k
theorem MS.start (w : World) : MS w [] w := ⟨Below.refl _ _, fun _ h => (by cases h), fun _ h => (by cases h), fun i j a b h => (by simp at h)⟩
theorem MemAt.has_lt {w : World} {o : MObj} (h : MemAt w o) {k : Nat} (hk : o.has k) : k < w.heap.size := by
  rcases hk with rfl | hk
  · exact block_lt h.obj
  · have := h.row
    rw [hk] at this
    exact BytesAt.block this
theorem MS.below {w0 u u1 : World} {l : List MObj} (h : MS w0 l u) (hb : Below u.heap.size u u1) : MS w0 l u1 :=
  ⟨Below.trans h.bel (hb.mono h.bel.size), fun o ho => (h.mem o ho).below hb, h.new, h.nd⟩
theorem MS.fresh {w0 u u1 : World} {l : List MObj} (h : MS w0 l u) {o : MObj} {T : TypeId} {n : Nat} {β : Nat → Nat} {most : Int} (f : Fresh u u1 o T n β most) : MS w0 (o :: l) u1 := by
  have hb := h.below f.bel
  refine ⟨hb.bel, fun p hp => ?_, fun p hp => ?_, fun i j a b ha hb1 hij k hk1 hk2 => ?_⟩
  · rcases List.mem_cons.1 hp with rfl | hp
    · exact f.mem
    · exact hb.mem p hp
  · rcases List.mem_cons.1 hp with rfl | hp
    · exact fun k hk => Nat.le_trans h.bel.size (f.new k hk)
    · exact h.new p hp
  · cases i with
    | zero =>
      cases j with
      | zero => exact hij rfl
      | succ j =>
        simp at ha hb1
        subst ha
        have h1 := f.new k hk1
        have h2 := (h.mem b (List.mem_of_getElem? hb1)).has_lt hk2
        omega
    | succ i =>
      cases j with
      | zero =>
        simp at ha hb1
        subst hb1
        have h1 := f.new k hk2
        have h2 := (h.mem a (List.mem_of_getElem? ha)).has_lt hk1
        omega
      | succ j =>
        simp at ha hb1
        exact h.nd i j a b ha hb1 (by omega) k hk1 hk2
theorem MS.upd {w0 u u1 : World} {l : List MObj} (h : MS w0 l u) (i : Nat) {o o1 : MObj} (hi : l[i]? = some o) {S : Nat → Prop} (hk : Keep S u u1) (hS : ∀ k, S k → o.has k) (hm : MemAt u1 o1) (hn : ∀ k, o1.has k → o.has k ∨ u.heap.size ≤ k) : MS w0 (l.set i o1) u1 := by
  have ho := List.mem_of_getElem? hi
  have hil : i < l.length := by
    rcases Nat.lt_or_ge i l.length with h1 | h1
    · exact h1
    · rw [List.getElem?_eq_none h1] at hi; cases hi
  have key : ∀ j a, (l.set i o1)[j]? = some a → (j = i ∧ a = o1) ∨ (j ≠ i ∧ l[j]? = some a) := by
    intro j a hj
    rw [List.getElem?_set] at hj
    by_cases e : i = j
    · subst e
      rw [if_pos rfl, if_pos hil] at hj
      exact .inl ⟨rfl, (Option.some.inj hj).symm⟩
    · rw [if_neg e] at hj
      exact .inr ⟨fun e1 => e e1.symm, hj⟩
  have hS0 : ∀ k, S k → w0.heap.size ≤ k := fun k hk => h.new o ho k (hS k hk)
  refine ⟨Keep.below h.bel hk h.bel.size hS0, fun a ha => ?_, fun a ha k hk1 => ?_, fun j1 j2 a b ha hb hij k hk1 hk2 => ?_⟩
  · obtain ⟨j, hj⟩ := List.mem_iff_getElem?.1 ha
    rcases key j a hj with ⟨_, rfl⟩ | ⟨hne, hj2⟩
    · exact hm
    · exact (h.mem a (List.mem_of_getElem? hj2)).keep hk (fun k hk1 hk2 => h.nd j i a o hj2 hi hne k hk1 (hS k hk2))
  · obtain ⟨j, hj⟩ := List.mem_iff_getElem?.1 ha
    rcases key j a hj with ⟨_, rfl⟩ | ⟨hne, hj2⟩
    · rcases hn k hk1 with h1 | h1
      · exact h.new o ho k h1
      · exact Nat.le_trans h.bel.size h1
    · exact h.new a (List.mem_of_getElem? hj2) k hk1
  · rcases key j1 a ha with ⟨rfl, rfl⟩ | ⟨hne1, h1⟩
    · rcases key j2 b hb with ⟨rfl, _⟩ | ⟨hne2, h2⟩
      · exact hij rfl
      · rcases hn k hk1 with h3 | h3
        · exact h.nd _ _ o b hi h2 (fun e => hne2 e.symm) k h3 hk2
        · have := (h.mem b (List.mem_of_getElem? h2)).has_lt hk2
          omega
    · rcases key j2 b hb with ⟨rfl, rfl⟩ | ⟨hne2, h2⟩
      · rcases hn k hk2 with h3 | h3
        · exact h.nd _ _ a o h1 hi hne1 k hk1 h3
        · have := (h.mem a (List.mem_of_getElem? h1)).has_lt hk1
          omega
      · exact h.nd _ _ a b h1 h2 hij k hk1 hk2
theorem MS.get {w0 u : World} {l : List MObj} (h : MS w0 l u) (i : Nat) {o : MObj} (hi : l[i]? = some o) : MemAt u o := h.mem o (List.mem_of_getElem? hi)
theorem MS.stored {w0 u u1 : World} {l : List MObj} (h : MS w0 l u) (i : Nat) {o : MObj} (hi : l[i]? = some o) {γ : Nat → Nat} (hk : Keep (fun k => o.q = some k) u u1) (hm : MemAt u1 (withβ o γ)) : MS w0 (l.set i (withβ o γ)) u1 :=
  h.upd i hi hk (fun k hk => .inr hk) hm (fun k hk => .inl hk)
theorem MS.grown {w0 u u1 : World} {l : List MObj} (h : MS w0 l u) (i : Nat) {o : MObj} (hi : l[i]? = some o) {q1 : Option Nat} {c1 x : Nat} (hm : MemAt u1 (grownO o q1 c1 x)) (hk : Keep o.has u u1) (hn : q1 = o.q ∨ ∃ b, q1 = some b ∧ u.heap.size ≤ b) : MS w0 (l.set i (grownO o q1 c1 x)) u1 :=
  h.upd i hi hk (fun k hk => hk) hm (fun k hk => by
    rcases hk with rfl | hk
    · exact .inl (.inl rfl)
    · rcases hn with e | ⟨b, e, hb⟩
      · exact .inl (.inr (e ▸ hk))
      · right
        have : some b = some k := by rw [← e]; exact hk
        cases this
        exact hb)

/-- Contracts whose numbers are given as integers. -/
theorem load_z (o : MObj) (w : World) (h : MemAt w o) (a m : Int) (E : Int) (X : Nat) (ha : 0 ≤ a ∧ a < 18446744073709551616) (hm : -9223372036854775808 ≤ m ∧ m ≤ 9223372036854775807) (hE : mayE o.n a.toNat m = E) (hX : E = 0 → loadN o.β a.toNat m.toNat = X) (hX0 : E ≠ 0 → X = 0) :
    Calls Try.prog 19 #[.pointer (some ⟨o.p, 0, none⟩), .int .u64 a, .int .i64 m] w fun e w' => e = .returned (.tuple #[.int .u64 (X : Nat), .int .i64 E]) ∧ w' = w := by
  obtain ⟨k, rfl⟩ := Int.eq_ofNat_of_zero_le ha.1
  have := load_k o w h k m (by omega) hm
  rw [Int.toNat_natCast] at hE hX
  rw [hE] at this
  have e : loadX o k m = X := by
    unfold loadX
    rw [hE]
    by_cases e0 : E = 0
    · rw [if_pos e0]; exact hX e0
    · rw [if_neg e0]; exact (hX0 e0).symm
  rw [e] at this
  exact this
theorem store_z (o : MObj) (w : World) (h : MemAt w o) (a m x : Int) (E : Int) (γ : Nat → Nat) (ha : 0 ≤ a ∧ a < 18446744073709551616) (hm : -9223372036854775808 ≤ m ∧ m ≤ 9223372036854775807) (hx : 0 ≤ x) (hE : mayE o.n a.toNat m = E) (hγ : storeB o a.toNat m x.toNat = γ) :
    Calls Try.prog 17 #[.pointer (some ⟨o.p, 0, none⟩), .int .u64 a, .int .i64 m, .int .u64 x] w fun e w' => e = .returned (.int .i64 E) ∧ MemAt w' (withβ o γ) ∧ Keep (fun k => o.q = some k) w w' := by
  obtain ⟨k, rfl⟩ := Int.eq_ofNat_of_zero_le ha.1
  obtain ⟨y, rfl⟩ := Int.eq_ofNat_of_zero_le hx
  rw [← hE, ← hγ]
  exact store_k o w h k m y (by omega) hm
theorem pages_z (o : MObj) (w : World) (h : MemAt w o) (k : Int) (hk : ((o.n / 65536 : Nat) : Int) = k) :
    Calls Try.prog 15 #[.pointer (some ⟨o.p, 0, none⟩)] w fun e w' => e = .returned (.int .i64 k) ∧ w' = w := by
  rw [← hk]
  exact pages_k o w h
set_option maxHeartbeats 1000000 in
set_option maxRecDepth 100000 in
theorem awake10 (w : World) : Calls Try.prog 12 #[] w fun e w' => e = .returned (.bool true) ∧ Below w.heap.size w w' := by
  have hN : Calls Try.prog 13 #[.int .i64 1, .int .i64 2] w fun e w' => ∃ o, e = .returned (.tuple #[.pointer (some ⟨o.p, 0, none⟩), .int .i64 0]) ∧ Fresh w w' o 86 65536 (fun _ => 0) 2 := new_ok 1 2 w (by decide) (by decide)
  have HN := Lib.hid hN
  clear hN
  go_enter Try.func12, Try.ntmps12
  go_wp2_with (go_at_call 13; (with_reducible refine HN.out.mono ?_); rintro e u ⟨o, rfl, hf⟩)
  have hs := (MS.start w).fresh hf
  have hn := hf.hn
  have hγ : storeB o (0 : Int).toNat 2 (70000 : Int).toNat = storeN o.β 0 70000 2 := by
    unfold storeB
    rw [show mayE o.n (0 : Int).toNat 2 = 0 by rw [hn]; rfl, if_pos rfl]
    rfl
  have hm0 := hf.hmost
  refine (store_z o u (hs.get 0 rfl) 0 2 70000 0 _ (by decide) (by decide) (by decide) (by rw [hn]; rfl) hγ).mono ?_
  rintro e u ⟨rfl, hm, hk⟩
  replace hs : MS w [withβ o (storeN o.β 0 70000 2)] u := hs.stored 0 rfl hk hm
  have hX : loadN (withβ o (storeN o.β 0 70000 2)).β (0 : Int).toNat (4 : Int).toNat = 4464 := by
    have h2 := hf.hβ 2 (by decide)
    have h3 := hf.hβ 3 (by decide)
    show loadN (storeN o.β 0 70000 2) 0 4 = 4464
    simp [loadN, storeN, upd, h2, h3]
  obtain ⟨p, hp⟩ : ∃ p, p = withβ o (storeN o.β 0 70000 2) := ⟨_, rfl⟩
  have hpn : p.n = 65536 := by rw [hp]; exact hn
  have hpm : p.most = 2 := by rw [hp]; exact hm0
  rw [show o.p = p.p by rw [hp]; rfl]
  rw [← hp] at hs hX
  clear hm hk hf hγ hm0 hp
  go_wp2_with fail
  refine (load_z p u (hs.get 0 rfl) 0 4 0 4464 (by decide) (by decide) (by rw [hpn]; rfl) (fun _ => hX) (fun h => absurd rfl h)).mono ?_
  rintro e u1 ⟨rfl, rfl⟩
  go_wp2_with fail
  refine (load_z p _ (hs.get 0 rfl) 65533 4 23 0 (by decide) (by decide) (by rw [hpn]; rfl) (fun h => absurd h (by decide)) (fun _ => rfl)).mono ?_
  rintro e u1 ⟨rfl, rfl⟩
  go_wp2_with fail
  refine (pages_z p _ (hs.get 0 rfl) 1 (by rw [hpn]; rfl)).mono ?_
  rintro e u1 ⟨rfl, rfl⟩
  go_wp2_with fail
  have hG : Calls Try.prog 18 #[.pointer (some ⟨p.p, 0, none⟩), .int .u32 1] u1 fun e w' => e = .returned (.int .u32 1) ∧ ∃ q1 c1, MemAt w' (grownO p q1 c1 1) ∧ Keep p.has u1 w' ∧ (q1 = p.q ∨ ∃ b, q1 = some b ∧ u1.heap.size ≤ b) := by
    have := grow_ok p u1 (hs.get 0 rfl) 1 (by decide) (by rw [hpn, hpm]; decide)
    rw [hpn] at this
    exact this
  refine hG.mono ?_
  rintro e u2 ⟨rfl, q1, c1, hm, hk, hq⟩
  replace hs : MS w [grownO p q1 c1 1] u2 := hs.grown 0 rfl hm hk hq
  go_wp2_with fail
  have hG2 : Calls Try.prog 18 #[.pointer (some ⟨p.p, 0, none⟩), .int .u32 1] u2 fun e w' => e = .returned (.int .u32 4294967295) ∧ w' = u2 :=
    grow_no _ u2 (hs.get 0 rfl) 1 (by decide) (by show ¬ ((1 : Nat) : Int) + ((p.n + 65536 * 1) / 65536 : Nat) ≤ ceilOf p.most; rw [hpn, hpm]; decide)
  refine hG2.mono ?_
  rintro e u3 ⟨rfl, rfl⟩
  go_wp2_with fail
  go_ret
  exact ⟨rfl, hs.bel⟩

end Go.Proofs.Ytlcndenbnokcjaa
