/-
  Scripts of plaitlaw10: three pairs of slots; new memories and clones in pairs; the script's ops in their slice.
-/
import Derived.Test.YtlcndenbnokcjaaScB
set_option linter.unusedSimpArgs false
set_option linter.unusedVariables false
namespace Go.Proofs.Ytlcndenbnokcjaa
open Go.RowKit Pl

def updM (M : Nat → Option MObj) (i : Nat) (x : Option MObj) : Nat → Option MObj := fun j => if j = i then x else M j
theorem updM_same (M : Nat → Option MObj) (i : Nat) (x : Option MObj) : updM M i x i = x := if_pos rfl
theorem updM_other (M : Nat → Option MObj) (i j : Nat) (x : Option MObj) (h : j ≠ i) : updM M i x j = M j := if_neg h
def row3 (M : Nat → Option MObj) : Array Value := #[ptrO (M 0), ptrO (M 1), ptrO (M 2)]
theorem row3_get (M : Nat → Option MObj) {k : Nat} (hk : k < 3) : (row3 M)[k]? = some (ptrO (M k)) := by
  rcases k with _ | _ | _ | k
  · rfl
  · rfl
  · rfl
  · omega
theorem row3_set (M : Nat → Option MObj) {k : Nat} (hk : k < 3) (x : Option MObj) : (row3 M).setIfInBounds k (ptrO x) = row3 (updM M k x) := by
  rcases k with _ | _ | _ | k
  · rfl
  · rfl
  · rfl
  · omega
theorem row3_same {M N : Nat → Option MObj} (h : ∀ k, k < 3 → ptrO (M k) = ptrO (N k)) : row3 M = row3 N := by
  unfold row3
  rw [h 0 (by decide), h 1 (by decide), h 2 (by decide)]
/-- Three pairs of slots, whose memories are all new behind w0. -/
structure SL (w0 : World) (H V : Nat) (A B : Nat → Option MObj) (u : World) : Prop where
  bel : Below w0.heap.size w0 u
  hv : u.heap[H]? = some (.cells (row3 A) 46 (0, 0))
  wt : u.heap[V]? = some (.cells (row3 B) 47 (0, 0))
  nH : w0.heap.size ≤ H
  nV : w0.heap.size ≤ V
  HV : H ≠ V
  pr : ∀ k, k < 3 → Pr u (A k) (B k)
  new : ∀ k j, k < 3 → hasO (A k) j ∨ hasO (B k) j → w0.heap.size ≤ j ∧ j ≠ H ∧ j ≠ V
  nd : ∀ i j, i < 3 → j < 3 → i ≠ j → ∀ k, hasO (A i) k ∨ hasO (B i) k → ¬ (hasO (A j) k ∨ hasO (B j) k)
theorem Pr.lt {u : World} {a b : Option MObj} (h : Pr u a b) {k : Nat} (hk : hasO a k ∨ hasO b k) : k < u.heap.size := hk.elim h.ha.lt h.hb.lt
theorem Pr.keep {u u1 : World} {a b : Option MObj} (h : Pr u a b) {S : Nat → Prop} (hk : Keep S u u1) (hS : ∀ k, S k → ¬ (hasO a k ∨ hasO b k)) : Pr u1 a b :=
  ⟨h.ha.keep hk (fun k hs e => hS k hs (.inl e)), h.hb.keep hk (fun k hs e => hS k hs (.inr e)), h.like, h.apart⟩
theorem SL.below {w0 u u1 : World} {H V : Nat} {A B : Nat → Option MObj} (h : SL w0 H V A B u) (hb : Below u.heap.size u u1) : SL w0 H V A B u1 :=
  ⟨Below.trans h.bel (hb.mono h.bel.size), blk_keep h.hv hb, blk_keep h.wt hb, h.nH, h.nV, h.HV, fun k hk => (h.pr k hk).below hb, h.new, h.nd⟩
theorem SL.cellA {w0 u : World} {H V : Nat} {A B : Nat → Option MObj} (h : SL w0 H V A B u) {k : Nat} (hk : k < 3) : u.cell? ⟨H, k, none⟩ = some (ptrO (A k)) := by rw [cell_of_row u H k _ _ _ h.hv]; exact row3_get A hk
theorem SL.cellB {w0 u : World} {H V : Nat} {A B : Nat → Option MObj} (h : SL w0 H V A B u) {k : Nat} (hk : k < 3) : u.cell? ⟨V, k, none⟩ = some (ptrO (B k)) := by rw [cell_of_row u V k _ _ _ h.wt]; exact row3_get B hk
/-- Slot k's pair has turned, what else has changed being no one's. -/
theorem SL.turn {w0 u u1 : World} {H V : Nat} {A B : Nat → Option MObj} (h : SL w0 H V A B u) (k : Nat) (hk3 : k < 3) {a1 b1 : Option MObj} (t : Turned u u1 (A k) (B k) a1 b1) : SL w0 H V (updM A k a1) (updM B k b1) u1 := by
  have hH := block_lt h.hv
  have hV := block_lt h.wt
  have hS : ∀ j, (hasO (A k) j ∨ hasO (B k) j) → w0.heap.size ≤ j ∧ j ≠ H ∧ j ≠ V := fun j hj => h.new k j hk3 hj
  have hn : ∀ j, hasO a1 j ∨ hasO b1 j → (hasO (A k) j ∨ hasO (B k) j) ∨ u.heap.size ≤ j := fun j hj => by
    rcases hj with hj | hj
    · exact (t.newa j hj).imp .inl id
    · exact (t.newb j hj).imp .inr id
  refine ⟨Keep.below h.bel t.keep h.bel.size (fun j hs => (hS j hs).1), ?_, ?_, h.nH, h.nV, h.HV, fun i hi => ?_, fun i j hi hj => ?_, fun i j hi hj hij l hl hl2 => ?_⟩
  · rw [t.keep.get h.hv (fun hs => (hS H hs).2.1 rfl), row3_same (N := updM A k a1) (fun i hi => ?_)]
    unfold updM
    by_cases e : i = k
    · subst e; rw [if_pos rfl, t.pa]
    · rw [if_neg e]
  · rw [t.keep.get h.wt (fun hs => (hS V hs).2.2 rfl), row3_same (N := updM B k b1) (fun i hi => ?_)]
    unfold updM
    by_cases e : i = k
    · subst e; rw [if_pos rfl, t.pb]
    · rw [if_neg e]
  · by_cases e : i = k
    · subst e; rw [updM_same, updM_same]; exact t.pr
    · rw [updM_other _ _ _ _ e, updM_other _ _ _ _ e]
      exact (h.pr i hi).keep t.keep (fun j hj hx => h.nd k i hk3 hi (fun e2 => e e2.symm) j hj hx)
  · by_cases e : i = k
    · subst e
      rw [updM_same, updM_same] at hj
      rcases hn j hj with h1 | h1
      · exact hS j h1
      · have := h.bel.size; exact ⟨by omega, by omega, by omega⟩
    · rw [updM_other _ _ _ _ e, updM_other _ _ _ _ e] at hj
      exact h.new i j hi hj
  · by_cases e : i = k
    · subst e
      rw [updM_same, updM_same] at hl
      rw [updM_other _ _ _ _ (fun e => hij e.symm), updM_other _ _ _ _ (fun e => hij e.symm)] at hl2
      rcases hn l hl with h1 | h1
      · exact h.nd i j hi hj hij l h1 hl2
      · have := (h.pr j hj).lt hl2; omega
    · rw [updM_other _ _ _ _ e, updM_other _ _ _ _ e] at hl
      by_cases e2 : j = k
      · subst e2
        rw [updM_same, updM_same] at hl2
        rcases hn l hl2 with h1 | h1
        · exact h.nd i j hi hj hij l hl h1
        · have := (h.pr i hi).lt hl; omega
      · rw [updM_other _ _ _ _ e2, updM_other _ _ _ _ e2] at hl2
        exact h.nd i j hi hj hij l hl hl2
/-- A memory that has come. -/
structure New1 (u u1 : World) (o : Option MObj) : Prop where
  mem : MemO u1 o
  bel : Below u.heap.size u u1
  new : ∀ k, hasO o k → u.heap.size ≤ k
theorem New1.none (u : World) : New1 u u none := ⟨MemO.none u, Below.refl _ _, fun k ⟨_, e, _⟩ => by cases e⟩
theorem New1.fresh {u u1 : World} {o : MObj} {T : TypeId} {n : Nat} {β : Nat → Nat} {most : Int} (f : Fresh u u1 o T n β most) : New1 u u1 (some (withβ o β)) :=
  ⟨MemO.some ⟨f.mem.obj, f.mem.row.congr (fun i hi => (f.hβ i (by rw [← f.hn]; exact hi)).symm), f.mem.pages, f.mem.most, f.mem.apart⟩, f.bel, fun k hk => by
    obtain ⟨x, e, hx⟩ := hk
    cases e
    exact f.new k hx⟩
/-- Both slots k have been filled anew: first the one, then the other. -/
theorem SL.fill {w0 u u1 u3 : World} {H V : Nat} {A B : Nat → Option MObj} (h : SL w0 H V A B u) (k : Nat) (hk3 : k < 3) {a1 b1 : Option MObj} (h1 : New1 u u1 a1) (h2 : New1 (u1.setCell ⟨H, k, none⟩ (ptrO a1)) u3 b1) (hl : alike a1 b1) : SL w0 H V (updM A k a1) (updM B k b1) (u3.setCell ⟨V, k, none⟩ (ptrO b1)) := by
  have hH := block_lt h.hv
  have hV := block_lt h.wt
  have z1 := h1.bel.size
  have e2 : (u1.setCell ⟨H, k, none⟩ (ptrO a1)).heap.size = u1.heap.size := by simp [World.setCell]
  have z3 := h2.bel.size
  rw [e2] at z3
  have k1 : Keep (fun j => j = H) u1 (u1.setCell ⟨H, k, none⟩ (ptrO a1)) := Keep.setCell (S := fun j => j = H) (Keep.refl _ u1) (.inl rfl) _
  have k3 : Keep (fun j => j = V) u3 (u3.setCell ⟨V, k, none⟩ (ptrO b1)) := Keep.setCell (S := fun j => j = V) (Keep.refl _ u3) (.inl rfl) _
  have kk : Keep (fun j => j = H ∨ j = V) u (u3.setCell ⟨V, k, none⟩ (ptrO b1)) := ((Keep.of_below h1.bel).trans (k1.mono fun _ _ e => .inl e)).trans ((Keep.of_below h2.bel).trans (k3.mono fun _ _ e => .inr e))
  have hn1 : ∀ j, hasO a1 j → u.heap.size ≤ j ∧ j < u1.heap.size := fun j hj => ⟨h1.new j hj, h1.mem.lt hj⟩
  have hn2 : ∀ j, hasO b1 j → u1.heap.size ≤ j := fun j hj => by have := h2.new j hj; rw [e2] at this; exact this
  have hnew : ∀ j, hasO a1 j ∨ hasO b1 j → u.heap.size ≤ j := fun j hj => hj.elim (fun e => (hn1 j e).1) (fun e => Nat.le_trans z1 (hn2 j e))
  have m1 : MemO (u3.setCell ⟨V, k, none⟩ (ptrO b1)) a1 := ((h1.mem.keep k1 (fun j e hj => by subst e; have := (hn1 _ hj).1; omega)).below h2.bel).keep k3 (fun j e hj => by subst e; have := (hn1 _ hj).1; omega)
  have m2 : MemO (u3.setCell ⟨V, k, none⟩ (ptrO b1)) b1 := h2.mem.keep k3 (fun j e hj => by subst e; have := hn2 _ hj; omega)
  have hpr : Pr (u3.setCell ⟨V, k, none⟩ (ptrO b1)) a1 b1 := ⟨m1, m2, hl, fun j hj hj2 => by have := (hn1 j hj).2; have := hn2 j hj2; omega⟩
  refine ⟨Keep.below h.bel kk h.bel.size (fun j hj => by rcases hj with rfl | rfl; exact h.nH; exact h.nV), ?_, ?_, h.nH, h.nV, h.HV, fun i hi => ?_, fun i j hi hj => ?_, fun i j hi hj hij l hl1 hl2 => ?_⟩
  · have s1 := heap_setCell_same u1 H k _ _ (ptrO a1) (blk_keep h.hv h1.bel)
    have s2 := blk_keep s1 h2.bel
    rw [heap_setCell_other _ _ _ _ h.HV, s2, row3_set A hk3]
  · have s1 : (u1.setCell ⟨H, k, none⟩ (ptrO a1)).heap[V]? = some (.cells (row3 B) 47 (0, 0)) := by rw [heap_setCell_other _ _ _ _ (fun e => h.HV e.symm)]; exact blk_keep h.wt h1.bel
    have s2 := blk_keep s1 h2.bel
    rw [heap_setCell_same _ V k _ _ (ptrO b1) s2, row3_set B hk3]
  · by_cases e : i = k
    · subst e; rw [updM_same, updM_same]; exact hpr
    · rw [updM_other _ _ _ _ e, updM_other _ _ _ _ e]
      exact (h.pr i hi).keep kk (fun j hj hx => by
        have := h.new i j hi hx
        rcases hj with rfl | rfl
        · exact this.2.1 rfl
        · exact this.2.2 rfl)
  · by_cases e : i = k
    · subst e
      rw [updM_same, updM_same] at hj
      have := hnew j hj
      have := h.bel.size
      exact ⟨by omega, by omega, by omega⟩
    · rw [updM_other _ _ _ _ e, updM_other _ _ _ _ e] at hj
      exact h.new i j hi hj
  · by_cases e : i = k
    · subst e
      rw [updM_same, updM_same] at hl1
      rw [updM_other _ _ _ _ (fun e => hij e.symm), updM_other _ _ _ _ (fun e => hij e.symm)] at hl2
      have := hnew l hl1
      have := (h.pr j hj).lt hl2
      omega
    · rw [updM_other _ _ _ _ e, updM_other _ _ _ _ e] at hl1
      by_cases e2 : j = k
      · subst e2
        rw [updM_same, updM_same] at hl2
        have := hnew l hl2
        have := (h.pr i hi).lt hl1
        omega
      · rw [updM_other _ _ _ _ e2, updM_other _ _ _ _ e2] at hl2
        exact h.nd i j hi hj hij l hl1 hl2
theorem clone_pair (a b : Option MObj) (hl : alike a b) : ∃ (R R' : Option MObj → Prop), (∀ a1 b1, R a1 → R' b1 → alike a1 b1) ∧
    (∀ u, MemO u a → Calls Try.prog 20 #[ptrO a] u fun e u' => ∃ a1, e = .returned (ptrO a1) ∧ New1 u u' a1 ∧ R a1) ∧
    (∀ u, MemO u b → Calls Try.prog 22 #[ptrO b] u fun e u' => ∃ b1, e = .returned (ptrO b1) ∧ New1 u u' b1 ∧ R' b1) := by
  cases a with
  | none =>
    cases b with
    | none => exact ⟨fun a => a = none, fun a => a = none, (by rintro _ _ rfl rfl; exact trivial), fun u _ => (clone_nil u).mono fun e u' ⟨h1, h2⟩ => ⟨none, h1, by rw [h2]; exact New1.none u, rfl⟩, fun u _ => (rclone_nil u).mono fun e u' ⟨h1, h2⟩ => ⟨none, h1, by rw [h2]; exact New1.none u, rfl⟩⟩
    | some r => exact hl.elim
  | some m =>
    cases b with
    | none => exact hl.elim
    | some r =>
      obtain ⟨t1, t2, hn, hβ, hmo⟩ := hl
      refine ⟨fun a => ∃ o, a = some (withβ o m.β) ∧ o.T = 86 ∧ o.n = m.n ∧ o.most = m.most, fun b => ∃ o, b = some (withβ o m.β) ∧ o.T = 88 ∧ o.n = m.n ∧ o.most = m.most, ?_, fun u h => ?_, fun u h => ?_⟩
      · rintro _ _ ⟨o, rfl, g1, g2, g3⟩ ⟨p, rfl, k1, k2, k3⟩
        exact ⟨g1, k1, k2.trans g2.symm, rfl, k3.trans g3.symm⟩
      · refine (clone_k m u (h.mem m rfl) t1).mono ?_
        rintro e u' ⟨o, h1, f⟩
        exact ⟨some (withβ o m.β), h1, New1.fresh f, o, rfl, f.hT, f.hn, f.hmost⟩
      · refine (rclone_k r u (h.mem r rfl)).mono ?_
        rintro e u' ⟨o, h1, f⟩
        rw [hn, hβ, hmo] at f
        exact ⟨some (withβ o m.β), h1, New1.fresh f, o, rfl, f.hT, f.hn, f.hmost⟩
/-- What New makes, in a pair. -/
theorem new_pair (l m : Int) (hl : -9223372036854775808 ≤ l ∧ l ≤ 9223372036854775807) (hm : -9223372036854775808 ≤ m ∧ m ≤ 9223372036854775807) : ∃ (E : Int) (R R' : Option MObj → Prop), (∀ a1 b1, R a1 → R' b1 → alike a1 b1) ∧
    (∀ u, Calls Try.prog 13 #[.int .i64 l, .int .i64 m] u fun e u' => ∃ a1, e = .returned (.tuple #[ptrO a1, .int .i64 E]) ∧ New1 u u' a1 ∧ R a1) ∧
    (∀ u, Calls Try.prog 14 #[.int .i64 l, .int .i64 m] u fun e u' => ∃ b1, e = .returned (.tuple #[ptrO b1, .int .i64 E]) ∧ New1 u u' b1 ∧ R' b1) := by
  by_cases he : newE l m = 0
  · refine ⟨0, fun a => ∃ o, a = some (withβ o (fun _ => 0)) ∧ o.T = 86 ∧ o.n = 65536 * l.toNat ∧ o.most = m, fun b => ∃ o, b = some (withβ o (fun _ => 0)) ∧ o.T = 88 ∧ o.n = 65536 * l.toNat ∧ o.most = m, ?_, fun u => ?_, fun u => ?_⟩
    · rintro _ _ ⟨o, rfl, g1, g2, g3⟩ ⟨p, rfl, k1, k2, k3⟩
      exact ⟨g1, k1, k2.trans g2.symm, rfl, k3.trans g3.symm⟩
    · refine (new_k l m u hl hm he).mono ?_
      rintro e u' ⟨o, h1, f⟩
      exact ⟨some (withβ o (fun _ => 0)), h1, New1.fresh f, o, rfl, f.hT, f.hn, f.hmost⟩
    · refine (rnew_k l m u hl hm he).mono ?_
      rintro e u' ⟨o, h1, f⟩
      exact ⟨some (withβ o (fun _ => 0)), h1, New1.fresh f, o, rfl, f.hT, f.hn, f.hmost⟩
  · refine ⟨newE l m, fun a => a = none, fun a => a = none, (by rintro _ _ rfl rfl; exact trivial), fun u => (new_err l m u hl hm he).mono fun e u' ⟨h1, h2⟩ => ⟨none, h1, by rw [h2]; exact New1.none u, rfl⟩, fun u => (rnew_err l m u hl hm he).mono fun e u' ⟨h1, h2⟩ => ⟨none, h1, by rw [h2]; exact New1.none u, rfl⟩⟩
/-- m ops lie in a block, with their data. -/
structure OView (w : World) (b off m : Nat) (f : Nat → OpR) : Prop where
  row : ∀ i, i < m → w.rangeAt b (off + 8 * i) (f i).row.toList
  ok : ∀ i, i < m → (f i).Ok
  dat : ∀ i, i < m → BView w (.slice (f i).ad (f i).dm (f i).dc) (f i).dm (f i).ν
  nil : ∀ i, i < m → (f i).ad = none → (f i).dc = 0
  lt : b < w.heap.size
theorem OView.below {w w1 : World} {b off m : Nat} {f : Nat → OpR} (h : OView w b off m f) (hb : Below w.heap.size w w1) : OView w1 b off m f :=
  ⟨fun i hi j v hj => by have := h.row i hi j v hj; unfold World.cell? at this ⊢; rw [hb.block b h.lt]; exact this, h.ok, fun i hi => (h.dat i hi).below hb, h.nil, Nat.lt_of_lt_of_le h.lt hb.size⟩
/-- Where the data of an op lies, no block has come later. -/
theorem OView.off {w : World} {b off m : Nat} {f : Nat → OpR} (h : OView w b off m f) {i : Nat} (hi : i < m) (h0 : 0 < (f i).dm) {g : Addr} (hg : (f i).ad = some g) : g.block < w.heap.size := by
  obtain ⟨ad', c', e, hx⟩ := (h.dat i hi).ex
  injection e with e1 e2 e3
  subst e1
  obtain ⟨b', o', e2, hc⟩ := hx.resolve_left (by omega)
  rw [e2] at hg
  cases hg
  exact World.block_lt_of_cell? w _ (hc 0 h0)
end Go.Proofs.Ytlcndenbnokcjaa
