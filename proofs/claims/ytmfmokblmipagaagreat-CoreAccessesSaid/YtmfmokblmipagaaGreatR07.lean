/-
  Texts Mem, MemK, MemS.
-/
import Derived.Test.YtmfmokblmipagaaGreatR02
import Derived.Deep.AppendSrc
import Derived.Laws.MakeOwn
import Derived.Laws.BytesArg
set_option linter.unusedSimpArgs false
set_option linter.unusedVariables false
set_option maxHeartbeats 8000000
open Pl
section
namespace Go.Proofs.YtmfmokblmipagaaGreat
open Go.RowKit Pl
structure Keep (S : Nat → Prop) (w w1 : World) : Prop where
 os : w1.os = w.os
 tape : w1.tape = w.tape
 output : w1.output = w.output
 size : w.heap.size ≤ w1.heap.size
 block : ∀ k, k < w.heap.size → ¬ S k → w1.heap[k]? = w.heap[k]?
theorem Keep.refl (S : Nat → Prop) (w : World) : Keep S w w := ⟨rfl, rfl, rfl, Nat.le_refl _, fun _ _ _ => rfl⟩
theorem Keep.trans {S : Nat → Prop} {a b c : World} (h : Keep S a b) (k : Keep S b c) : Keep S a c :=
 ⟨k.os.trans h.os, k.tape.trans h.tape, k.output.trans h.output, Nat.le_trans h.size k.size, fun i hi hn => (k.block i (Nat.lt_of_lt_of_le hi h.size) hn).trans (h.block i hi hn)⟩
theorem Keep.mono {S S' : Nat → Prop} {a b : World} (h : Keep S a b) (hs : ∀ k, k < a.heap.size → S k → S' k) : Keep S' a b :=
 ⟨h.os, h.tape, h.output, h.size, fun i hi hn => h.block i hi (fun hS => hn (hs i hi hS))⟩
theorem Keep.of_below {S : Nat → Prop} {w w1 : World} (h : Below w.heap.size w w1) : Keep S w w1 := ⟨h.os, h.tape, h.output, h.size, fun k hk _ => h.block k hk⟩
theorem Keep.below {S : Nat → Prop} {B : Nat} {a w w1 : World} (h : Below B a w) (k : Keep S w w1) (hB : B ≤ w.heap.size) (hS : ∀ k, S k → B ≤ k) : Below B a w1 :=
 h.trans ⟨k.os, k.tape, k.output, k.size, fun i hi => k.block i (Nat.lt_of_lt_of_le hi hB) (fun hs => absurd (hS i hs) (by omega))⟩
theorem Keep.get {S : Nat → Prop} {w w1 : World} (h : Keep S w w1) {k : Nat} {o : Obj} (hk : w.heap[k]? = some o) (hn : ¬ S k) : w1.heap[k]? = some o := (h.block k (block_lt hk) hn).trans hk
theorem Keep.setCell {S : Nat → Prop} {a w : World} (h : Keep S a w) {p : Addr} (hp : S p.block ∨ a.heap.size ≤ p.block) (u : Value) : Keep S a (w.setCell p u) :=
 ⟨h.os, h.tape, h.output, by rw [show (w.setCell p u).heap.size = w.heap.size by simp [World.setCell]]; exact h.size, fun k hk hn => (heap_setCell_other w p k u (by rintro rfl; rcases hp with h1 | h1; exact hn h1; omega)).trans (h.block k hk hn)⟩
theorem Keep.drew {S : Nat → Prop} {a w : World} (h : Keep S a w) : Keep S a w.drew := ⟨h.os, h.tape, h.output, h.size, h.block⟩
theorem Keep.alloc {S : Nat → Prop} {a w : World} (h : Keep S a w) (o : Obj) : Keep S a (w.alloc o) :=
 h.trans (Keep.of_below ((Below.refl _ _).alloc (Nat.le_refl _) _))
structure BytesAt (w : World) (q n c : Nat) (β : Nat → Nat) : Prop where
 ex : ∃ xs, w.heap[q]? = some (.cells xs 5 (0, 0)) ∧ xs.size = c ∧ ∀ i, i < n → xs[i]? = some (.int .u8 (β i : Nat))
 lt : ∀ i, i < n → β i < 256
 le : n ≤ c
theorem BytesAt.cell {w : World} {q n c : Nat} {β : Nat → Nat} (h : BytesAt w q n c β) {i : Nat} (hi : i < n) : w.cell? ⟨q, i, none⟩ = some (.int .u8 (β i : Nat)) := by
 obtain ⟨xs, h1, h2, h3⟩ := h.ex
 rw [cell_of_row w q i _ _ _ h1, h3 i hi]
theorem BytesAt.frozen {w : World} {q n c : Nat} {β : Nat → Nat} (h : BytesAt w q n c β) (i : Nat) : w.frozen? ⟨q, i, none⟩ = false := by
 obtain ⟨xs, h1, h2, h3⟩ := h.ex
 exact frozen_of_row w q i _ _ h1
theorem BytesAt.block {w : World} {q n c : Nat} {β : Nat → Nat} (h : BytesAt w q n c β) : q < w.heap.size := by
 obtain ⟨xs, h1, h2, h3⟩ := h.ex
 exact block_lt h1
theorem BytesAt.keep {w w1 : World} {q n c : Nat} {β : Nat → Nat} (h : BytesAt w q n c β) {S : Nat → Prop} (k : Keep S w w1) (hn : ¬ S q) : BytesAt w1 q n c β := by
 obtain ⟨xs, h1, h2, h3⟩ := h.ex
 exact ⟨⟨xs, k.get h1 hn, h2, h3⟩, h.lt, h.le⟩
theorem BytesAt.congr {w : World} {q n c : Nat} {β γ : Nat → Nat} (h : BytesAt w q n c β) (e : ∀ i, i < n → γ i = β i) : BytesAt w q n c γ := by
 obtain ⟨xs, h1, h2, h3⟩ := h.ex
 exact ⟨⟨xs, h1, h2, fun i hi => by rw [e i hi]; exact h3 i hi⟩, fun i hi => by rw [e i hi]; exact h.lt i hi, h.le⟩
def upd (β : Nat → Nat) (i x : Nat) : Nat → Nat := fun k => if k = i then x else β k
theorem BytesAt.set {w : World} {q n c : Nat} {β : Nat → Nat} (h : BytesAt w q n c β) {i x : Nat} (hi : i < n) (hx : x < 256) : BytesAt (w.setCell ⟨q, i, none⟩ (.int .u8 (x : Nat))) q n c (upd β i x) := by
 obtain ⟨xs, h1, h2, h3⟩ := h.ex
 refine ⟨⟨xs.setIfInBounds i (.int .u8 (x : Nat)), heap_setCell_same w q i _ _ _ h1, by simpa using h2, fun k hk => ?_⟩, fun k hk => ?_, h.le⟩
 ·rw [Array.getElem?_setIfInBounds]
  unfold upd
  by_cases e : i = k
  ·subst e; rw [if_pos rfl, if_pos (by have := h.le; omega), if_pos rfl]
  ·rw [if_neg e, if_neg (fun e1 => e e1.symm)]; exact h3 k hk
 ·unfold upd
  split
  ·exact hx
  ·exact h.lt k hk
def RowAt (w : World) (q : Option Nat) (n c : Nat) (β : Nat → Nat) : Prop := match q with
 | none => n = 0 ∧ c = 0
 | some q => BytesAt w q n c β
def headOf (q : Option Nat) : Option Addr := q.map fun q => ⟨q, 0, none⟩
theorem RowAt.keep {w w1 : World} {q : Option Nat} {n c : Nat} {β : Nat → Nat} (h : RowAt w q n c β) {S : Nat → Prop} (k : Keep S w w1) (hn : ∀ b, q = some b → ¬ S b) : RowAt w1 q n c β := by
 cases q with
 | none => exact h
 | some b => exact BytesAt.keep h k (hn b rfl)
theorem RowAt.lt {w : World} {q : Option Nat} {n c : Nat} {β : Nat → Nat} (h : RowAt w q n c β) : ∀ i, i < n → β i < 256 := by
 cases q with
 | none => intro i hi; rw [h.1] at hi; omega
 | some b => exact BytesAt.lt h
theorem RowAt.le {w : World} {q : Option Nat} {n c : Nat} {β : Nat → Nat} (h : RowAt w q n c β) : n ≤ c := by
 cases q with
 | none => rw [h.1]; omega
 | some b => exact BytesAt.le h
theorem RowAt.pos {w : World} {q : Option Nat} {n c : Nat} {β : Nat → Nat} (h : RowAt w q n c β) (hn : 0 < n) : ∃ b, q = some b ∧ BytesAt w b n c β := by
 cases q with
 | none => rw [h.1] at hn; omega
 | some b => exact ⟨b, rfl, h⟩
theorem RowAt.congr {w : World} {q : Option Nat} {n c : Nat} {β γ : Nat → Nat} (h : RowAt w q n c β) (e : ∀ i, i < n → γ i = β i) : RowAt w q n c γ := by
 cases q with
 | none => exact h
 | some b => exact BytesAt.congr h e
structure MObj where
 T : TypeId
 p : Nat
 q : Option Nat
 n : Nat
 c : Nat
 β : Nat → Nat
 most : Int
structure MemAt (w : World) (o : MObj) : Prop where
 obj : w.heap[o.p]? = some (.cells #[.slice (headOf o.q) o.n o.c, .int .i64 o.most] o.T (0, 0))
 row : RowAt w o.q o.n o.c o.β
 pages : ∃ k, k ≤ 16 ∧ o.n = 65536 * k
 most : -1 ≤ o.most ∧ o.most ≤ 9223372036854775807
 apart : o.q ≠ some o.p
def MObj.has (o : MObj) (k : Nat) : Prop := k = o.p ∨ o.q = some k
theorem MemAt.c0 {w : World} {o : MObj} (h : MemAt w o) : w.cell? ⟨o.p, 0, none⟩ = some (.slice (headOf o.q) o.n o.c) := by rw [cell_of_row w o.p 0 _ _ _ h.obj]; rfl
theorem MemAt.size {w : World} {o : MObj} (h : MemAt w o) : o.n ≤ 1048576 := by
 obtain ⟨k, hk, e⟩ := h.pages
 omega
theorem MemAt.keep {w w1 : World} {o : MObj} (h : MemAt w o) {S : Nat → Prop} (k : Keep S w w1) (hn : ∀ b, o.has b → ¬ S b) : MemAt w1 o :=
 ⟨k.get h.obj (hn _ (.inl rfl)), h.row.keep k (fun b e => hn b (.inr e)), h.pages, h.most, h.apart⟩
theorem MemAt.below {w w1 : World} {o : MObj} (h : MemAt w o) (k : Below w.heap.size w w1) : MemAt w1 o := h.keep (S := fun _ => False) (Keep.of_below k) (fun _ _ h => h)
end Go.Proofs.YtmfmokblmipagaaGreat
end
section
namespace Go.Proofs.YtmfmokblmipagaaGreat
open Go.RowKit Pl
def szOk (m : Int) : Bool := m == 1 || m == 2 || m == 4 || m == 8
theorem szOk_cases {m : Int} (h : szOk m = true) : m = 1 ∨ m = 2 ∨ m = 4 ∨ m = 8 := by
 simp only [szOk, Bool.or_eq_true, beq_iff_eq] at h
 omega
theorem szOk_not {m : Int} (h : ¬ szOk m = true) : (m != 1) = true ∧ (m != 2) = true ∧ (m != 4) = true ∧ (m != 8) = true := by
 simp only [szOk, Bool.or_eq_true, beq_iff_eq] at h
 simp only [bne_iff_ne]
 omega
def mayE (n : Nat) (at_ : Nat) (m : Int) : Int := if szOk m = true then (if at_ + m.toNat ≤ n then 0 else 23) else 1
def loadN (β : Nat → Nat) (s : Nat) : Nat → Nat
 | 0 => 0
 | k + 1 => loadN β s k + β (s + k) * 2 ^ (8 * k)
theorem loadN_lt (β : Nat → Nat) (s : Nat) : ∀ k, (∀ i, i < k → β (s + i) < 256) → loadN β s k < 2 ^ (8 * k)
 | 0, _ => by simp [loadN]
 | k + 1, h => by
   have ih := loadN_lt β s k (fun i hi => h i (by omega))
   have hk := h k (by omega)
   have e : (2 : Nat) ^ (8 * (k + 1)) = 256 * 2 ^ (8 * k) := by rw [show 8 * (k + 1) = 8 + 8 * k by omega, Nat.pow_add]
   have := Nat.mul_le_mul_right (2 ^ (8 * k)) (show β (s + k) ≤ 255 by omega)
   rw [loadN, e]
   omega
def loadX (o : MObj) (at_ : Nat) (m : Int) : Nat := if mayE o.n at_ m = 0 then loadN o.β at_ m.toNat else 0
end Go.Proofs.YtmfmokblmipagaaGreat
end
section
namespace Go.Proofs.YtmfmokblmipagaaGreat
open Go.RowKit Pl
def storeN (β : Nat → Nat) (s x : Nat) : Nat → (Nat → Nat)
 | 0 => β
 | k + 1 => upd (storeN β s x k) (s + k) (x / 2 ^ (8 * k) % 256)
theorem MemAt.drew {w : World} {o : MObj} (h : MemAt w o) : MemAt w.drew o := h.keep (S := fun _ => False) (Keep.refl _ w).drew (fun _ _ h => h)
def withβ (o : MObj) (γ : Nat → Nat) : MObj := { o with β := γ }
theorem MemAt.set {w : World} {o : MObj} (h : MemAt w o) {b : Nat} (hb : o.q = some b) {i x : Nat} (hi : i < o.n) (hx : x < 256) : MemAt (w.setCell ⟨b, i, none⟩ (.int .u8 (x : Nat))) (withβ o (upd o.β i x)) := by
 have hr := h.row
 have hap := h.apart
 rw [hb] at hr hap
 refine ⟨?_, ?_, h.pages, h.most, h.apart⟩
 ·rw [heap_setCell_other _ _ _ _ (by intro e; exact hap (by rw [show (withβ o (upd o.β i x)).p = o.p from rfl] at e; rw [e]))]
  exact h.obj
 ·show RowAt _ o.q o.n o.c _
  rw [hb]
  exact BytesAt.set hr hi hx
def storeB (o : MObj) (at_ : Nat) (m : Int) (x : Nat) : Nat → Nat := if mayE o.n at_ m = 0 then storeN o.β at_ x m.toNat else o.β
end Go.Proofs.YtmfmokblmipagaaGreat
end
