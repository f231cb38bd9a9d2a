/- A part of the proof that plaittop.CoreLanes returns true. -/
import Derived.Deep.AppendSrc
import Derived.Laws.MakeOwn
import Derived.Laws.BytesArg
import Derived.Test.YtebpijlmeemfaaaGreatDoorA02
import Derived.Test.YtebpijlmeemfaaaGreatDoorA04
set_option linter.all false
set_option linter.unusedSectionVars false
set_option linter.unusedSimpArgs false
set_option linter.unusedVariables false
section
namespace Go.Proofs.YtebpijlmeemfaaaGreatDoor
open Go.RowKit Pl
structure Keep (S : Nat → Prop) (w w1 : World) : Prop where
 os : w1.os = w.os
 tape : w1.tape = w.tape
 output : w1.output = w.output
 size : w.heap.size ≤ w1.heap.size
 block : ∀ k, k < w.heap.size → ¬ S k → w1.heap[k]? = w.heap[k]?
theorem Keep.refl (S : Nat → Prop) (w : World) : Keep S w w := ⟨rfl, rfl, rfl, Nat.le_refl _, fun _ _ _ => rfl⟩
theorem Keep.trans {S : Nat → Prop} {a b c : World} (h : Keep S a b) (k : Keep S b c) : Keep S a c :=
 ⟨k.os.trans h.os, k.tape.trans h.tape, k.output.trans h.output, Nat.le_trans h.size k.size, fun i hi hn => (k.block i (Nat.lt_of_lt_of_le hi h.size) hn).trans (h.block i hi hn)⟩
theorem Keep.mono {S S' : Nat → Prop} {a b : World} (h : Keep S a b) (hs : ∀ k, k < a.heap.size → S k → S' k) : Keep S' a b :=
 ⟨h.os, h.tape, h.output, h.size, fun i hi hn => h.block i hi (fun hS => hn (hs i hi hS))⟩
theorem Keep.of_below {S : Nat → Prop} {w w1 : World} (h : Below w.heap.size w w1) : Keep S w w1 := ⟨h.os, h.tape, h.output, h.size, fun k hk _ => h.block k hk⟩
theorem Keep.below {S : Nat → Prop} {B : Nat} {a w w1 : World} (h : Below B a w) (k : Keep S w w1) (hB : B ≤ w.heap.size) (hS : ∀ k, S k → B ≤ k) : Below B a w1 :=
 h.trans ⟨k.os, k.tape, k.output, k.size, fun i hi => k.block i (Nat.lt_of_lt_of_le hi hB) (fun hs => absurd (hS i hs) (by omega))⟩
theorem Keep.get {S : Nat → Prop} {w w1 : World} (h : Keep S w w1) {k : Nat} {o : Obj} (hk : w.heap[k]? = some o) (hn : ¬ S k) : w1.heap[k]? = some o := (h.block k (block_lt hk) hn).trans hk
theorem Keep.setCell {S : Nat → Prop} {a w : World} (h : Keep S a w) {p : Addr} (hp : S p.block ∨ a.heap.size ≤ p.block) (u : Value) : Keep S a (w.setCell p u) :=
 ⟨h.os, h.tape, h.output, by rw [show (w.setCell p u).heap.size = w.heap.size by simp [World.setCell]]; exact h.size, fun k hk hn => (heap_setCell_other w p k u (by rintro rfl; rcases hp with h1 | h1; exact hn h1; omega)).trans (h.block k hk hn)⟩
theorem Keep.drew {S : Nat → Prop} {a w : World} (h : Keep S a w) : Keep S a w.drew := ⟨h.os, h.tape, h.output, h.size, h.block⟩
theorem Keep.alloc {S : Nat → Prop} {a w : World} (h : Keep S a w) (o : Obj) : Keep S a (w.alloc o) :=
 h.trans (Keep.of_below ((Below.refl _ _).alloc (Nat.le_refl _) _))
structure BytesAt (w : World) (q n c : Nat) (β : Nat → Nat) : Prop where
 ex : ∃ xs, w.heap[q]? = some (.cells xs 5 (0, 0)) ∧ c ≤ xs.size ∧ ∀ i, i < n → xs[i]? = some (.int .u8 (β i : Nat))
 lt : ∀ i, i < n → β i < 256
 le : n ≤ c
theorem BytesAt.cell {w : World} {q n c : Nat} {β : Nat → Nat} (h : BytesAt w q n c β) {i : Nat} (hi : i < n) : w.cell? ⟨q, i, none⟩ = some (.int .u8 (β i : Nat)) := by
 obtain ⟨xs, h1, h2, h3⟩ := h.ex
 rw [cell_of_row w q i _ _ _ h1, h3 i hi]
theorem BytesAt.block {w : World} {q n c : Nat} {β : Nat → Nat} (h : BytesAt w q n c β) : q < w.heap.size := by
 obtain ⟨xs, h1, h2, h3⟩ := h.ex
 exact block_lt h1
theorem BytesAt.keep {w w1 : World} {q n c : Nat} {β : Nat → Nat} (h : BytesAt w q n c β) {S : Nat → Prop} (k : Keep S w w1) (hn : ¬ S q) : BytesAt w1 q n c β := by
 obtain ⟨xs, h1, h2, h3⟩ := h.ex
 exact ⟨⟨xs, k.get h1 hn, h2, h3⟩, h.lt, h.le⟩
theorem BytesAt.congr {w : World} {q n c : Nat} {β γ : Nat → Nat} (h : BytesAt w q n c β) (e : ∀ i, i < n → γ i = β i) : BytesAt w q n c γ := by
 obtain ⟨xs, h1, h2, h3⟩ := h.ex
 exact ⟨⟨xs, h1, h2, fun i hi => by rw [e i hi]; exact h3 i hi⟩, fun i hi => by rw [e i hi]; exact h.lt i hi, h.le⟩
def upd (β : Nat → Nat) (i x : Nat) : Nat → Nat := fun k => if k = i then x else β k
theorem BytesAt.set {w : World} {q n c : Nat} {β : Nat → Nat} (h : BytesAt w q n c β) {i x : Nat} (hi : i < n) (hx : x < 256) : BytesAt (w.setCell ⟨q, i, none⟩ (.int .u8 (x : Nat))) q n c (upd β i x) := by
 obtain ⟨xs, h1, h2, h3⟩ := h.ex
 refine ⟨⟨xs.setIfInBounds i (.int .u8 (x : Nat)), heap_setCell_same w q i _ _ _ h1, by simpa using h2, fun k hk => ?_⟩, fun k hk => ?_, h.le⟩
 ·rw [Array.getElem?_setIfInBounds]
  unfold upd
  by_cases e : i = k
  ·subst e; rw [if_pos rfl, if_pos (by have := h.le; omega), if_pos rfl]
  ·rw [if_neg e, if_neg (fun e1 => e e1.symm)]; exact h3 k hk
 ·unfold upd
  split
  ·exact hx
  ·exact h.lt k hk
def RowAt (w : World) (q : Option Nat) (n c : Nat) (β : Nat → Nat) : Prop := match q with
 | none => n = 0 ∧ c = 0
 | some q => BytesAt w q n c β
def headOf (q : Option Nat) : Option Addr := q.map fun q => ⟨q, 0, none⟩
theorem RowAt.keep {w w1 : World} {q : Option Nat} {n c : Nat} {β : Nat → Nat} (h : RowAt w q n c β) {S : Nat → Prop} (k : Keep S w w1) (hn : ∀ b, q = some b → ¬ S b) : RowAt w1 q n c β := by
 cases q with
 | none => exact h
 | some b => exact BytesAt.keep h k (hn b rfl)
theorem RowAt.lt {w : World} {q : Option Nat} {n c : Nat} {β : Nat → Nat} (h : RowAt w q n c β) : ∀ i, i < n → β i < 256 := by
 cases q with
 | none => intro i hi; rw [h.1] at hi; omega
 | some b => exact BytesAt.lt h
theorem RowAt.le {w : World} {q : Option Nat} {n c : Nat} {β : Nat → Nat} (h : RowAt w q n c β) : n ≤ c := by
 cases q with
 | none => rw [h.1]; omega
 | some b => exact BytesAt.le h
theorem RowAt.pos {w : World} {q : Option Nat} {n c : Nat} {β : Nat → Nat} (h : RowAt w q n c β) (hn : 0 < n) : ∃ b, q = some b ∧ BytesAt w b n c β := by
 cases q with
 | none => rw [h.1] at hn; omega
 | some b => exact ⟨b, rfl, h⟩
theorem RowAt.congr {w : World} {q : Option Nat} {n c : Nat} {β γ : Nat → Nat} (h : RowAt w q n c β) (e : ∀ i, i < n → γ i = β i) : RowAt w q n c γ := by
 cases q with
 | none => exact h
 | some b => exact BytesAt.congr h e
structure MObj where
 T : TypeId
 p : Nat
 q : Option Nat
 n : Nat
 c : Nat
 β : Nat → Nat
 most : Int
 rest : Array Value := #[]
structure MemAt (w : World) (o : MObj) : Prop where
 obj : w.heap[o.p]? = some (.cells (#[.slice (headOf o.q) o.n o.c, .int .i64 o.most] ++ o.rest) o.T (0, 0))
 row : RowAt w o.q o.n o.c o.β
 pages : ∃ k, k ≤ 16 ∧ o.n = 65536 * k
 most : -1 ≤ o.most ∧ o.most ≤ 9223372036854775807
 apart : o.q ≠ some o.p
def MObj.has (o : MObj) (k : Nat) : Prop := k = o.p ∨ o.q = some k
theorem MemAt.c0 {w : World} {o : MObj} (h : MemAt w o) : w.cell? ⟨o.p, 0, none⟩ = some (.slice (headOf o.q) o.n o.c) := by rw [cell_of_row w o.p 0 _ _ _ h.obj, Array.getElem?_append_left (by simp)]; rfl
theorem MemAt.fz {w : World} {o : MObj} (h : MemAt w o) (j : Nat) : w.frozen? ⟨o.p, j, none⟩ = false := frozen_of_row w o.p j _ _ h.obj
theorem MemAt.size {w : World} {o : MObj} (h : MemAt w o) : o.n ≤ 1048576 := by
 obtain ⟨k, hk, e⟩ := h.pages
 omega
theorem MemAt.keep {w w1 : World} {o : MObj} (h : MemAt w o) {S : Nat → Prop} (k : Keep S w w1) (hn : ∀ b, o.has b → ¬ S b) : MemAt w1 o :=
 ⟨k.get h.obj (hn _ (.inl rfl)), h.row.keep k (fun b e => hn b (.inr e)), h.pages, h.most, h.apart⟩
theorem MemAt.below {w w1 : World} {o : MObj} (h : MemAt w o) (k : Below w.heap.size w w1) : MemAt w1 o := h.keep (S := fun _ => False) (Keep.of_below k) (fun _ _ h => h)
end Go.Proofs.YtebpijlmeemfaaaGreatDoor
end
section
namespace Go.Proofs.YtebpijlmeemfaaaGreatDoor
open Go.RowKit Pl
theorem mret_bool {a b : Bool} (h : a = b) : Ending.returned (.bool a) = .returned (.bool b) := by rw [h]
theorem within_k (o : MObj) (w : World) (h : MemAt w o) (at_ m : Nat) (ha : at_ < 18446744073709551616) (hm : m ≤ 9223372036854775807) :
  Calls Tryz.prog 35 #[.pointer (some ⟨o.p, 0, none⟩), .int .u64 (at_ : Nat), .int .i64 (m : Nat)] w fun e w' => e = .returned (.bool (decide (at_ + m ≤ o.n))) ∧ w' = w := by
 have hc0 := h.c0
 have hz := h.size
 go_enter Tryz.func35, Tryz.ntmps35
 go_wp2
 ·go_ret
  exact ⟨mret_bool (by rw [Bool.eq_iff_iff]; simp; omega), rfl⟩
 ·go_ret
  exact ⟨mret_bool (by rw [Bool.eq_iff_iff]; simp; omega), rfl⟩
theorem within_z (o : MObj) (w : World) (h : MemAt w o) (at_ : Nat) (m : Int) (b : Bool) (ha : at_ < 18446744073709551616) (h0 : 0 ≤ m) (hm : m ≤ 9223372036854775807) (hb : decide (at_ + m.toNat ≤ o.n) = b) :
  Calls Tryz.prog 35 #[.pointer (some ⟨o.p, 0, none⟩), .int .u64 (at_ : Nat), .int .i64 m] w fun e w' => e = .returned (.bool b) ∧ w' = w := by
 obtain ⟨k, rfl⟩ := Int.eq_ofNat_of_zero_le h0
 rw [← hb]
 exact within_k o w h at_ k ha (by omega)
def szOk (m : Int) : Bool := m == 1 || m == 2 || m == 4 || m == 8
theorem szOk_cases {m : Int} (h : szOk m = true) : m = 1 ∨ m = 2 ∨ m = 4 ∨ m = 8 := by
 simp only [szOk, Bool.or_eq_true, beq_iff_eq] at h
 omega
theorem szOk_not {m : Int} (h : ¬ szOk m = true) : (m != 1) = true ∧ (m != 2) = true ∧ (m != 4) = true ∧ (m != 8) = true := by
 simp only [szOk, Bool.or_eq_true, beq_iff_eq] at h
 simp only [bne_iff_ne]
 omega
def mayE (n : Nat) (at_ : Nat) (m : Int) : Int := if szOk m = true then (if at_ + m.toNat ≤ n then 0 else 23) else 1
theorem may_k (o : MObj) (w : World) (h : MemAt w o) (at_ : Nat) (m : Int) (ha : at_ < 18446744073709551616) (hm : -9223372036854775808 ≤ m ∧ m ≤ 9223372036854775807) :
  Calls Tryz.prog 121 #[.pointer (some ⟨o.p, 0, none⟩), .int .u64 (at_ : Nat), .int .i64 m] w fun e w' => e = .returned (.int .i64 (mayE o.n at_ m)) ∧ w' = w := by
 by_cases hs : szOk m = true
 ·have hk := szOk_cases hs
  by_cases hin : at_ + m.toNat ≤ o.n
  ·have e : mayE o.n at_ m = 0 := by unfold mayE; rw [if_pos hs, if_pos hin]
   rw [e]
   clear e hs
   rcases hk with rfl | rfl | rfl | rfl
   all_goals
    have hw := within_z o w h at_ _ _ ha (by decide) (by decide) (decide_eq_true hin)
    clear hin h
    go_enter Tryz.func121, Tryz.ntmps121
    go_wp2_with (go_at_call 35; (with_reducible refine hw.mono ?_); rintro e u ⟨rfl, rfl⟩)
    go_ret
    exact ⟨rfl, rfl⟩
  ·have e : mayE o.n at_ m = 23 := by unfold mayE; rw [if_pos hs, if_neg hin]
   rw [e]
   clear e hs
   rcases hk with rfl | rfl | rfl | rfl
   all_goals
    have hw := within_z o w h at_ _ _ ha (by decide) (by decide) (decide_eq_false hin)
    clear hin h
    go_enter Tryz.func121, Tryz.ntmps121
    go_wp2_with (go_at_call 35; (with_reducible refine hw.mono ?_); rintro e u ⟨rfl, rfl⟩)
    go_ret
    exact ⟨rfl, rfl⟩
 ·have e : mayE o.n at_ m = 1 := by unfold mayE; rw [if_neg hs]
  rw [e]
  obtain ⟨h1, h2, h3, h4⟩ := szOk_not hs
  clear hs e h
  go_enter Tryz.func121, Tryz.ntmps121
  go_wp2
  go_ret
  exact ⟨rfl, rfl⟩
def loadN (β : Nat → Nat) (s : Nat) : Nat → Nat
 | 0 => 0
 | k + 1 => loadN β s k + β (s + k) * 2 ^ (8 * k)
theorem loadN_lt (β : Nat → Nat) (s : Nat) : ∀ k, (∀ i, i < k → β (s + i) < 256) → loadN β s k < 2 ^ (8 * k)
 | 0, _ => by simp [loadN]
 | k + 1, h => by
  have ih := loadN_lt β s k (fun i hi => h i (by omega))
  have hk := h k (by omega)
  have e : (2 : Nat) ^ (8 * (k + 1)) = 256 * 2 ^ (8 * k) := by rw [show 8 * (k + 1) = 8 + 8 * k by omega, Nat.pow_add]
  have := Nat.mul_le_mul_right (2 ^ (8 * k)) (show β (s + k) ≤ 255 by omega)
  rw [loadN, e]
  omega
theorem or_load (β : Nat → Nat) (s k : Nat) (hk : k < 8) (h : ∀ i, i ≤ k → β (s + i) < 256) : bits BinOp.or IntKind.u64 (↑(loadN β s k))
  (IntKind.u64.wrap (IntKind.u64.wrap ↑(β (s + k)) * 2 ^ (8 * k))) = ((loadN β s (k + 1) : Nat) : Int) := by
 have h1 := h k (Nat.le_refl _)
 have h2 := loadN_lt β s k (fun i hi => h i (by omega))
 have hp : (2 : Nat) ^ (8 * k) * 256 ≤ 18446744073709551616 := by
  have := Nat.pow_le_pow_right (show 0 < 2 by decide) (show 8 * k + 8 ≤ 64 by omega)
  rw [Nat.pow_add] at this
  simpa using this
 have h3 : β (s + k) * 2 ^ (8 * k) < 18446744073709551616 := by
  have := Nat.mul_le_mul_right (2 ^ (8 * k)) (show β (s + k) ≤ 255 by omega)
  have h0 : 0 < 2 ^ (8 * k) := Nat.two_pow_pos _
  omega
 have e1 : IntKind.u64.wrap ((β (s + k) : Nat) : Int) = ((β (s + k) : Nat) : Int) := IntWalk.u64_in _ (by omega)
 have e2 : ((β (s + k) : Nat) : Int) * 2 ^ (8 * k) = ((β (s + k) * 2 ^ (8 * k) : Nat) : Int) := by simp
 rw [e1, e2, IntWalk.u64_in _ (by omega), u64_or_nat _ _ (by have : 0 < 2 ^ (8 * k) := Nat.two_pow_pos _; omega) h3]
 congr 1
 rw [loadN, Nat.mul_comm (β (s + k)), Nat.or_comm, ← Nat.two_pow_add_eq_or_of_lt h2]
 exact Nat.add_comm _ _
def loadX (o : MObj) (at_ : Nat) (m : Int) : Nat := if mayE o.n at_ m = 0 then loadN o.β at_ m.toNat else 0
theorem load_err (o : MObj) (w : World) (h : MemAt w o) (at_ : Nat) (m : Int) (ha : at_ < 18446744073709551616) (hm : -9223372036854775808 ≤ m ∧ m ≤ 9223372036854775807) (E : Int) (he : mayE o.n at_ m = E) (hE : (E != 0) = true) :
  Calls Tryz.prog 47 #[.pointer (some ⟨o.p, 0, none⟩), .int .u64 (at_ : Nat), .int .i64 m] w fun e w' => e = .returned (.tuple #[.int .u64 0, .int .i64 E]) ∧ w' = w := by
 have hmm := may_k o w h at_ m ha hm
 rw [he] at hmm
 clear he h
 go_enter Tryz.func47, Tryz.ntmps47
 go_wp2_with (go_at_call 121; (with_reducible refine hmm.mono ?_); rintro e u ⟨rfl, rfl⟩)
 go_ret2
 exact ⟨rfl, rfl⟩
theorem load_1 (o : MObj) (w : World) (h : MemAt w o) (at_ : Nat) (hin : at_ + 1 ≤ o.n) :
  Calls Tryz.prog 47 #[.pointer (some ⟨o.p, 0, none⟩), .int .u64 (at_ : Nat), .int .i64 1] w fun e w' => e = .returned (.tuple #[.int .u64 (loadN o.β at_ 1 : Nat), .int .i64 0]) ∧ w' = w := by
 have hz := h.size
 have hmm := may_k o w h at_ 1 (by omega) (by decide)
 rw [show mayE o.n at_ 1 = 0 by unfold mayE; rw [if_pos (by decide), if_pos (by simpa using hin)]] at hmm
 obtain ⟨b, hb, hr⟩ := h.row.pos (by omega)
 have hc0 := h.c0
 rw [hb, show headOf (some b) = some ⟨b, 0, none⟩ from rfl] at hc0
 have hcap := hr.le
 go_enter Tryz.func47, Tryz.ntmps47
 go_wp2_with (go_at_call 121; (with_reducible refine hmm.mono ?_); rintro e u ⟨rfl, rfl⟩)
 go_loopw [9, 30] (fun xv jv wr => ∃ j : Nat, j ≤ 1 ∧ jv = .int .i64 j ∧ xv = .int .u64 (loadN o.β at_ j : Nat) ∧ wr = u) (fun _ jv _ => 1 - (intOf jv).toNat)
 case atStart => exact ⟨0, Nat.zero_le _, rfl, rfl, rfl⟩
 case round =>
  obtain ⟨j, hj, rfl, rfl, rfl⟩ := hrel
  by_cases hjl : j < 1
  ·have hcell := hr.cell (i := at_ + j) (by omega)
   have hor := or_load o.β at_ j (by omega) (fun i hi => hr.lt _ (by omega))
   go_wp2
   exact ⟨⟨j + 1, by omega, by go_num, rfl, trivial⟩, by simp [intOf]; omega⟩
  ·obtain rfl : j = 1 := by omega
   go_wp2
   go_ret2
   exact ⟨rfl, rfl⟩
theorem load_2 (o : MObj) (w : World) (h : MemAt w o) (at_ : Nat) (hin : at_ + 2 ≤ o.n) :
  Calls Tryz.prog 47 #[.pointer (some ⟨o.p, 0, none⟩), .int .u64 (at_ : Nat), .int .i64 2] w fun e w' => e = .returned (.tuple #[.int .u64 (loadN o.β at_ 2 : Nat), .int .i64 0]) ∧ w' = w := by
 have hz := h.size
 have hmm := may_k o w h at_ 2 (by omega) (by decide)
 rw [show mayE o.n at_ 2 = 0 by unfold mayE; rw [if_pos (by decide), if_pos (by simpa using hin)]] at hmm
 obtain ⟨b, hb, hr⟩ := h.row.pos (by omega)
 have hc0 := h.c0
 rw [hb, show headOf (some b) = some ⟨b, 0, none⟩ from rfl] at hc0
 have hcap := hr.le
 go_enter Tryz.func47, Tryz.ntmps47
 go_wp2_with (go_at_call 121; (with_reducible refine hmm.mono ?_); rintro e u ⟨rfl, rfl⟩)
 go_loopw [9, 30] (fun xv jv wr => ∃ j : Nat, j ≤ 2 ∧ jv = .int .i64 j ∧ xv = .int .u64 (loadN o.β at_ j : Nat) ∧ wr = u) (fun _ jv _ => 2 - (intOf jv).toNat)
 case atStart => exact ⟨0, Nat.zero_le _, rfl, rfl, rfl⟩
 case round =>
  obtain ⟨j, hj, rfl, rfl, rfl⟩ := hrel
  by_cases hjl : j < 2
  ·have hcell := hr.cell (i := at_ + j) (by omega)
   have hor := or_load o.β at_ j (by omega) (fun i hi => hr.lt _ (by omega))
   go_wp2
   exact ⟨⟨j + 1, by omega, by go_num, rfl, trivial⟩, by simp [intOf]; omega⟩
  ·obtain rfl : j = 2 := by omega
   go_wp2
   go_ret2
   exact ⟨rfl, rfl⟩
theorem load_4 (o : MObj) (w : World) (h : MemAt w o) (at_ : Nat) (hin : at_ + 4 ≤ o.n) :
  Calls Tryz.prog 47 #[.pointer (some ⟨o.p, 0, none⟩), .int .u64 (at_ : Nat), .int .i64 4] w fun e w' => e = .returned (.tuple #[.int .u64 (loadN o.β at_ 4 : Nat), .int .i64 0]) ∧ w' = w := by
 have hz := h.size
 have hmm := may_k o w h at_ 4 (by omega) (by decide)
 rw [show mayE o.n at_ 4 = 0 by unfold mayE; rw [if_pos (by decide), if_pos (by simpa using hin)]] at hmm
 obtain ⟨b, hb, hr⟩ := h.row.pos (by omega)
 have hc0 := h.c0
 rw [hb, show headOf (some b) = some ⟨b, 0, none⟩ from rfl] at hc0
 have hcap := hr.le
 go_enter Tryz.func47, Tryz.ntmps47
 go_wp2_with (go_at_call 121; (with_reducible refine hmm.mono ?_); rintro e u ⟨rfl, rfl⟩)
 go_loopw [9, 30] (fun xv jv wr => ∃ j : Nat, j ≤ 4 ∧ jv = .int .i64 j ∧ xv = .int .u64 (loadN o.β at_ j : Nat) ∧ wr = u) (fun _ jv _ => 4 - (intOf jv).toNat)
 case atStart => exact ⟨0, Nat.zero_le _, rfl, rfl, rfl⟩
 case round =>
  obtain ⟨j, hj, rfl, rfl, rfl⟩ := hrel
  by_cases hjl : j < 4
  ·have hcell := hr.cell (i := at_ + j) (by omega)
   have hor := or_load o.β at_ j (by omega) (fun i hi => hr.lt _ (by omega))
   go_wp2
   exact ⟨⟨j + 1, by omega, by go_num, rfl, trivial⟩, by simp [intOf]; omega⟩
  ·obtain rfl : j = 4 := by omega
   go_wp2
   go_ret2
   exact ⟨rfl, rfl⟩
theorem load_8 (o : MObj) (w : World) (h : MemAt w o) (at_ : Nat) (hin : at_ + 8 ≤ o.n) :
  Calls Tryz.prog 47 #[.pointer (some ⟨o.p, 0, none⟩), .int .u64 (at_ : Nat), .int .i64 8] w fun e w' => e = .returned (.tuple #[.int .u64 (loadN o.β at_ 8 : Nat), .int .i64 0]) ∧ w' = w := by
 have hz := h.size
 have hmm := may_k o w h at_ 8 (by omega) (by decide)
 rw [show mayE o.n at_ 8 = 0 by unfold mayE; rw [if_pos (by decide), if_pos (by simpa using hin)]] at hmm
 obtain ⟨b, hb, hr⟩ := h.row.pos (by omega)
 have hc0 := h.c0
 rw [hb, show headOf (some b) = some ⟨b, 0, none⟩ from rfl] at hc0
 have hcap := hr.le
 go_enter Tryz.func47, Tryz.ntmps47
 go_wp2_with (go_at_call 121; (with_reducible refine hmm.mono ?_); rintro e u ⟨rfl, rfl⟩)
 go_loopw [9, 30] (fun xv jv wr => ∃ j : Nat, j ≤ 8 ∧ jv = .int .i64 j ∧ xv = .int .u64 (loadN o.β at_ j : Nat) ∧ wr = u) (fun _ jv _ => 8 - (intOf jv).toNat)
 case atStart => exact ⟨0, Nat.zero_le _, rfl, rfl, rfl⟩
 case round =>
  obtain ⟨j, hj, rfl, rfl, rfl⟩ := hrel
  by_cases hjl : j < 8
  ·have hcell := hr.cell (i := at_ + j) (by omega)
   have hor := or_load o.β at_ j (by omega) (fun i hi => hr.lt _ (by omega))
   go_wp2
   exact ⟨⟨j + 1, by omega, by go_num, rfl, trivial⟩, by simp [intOf]; omega⟩
  ·obtain rfl : j = 8 := by omega
   go_wp2
   go_ret2
   exact ⟨rfl, rfl⟩
theorem mload_at (o : MObj) (w : World) (h : MemAt w o) (at_ : Nat) (m : Int) (hin : at_ + m.toNat ≤ o.n) (hm : szOk m = true) :
  Calls Tryz.prog 47 #[.pointer (some ⟨o.p, 0, none⟩), .int .u64 (at_ : Nat), .int .i64 m] w fun e w' => e = .returned (.tuple #[.int .u64 (loadN o.β at_ m.toNat : Nat), .int .i64 0]) ∧ w' = w := by
 rcases szOk_cases hm with rfl | rfl | rfl | rfl
 ·exact load_1 o w h at_ hin
 ·exact load_2 o w h at_ hin
 ·exact load_4 o w h at_ hin
 ·exact load_8 o w h at_ hin
theorem load_k (o : MObj) (w : World) (h : MemAt w o) (at_ : Nat) (m : Int) (ha : at_ < 18446744073709551616) (hm : -9223372036854775808 ≤ m ∧ m ≤ 9223372036854775807) :
  Calls Tryz.prog 47 #[.pointer (some ⟨o.p, 0, none⟩), .int .u64 (at_ : Nat), .int .i64 m] w fun e w' => e = .returned (.tuple #[.int .u64 (loadX o at_ m : Nat), .int .i64 (mayE o.n at_ m)]) ∧ w' = w := by
 by_cases he : mayE o.n at_ m = 0
 ·unfold loadX
  rw [if_pos he]
  unfold mayE at *
  by_cases hs : szOk m = true
  ·rw [if_pos hs] at he ⊢
   by_cases hin : at_ + m.toNat ≤ o.n
   ·rw [if_pos hin]
    exact mload_at o w h at_ m hin hs
   ·rw [if_neg hin] at he; omega
  ·rw [if_neg hs] at he; omega
 ·have := load_err o w h at_ m ha hm _ rfl (bne_iff_ne.2 he)
  unfold loadX
  rw [if_neg he]
  exact this
end Go.Proofs.YtebpijlmeemfaaaGreatDoor
end
section
namespace Go.Proofs.YtebpijlmeemfaaaGreatDoor
open Go.RowKit Pl
abbrev inV (op a b lo hi : Int) (L : Value) : Value := .agg #[.int .i64 op, .int .i64 a, .int .i64 b, .int .u64 lo, .int .u64 hi, L]
theorem vsize_00 (w : World) : Calls Tryz.prog 46 #[.int .i64 64768] w fun e w' => e = .returned (.int .i64 16) ∧ w' = w := by
 go_enter Tryz.func46, Tryz.ntmps46
 go_wp2
 go_ret
 exact ⟨rfl, rfl⟩
theorem vmay_00 (p : Addr) (a b lo hi at_ : Int) (L : Value) (w : World) (ha : 0 ≤ at_ ∧ at_ < 4294967296) (hb : 0 ≤ b ∧ b < 4294967296)  :
  Calls Tryz.prog 45 #[.pointer (some p), inV 64768 a b lo hi L, .int .u32 at_, .bool false] w fun e w' => e = .returned (.tuple #[.int .u64 (at_ + b), .int .i64 0]) ∧ Below w.heap.size w w' := by
 have HS := Lib.hid (fun W => vsize_00 W)
 go_enter Tryz.func45, Tryz.ntmps45
 go_wp2_with (go_at_call 46; (with_reducible refine (HS.out _).mono ?_); rintro e u ⟨rfl, rfl⟩)
 go_region
 go_wp2_with fail
 go_ret2
 exact ⟨rfl, ((Below.refl _ _).alloc (Nat.le_refl _) _).drew⟩
theorem load_z (o : MObj) (w : World) (h : MemAt w o) (a m : Int) (E : Int) (X : Nat) (ha : 0 ≤ a ∧ a < 18446744073709551616) (hm : -9223372036854775808 ≤ m ∧ m ≤ 9223372036854775807) (hE : mayE o.n a.toNat m = E) (hX : E = 0 → loadN o.β a.toNat m.toNat = X) (hX0 : E ≠ 0 → X = 0) :
  Calls Tryz.prog 47 #[.pointer (some ⟨o.p, 0, none⟩), .int .u64 a, .int .i64 m] w fun e w' => e = .returned (.tuple #[.int .u64 (X : Nat), .int .i64 E]) ∧ w' = w := by
 obtain ⟨k, rfl⟩ := Int.eq_ofNat_of_zero_le ha.1
 have := load_k o w h k m (by omega) hm
 rw [Int.toNat_natCast] at hE hX
 rw [hE] at this
 have e : loadX o k m = X := by
  unfold loadX
  rw [hE]
  by_cases e0 : E = 0
  ·rw [if_pos e0]; exact hX e0
  ·rw [if_neg e0]; exact (hX0 e0).symm
 rw [e] at this
 exact this
set_option maxRecDepth 100000 in
theorem vload_00 (o : MObj) (old : Vec) (a b : Int) (lo : Int) (hi at_ : Int) (L : Value) (A : Nat) (w : World) (h : MemAt w o) (ha : 0 ≤ at_ ∧ at_ < 4294967296) (hb : 0 ≤ b ∧ b < 4294967296) (hA : (A : Int) = at_ + b)  (hin : A + 16 ≤ o.n) :
  Calls Tryz.prog 14 #[.pointer (some ⟨o.p, 0, none⟩), inV 64768 a b lo hi L, .int .u32 at_, .agg (cells old)] w fun e w' => e = .returned (.tuple #[.agg (cells (setN (setN 0 64 0 (loadN o.β A 8)) 64 1 (loadN o.β (A + 8) 8))), .int .i64 0]) ∧ Below w.heap.size w w' := by
 have HM := Lib.hid (fun W => vmay_00 ⟨o.p, 0, none⟩ a b lo hi at_ L W ha hb)
 have HS := Lib.hid (fun W => vsize_00 W)
 go_enter Tryz.func14, Tryz.ntmps14
 go_wp2_with fail
 rw [← cells_zero]
 obtain ⟨W, hW⟩ : ∃ W, W = (((w.alloc (.cells #[.int .i64 64768, .int .i64 a, .int .i64 b, .int .u64 lo, .int .u64 hi, L] 36)).alloc (.cells (cells old) 23)).alloc (.cells (cells 0) 23)) := ⟨_, rfl⟩
 have hI : W.heap[w.heap.size]? = some (.cells #[.int .i64 64768, .int .i64 a, .int .i64 b, .int .u64 lo, .int .u64 hi, L] 36 (0, 0)) := hW ▸ heap_alloc3_0 _ _ _ _
 have hV : W.heap[w.heap.size + 1]? = some (.cells (cells old) 23 (0, 0)) := hW ▸ heap_alloc3_1 _ _ _ _
 have hR : W.heap[w.heap.size + 1 + 1]? = some (.cells (cells 0) 23 (0, 0)) := hW ▸ heap_alloc3_2 _ _ _ _
 have hZ : Below w.heap.size w W := hW ▸ below_alloc3 _ _ _ _
 rw [← hW]
 clear hW
 refine (HM.out _).mono ?_
 rintro e u1 ⟨rfl, hb1⟩
 have hI1 := (hb1.block _ (block_lt hI)).trans hI
 have hV1 := (hb1.block _ (block_lt hV)).trans hV
 have hR1 := (hb1.block _ (block_lt hR)).trans hR
 have c0 : u1.cell? ⟨w.heap.size, 0, none⟩ = some (.int .i64 64768) := by rw [cell_of_row u1 _ 0 _ _ _ hI1]; rfl
 have c3 : u1.cell? ⟨w.heap.size, 3, none⟩ = some (.int .u64 lo) := by rw [cell_of_row u1 _ 3 _ _ _ hI1]; rfl
 have hm := h.below (hZ.trans (hb1.mono hZ.size))
 have hZ1 := hZ.trans (hb1.mono hZ.size)
 clear hI hV hR hb1 hZ h hI1
 go_wp2_with (go_at_call 46; ((with_reducible refine (HS.out _).mono ?_); rintro e u ⟨rfl, rfl⟩))
 refine (load_z o _ hm (at_ + b + 8) 8 0 (loadN o.β (A + 8) 8) (by omega) (by decide) (by unfold mayE; rw [if_pos (by decide), if_pos (by omega)]) (fun _ => by congr 1; omega) (fun h => absurd rfl h)).mono ?_
 rintro e u2 ⟨rfl, rfl⟩
 go_wp2_with fail
 refine (load_z o _ hm (at_ + b) 8 0 (loadN o.β A 8) (by omega) (by decide) (by unfold mayE; rw [if_pos (by decide), if_pos (by omega)]) (fun _ => by congr 1; omega) (fun h => absurd rfl h)).mono ?_
 rintro e u3 ⟨rfl, rfl⟩
 go_wp2_with fail
 refine (join_k _ _ _).mono ?_
 rintro e u4 ⟨rfl, hb4⟩
 replace hR1 := (hb4.block _ (block_lt hR1)).trans hR1
 replace hZ1 := hZ1.trans (hb4.mono hZ1.size)
 go_wp2_with ((with_reducible refine store_vec rfl _ _ rfl (w.heap.size + 1 + 1) _ rfl rfl _ hR1 ?_); intro wq hq)
 exact bodyPost_ret (results_vec_tmp rfl _ _ (w.heap.size + 1 + 1) _ _ rfl rfl hq.this) rfl ⟨rfl, hZ1.trans (hq.below.mono (by omega))⟩
end Go.Proofs.YtebpijlmeemfaaaGreatDoor
end
