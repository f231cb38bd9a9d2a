/-
  Texts MemA, MemB, MemM, MemR, MemE, Vm, MemW, MemRL.
-/
import Derived.Test.YtmfmokblmipagaaGreatR03
import Derived.Test.YtmfmokblmipagaaGreatR07
import Derived.Deep.Cut
import Derived.Deep.RegionLaw
set_option linter.unusedSimpArgs false
set_option linter.unusedVariables false
set_option maxHeartbeats 8000000
open Pl
section
namespace Go.Proofs.YtmfmokblmipagaaGreat
open Go.RowKit Pl
def zerosN (n : Nat) : Array Value := (List.replicate n (Value.int .u8 0)).toArray
theorem size_zerosN (n : Nat) : (zerosN n).size = n := by simp [zerosN]
theorem get_zerosN (n i : Nat) (h : i < n) : (zerosN n)[i]? = some (.int .u8 ((0 : Nat) : Int)) := by simp [zerosN, h]
theorem made_zeros (n : Nat) : madeCells #[.int .u8 0] n = zerosN n := by
 apply Array.ext_getElem?
 intro i
 by_cases h : i < n
 ·rw [get_zerosN n i h]; simp [madeCells, h, Nat.mod_one]
 ·rw [Array.getElem?_eq_none (by simp [size_madeCells]; omega), Array.getElem?_eq_none (by simp [size_zerosN]; omega)]
theorem under_bytes : Tryz.prog.underlying 45 = some (.slice 5) := by kernel_rfl
theorem under_byte : Tryz.prog.underlying 5 = some (.int .u8) := by kernel_rfl
set_option maxRecDepth 100000 in
theorem info_byte : ∃ i, Tryz.prog.info? 5 = some i ∧ i.zero = some (.int .u8 0) ∧ i.size = 1 ∧ i.bytes = 1 := ⟨_, rfl, rfl, rfl, rfl⟩
theorem make_bytes (w : World) (n : Nat) (hn : n ≤ 16777216) : (Instr.makeSlice 45 (.int .i64 (n : Int)) (.int .i64 (n : Int))).run Tryz.prog w =
 .ok (.slice (some ⟨w.heap.size, 0, none⟩) n n) (w.alloc (.cells (zerosN n) 5)) := by
 obtain ⟨i, hi, hz, hs, hb⟩ := info_byte
 have := run_make (P := Tryz.prog) w 45 5 i _ under_bytes hi hz .i64 .i64 n n (by omega) (by omega) (by rw [hb]; omega) (by omega)
 rw [hs] at this
 simp only [Int.toNat_natCast, Nat.mul_one] at this
 rw [this, ← made_zeros]
 rfl
theorem row_new (w : World) (n : Nat) : BytesAt (w.alloc (.cells (zerosN n) 5)) w.heap.size n n (fun _ => 0) :=
 ⟨⟨zerosN n, heap_alloc_new _ _, size_zerosN n, fun i hi => get_zerosN n i hi⟩, fun _ _ => by decide, Nat.le_refl _⟩
def byteRow (m : Nat) (ν : Nat → Nat) : List Value := (List.range m).map fun i => Value.int .u8 (ν i : Nat)
theorem length_byteRow (m : Nat) (ν : Nat → Nat) : (byteRow m ν).length = m := by simp [byteRow]
theorem get_byteRow (m : Nat) (ν : Nat → Nat) (i : Nat) (h : i < m) : (byteRow m ν)[i]? = some (.int .u8 (ν i : Nat)) := by simp [byteRow, h]
def joinB (n : Nat) (β ν : Nat → Nat) : Nat → Nat := fun i => if i < n then β i else ν (i - n)
end Go.Proofs.YtmfmokblmipagaaGreat
end
section
namespace Go.Proofs.YtmfmokblmipagaaGreat
open Go.RowKit Pl
structure BView (w : World) (v : Value) (m : Nat) (ν : Nat → Nat) : Prop where
 ex : ∃ ad c, v = .slice ad m c ∧ (m = 0 ∨ ∃ b off, ad = some ⟨b, off, none⟩ ∧ ∀ j, j < m → w.cell? ⟨b, off + j, none⟩ = some (.int .u8 (ν j : Nat)))
 lt : ∀ j, j < m → ν j < 256
theorem BView.cells {w : World} {b off m : Nat} {ν : Nat → Nat} (h : ∀ j, j < m → w.cell? ⟨b, off + j, none⟩ = some (.int .u8 (ν j : Nat))) : ∀ j u, (byteRow m ν)[j]? = some u → w.cell? ((⟨b, off, none⟩ : Addr).add j) = some u := by
 intro j u hu
 have hj : j < m := by
  rcases Nat.lt_or_ge j m with h1 | h1
  ·exact h1
  ·rw [List.getElem?_eq_none (by rw [length_byteRow]; exact h1)] at hu; cases hu
 rw [get_byteRow _ _ _ hj] at hu
 cases hu
 rw [Addr.add_lit]
 exact h j hj
theorem BView.row {w : World} {q : Option Nat} {n c : Nat} {β : Nat → Nat} (h : RowAt w q n c β) : BView w (.slice (headOf q) n c) n β :=
 ⟨⟨_, _, rfl, by
   cases q with
   | none => exact .inl h.1
   | some b => exact .inr ⟨b, 0, rfl, fun j hj => by rw [Nat.zero_add]; exact BytesAt.cell h hj⟩⟩, h.lt⟩
theorem BView.keep {w w1 : World} {v : Value} {m : Nat} {ν : Nat → Nat} (h : BView w v m ν) {S : Nat → Prop} (k : Keep S w w1) (hn : ∀ ad n c, v = .slice (some ad) n c → ¬ S ad.block) : BView w1 v m ν := by
 obtain ⟨ad, c, rfl, h0 | ⟨b, off, rfl, hc⟩⟩ := h.ex
 ·exact ⟨⟨ad, c, rfl, .inl h0⟩, h.lt⟩
 ·refine ⟨⟨_, c, rfl, .inr ⟨b, off, rfl, fun j hj => ?_⟩⟩, h.lt⟩
  have h1 := hc j hj
  have hb : b < w.heap.size := by
   rcases Nat.lt_or_ge b w.heap.size with h2 | h2
   ·exact h2
   ·rw [World.cell?, show w.heap[b]? = none from Array.getElem?_eq_none h2] at h1; cases h1
  rw [← h1]
  unfold World.cell?
  rw [k.block b hb (hn _ _ _ rfl)]
theorem BView.below {w w1 : World} {v : Value} {m : Nat} {ν : Nat → Nat} (h : BView w v m ν) (k : Below w.heap.size w w1) : BView w1 v m ν := h.keep (S := fun _ => False) (Keep.of_below k) (fun _ _ _ _ h => h)
theorem BView.congr {w : World} {v : Value} {m : Nat} {ν μ : Nat → Nat} (h : BView w v m ν) (e : ∀ j, j < m → μ j = ν j) : BView w v m μ := by
 obtain ⟨ad, c, rfl, h0 | ⟨b, off, rfl, hc⟩⟩ := h.ex
 ·exact ⟨⟨ad, c, rfl, .inl h0⟩, fun j hj => by omega⟩
 ·exact ⟨⟨_, c, rfl, .inr ⟨b, off, rfl, fun j hj => by rw [e j hj]; exact hc j hj⟩⟩, fun j hj => by rw [e j hj]; exact h.lt j hj⟩
structure Fresh (w w1 : World) (o : MObj) (T : TypeId) (n : Nat) (β : Nat → Nat) (most : Int) : Prop where
 mem : MemAt w1 o
 bel : Below w.heap.size w w1
 new : ∀ k, o.has k → w.heap.size ≤ k
 hT : o.T = T
 hn : o.n = n
 hβ : ∀ i, i < n → o.β i = β i
 hmost : o.most = most
theorem fresh_new (w : World) (T : TypeId) (n k : Nat) (most : Int) (hn : n = 65536 * k) (hk : k ≤ 16) (hm : -1 ≤ most ∧ most ≤ 9223372036854775807) :
 Fresh w ((w.alloc (.cells (zerosN n) 5)).alloc (.cells #[.slice (some ⟨w.heap.size, 0, none⟩) n n, .int .i64 most] T)) ⟨T, w.heap.size + 1, some w.heap.size, n, n, fun _ => 0, most⟩ T n (fun _ => 0) most := by
 refine ⟨⟨?_, ?_, ⟨k, hk, hn⟩, hm, ?_⟩, ?_, ?_, rfl, rfl, fun _ _ => rfl, rfl⟩
 ·have := heap_alloc_new (w.alloc (.cells (zerosN n) 5)) (.cells #[.slice (some ⟨w.heap.size, 0, none⟩) n n, .int .i64 most] T)
  simpa [headOf] using this
 ·exact BytesAt.keep (row_new w n) ((Keep.refl (fun _ => False) _).alloc _) (fun h => h)
 ·simp
 ·exact ((Below.refl _ _).alloc (Nat.le_refl _) _).alloc (by simp) _
 ·rintro k (rfl | h)
  ·exact Nat.le_succ _
  ·cases h; exact Nat.le_refl _
structure Peeked (w w1 : World) (v : Value) (m : Nat) (ν : Nat → Nat) : Prop where
 ex : ∃ q c, v = .slice (headOf q) m c ∧ RowAt w1 q m c ν ∧ ∀ b, q = some b → w.heap.size ≤ b
 bel : Below w.heap.size w w1
theorem Peeked.nil (w : World) (ν : Nat → Nat) : Peeked w w (.slice none 0 0) 0 ν := ⟨⟨none, 0, rfl, ⟨rfl, rfl⟩, fun b hb => by cases hb⟩, Below.refl _ _⟩
def grownO (o : MObj) (q1 : Option Nat) (c1 x : Nat) : MObj := { o with q := q1, n := o.n + 65536 * x, c := c1, β := joinB o.n o.β (fun _ => 0) }
end Go.Proofs.YtmfmokblmipagaaGreat
end
section
namespace Go.Proofs.YtmfmokblmipagaaGreat
open Go.RowKit Pl
structure MS (w0 : World) (l : List MObj) (u : World) : Prop where
 bel : Below w0.heap.size w0 u
 mem : ∀ o ∈ l, MemAt u o
 new : ∀ o ∈ l, ∀ k, o.has k → w0.heap.size ≤ k
 nd : ∀ (i j : Nat) (a b : MObj), l[i]? = some a → l[j]? = some b → i ≠ j → ∀ k, a.has k → ¬ b.has k
theorem MS.start (w : World) : MS w [] w := ⟨Below.refl _ _, fun _ h => (by cases h), fun _ h => (by cases h), fun i j a b h => (by simp at h)⟩
theorem MemAt.has_lt {w : World} {o : MObj} (h : MemAt w o) {k : Nat} (hk : o.has k) : k < w.heap.size := by
 rcases hk with rfl | hk
 ·exact block_lt h.obj
 ·have := h.row
  rw [hk] at this
  exact BytesAt.block this
theorem MS.below {w0 u u1 : World} {l : List MObj} (h : MS w0 l u) (hb : Below u.heap.size u u1) : MS w0 l u1 :=
 ⟨Below.trans h.bel (hb.mono h.bel.size), fun o ho => (h.mem o ho).below hb, h.new, h.nd⟩
theorem MS.upd {w0 u u1 : World} {l : List MObj} (h : MS w0 l u) (i : Nat) {o o1 : MObj} (hi : l[i]? = some o) {S : Nat → Prop} (hk : Keep S u u1) (hS : ∀ k, S k → o.has k) (hm : MemAt u1 o1) (hn : ∀ k, o1.has k → o.has k ∨ u.heap.size ≤ k) : MS w0 (l.set i o1) u1 := by
 have ho := List.mem_of_getElem? hi
 have hil : i < l.length := by
  rcases Nat.lt_or_ge i l.length with h1 | h1
  ·exact h1
  ·rw [List.getElem?_eq_none h1] at hi; cases hi
 have key : ∀ j a, (l.set i o1)[j]? = some a → (j = i ∧ a = o1) ∨ (j ≠ i ∧ l[j]? = some a) := by
  intro j a hj
  rw [List.getElem?_set] at hj
  by_cases e : i = j
  ·subst e
   rw [if_pos rfl, if_pos hil] at hj
   exact .inl ⟨rfl, (Option.some.inj hj).symm⟩
  ·rw [if_neg e] at hj
   exact .inr ⟨fun e1 => e e1.symm, hj⟩
 have hS0 : ∀ k, S k → w0.heap.size ≤ k := fun k hk => h.new o ho k (hS k hk)
 refine ⟨Keep.below h.bel hk h.bel.size hS0, fun a ha => ?_, fun a ha k hk1 => ?_, fun j1 j2 a b ha hb hij k hk1 hk2 => ?_⟩
 ·obtain ⟨j, hj⟩ := List.mem_iff_getElem?.1 ha
  rcases key j a hj with ⟨_, rfl⟩ | ⟨hne, hj2⟩
  ·exact hm
  ·exact (h.mem a (List.mem_of_getElem? hj2)).keep hk (fun k hk1 hk2 => h.nd j i a o hj2 hi hne k hk1 (hS k hk2))
 ·obtain ⟨j, hj⟩ := List.mem_iff_getElem?.1 ha
  rcases key j a hj with ⟨_, rfl⟩ | ⟨hne, hj2⟩
  ·rcases hn k hk1 with h1 | h1
   ·exact h.new o ho k h1
   ·exact Nat.le_trans h.bel.size h1
  ·exact h.new a (List.mem_of_getElem? hj2) k hk1
 ·rcases key j1 a ha with ⟨rfl, rfl⟩ | ⟨hne1, h1⟩
  ·rcases key j2 b hb with ⟨rfl, _⟩ | ⟨hne2, h2⟩
   ·exact hij rfl
   ·rcases hn k hk1 with h3 | h3
    ·exact h.nd _ _ o b hi h2 (fun e => hne2 e.symm) k h3 hk2
    ·have := (h.mem b (List.mem_of_getElem? h2)).has_lt hk2
     omega
  ·rcases key j2 b hb with ⟨rfl, rfl⟩ | ⟨hne2, h2⟩
   ·rcases hn k hk2 with h3 | h3
    ·exact h.nd _ _ a o h1 hi hne1 k hk1 h3
    ·have := (h.mem a (List.mem_of_getElem? h1)).has_lt hk1
     omega
   ·exact h.nd _ _ a b h1 h2 hij k hk1 hk2
theorem MS.get {w0 u : World} {l : List MObj} (h : MS w0 l u) (i : Nat) {o : MObj} (hi : l[i]? = some o) : MemAt u o := h.mem o (List.mem_of_getElem? hi)
theorem MS.grown {w0 u u1 : World} {l : List MObj} (h : MS w0 l u) (i : Nat) {o : MObj} (hi : l[i]? = some o) {q1 : Option Nat} {c1 x : Nat} (hm : MemAt u1 (grownO o q1 c1 x)) (hk : Keep o.has u u1) (hn : q1 = o.q ∨ ∃ b, q1 = some b ∧ u.heap.size ≤ b) : MS w0 (l.set i (grownO o q1 c1 x)) u1 :=
 h.upd i hi hk (fun k hk => hk) hm (fun k hk => by
  rcases hk with rfl | hk
  ·exact .inl (.inl rfl)
  ·rcases hn with e | ⟨b, e, hb⟩
   ·exact .inl (.inr (e ▸ hk))
   ·right
    have : some b = some k := by rw [← e]; exact hk
    cases this
    exact hb)
end Go.Proofs.YtmfmokblmipagaaGreat
end
section
namespace Go.Proofs.YtmfmokblmipagaaGreat
open Go.RowKit Pl
set_option maxRecDepth 100000 in
theorem rnew_ok (k : Nat) (most : Int) (w : World) (hk : k ≤ 16) (hm : most = -1 ∨ (k : Int) ≤ most ∧ most ≤ 9223372036854775807) :
 Calls Tryz.prog 14 #[.int .i64 (k : Int), .int .i64 most] w fun e w' => ∃ o, e = .returned (.tuple #[.pointer (some ⟨o.p, 0, none⟩), .int .i64 0]) ∧ Fresh w w' o 47 (65536 * k) (fun _ => 0) most := by
 obtain ⟨n, hn⟩ : ∃ n, n = k * 65536 := ⟨_, rfl⟩
 have hmk := make_bytes w n (by omega)
 have hkn : (k : Int) * 65536 = (n : Int) := by omega
 have hfr := fun m h => fresh_new w 47 n k m (by omega) hk h
 have hfr' := Lib.hid hfr
 rw [show 65536 * k = n by omega]
 clear hn hfr
 rcases hm with rfl | ⟨h1, h2⟩
 ·go_enter Tryz.func14, Tryz.ntmps14
  go_wp2
  go_ret2
  exact ⟨_, rfl, hfr'.out _ (by decide)⟩
 ·go_enter Tryz.func14, Tryz.ntmps14
  go_wp2
  go_ret2
  exact ⟨_, rfl, hfr'.out _ (by omega)⟩
end Go.Proofs.YtmfmokblmipagaaGreat
end
section
namespace Go.Proofs.YtmfmokblmipagaaGreat
open Go.RowKit Pl
def strB (m : Nat) (ν : Nat → Nat) : ByteArray := strOfNums ((List.range m).map fun i => ((ν i : Nat) : Int))
theorem conv_bytes {w : World} {v : Value} {m : Nat} {ν : Nat → Nat} (h : BView w v m ν) : (convert 45 9 v).run Tryz.prog w = .ok (.string (strB m ν)) w := by
 have hd : Tryz.prog.underlying 9 = some .string := by kernel_rfl
 obtain ⟨ad, c, rfl, h0 | ⟨b, off, rfl, hc⟩⟩ := h.ex
 ·subst h0
  cases ad with
  | none =>
    rw [run_convert_bytes_nil w 45 5 under_bytes under_byte 0 c _ hd]
    rfl
  | some a =>
    have e := run_loadCells_list (P := Tryz.prog) w a [] (by simp)
    rw [run_convert_bytes_string w 45 9 5 _ 0 c under_bytes under_byte hd, run_bytesToString w a 0 c [] (by simpa using e)]
    rfl
 ·exact run_convert_bytes_arg w 45 5 under_bytes under_byte b off m c _ (by simp) (fun i hi => by rw [hc i hi]; simp [hi]) _ hd
end Go.Proofs.YtmfmokblmipagaaGreat
end
section
namespace Go.Proofs.YtmfmokblmipagaaGreat
open Go.RowKit Pl
abbrev inV (op a b lo hi : Int) (L : Value) : Value := .agg #[.int .i64 op, .int .i64 a, .int .i64 b, .int .u64 lo, .int .u64 hi, L]
theorem vsize_00 (w : World) : Calls Tryz.prog 13 #[.int .i64 64768] w fun e w' => e = .returned (.int .i64 16) ∧ w' = w := by
 go_enter Tryz.func13, Tryz.ntmps13
 go_wp2
 go_ret
 exact ⟨rfl, rfl⟩
theorem vsize_01 (w : World) : Calls Tryz.prog 13 #[.int .i64 64769] w fun e w' => e = .returned (.int .i64 8) ∧ w' = w := by
 go_enter Tryz.func13, Tryz.ntmps13
 go_wp2
 go_ret
 exact ⟨rfl, rfl⟩
theorem vsize_02 (w : World) : Calls Tryz.prog 13 #[.int .i64 64770] w fun e w' => e = .returned (.int .i64 8) ∧ w' = w := by
 go_enter Tryz.func13, Tryz.ntmps13
 go_wp2
 go_ret
 exact ⟨rfl, rfl⟩
theorem vsize_03 (w : World) : Calls Tryz.prog 13 #[.int .i64 64771] w fun e w' => e = .returned (.int .i64 8) ∧ w' = w := by
 go_enter Tryz.func13, Tryz.ntmps13
 go_wp2
 go_ret
 exact ⟨rfl, rfl⟩
theorem vsize_04 (w : World) : Calls Tryz.prog 13 #[.int .i64 64772] w fun e w' => e = .returned (.int .i64 8) ∧ w' = w := by
 go_enter Tryz.func13, Tryz.ntmps13
 go_wp2
 go_ret
 exact ⟨rfl, rfl⟩
theorem vsize_05 (w : World) : Calls Tryz.prog 13 #[.int .i64 64773] w fun e w' => e = .returned (.int .i64 8) ∧ w' = w := by
 go_enter Tryz.func13, Tryz.ntmps13
 go_wp2
 go_ret
 exact ⟨rfl, rfl⟩
theorem vsize_06 (w : World) : Calls Tryz.prog 13 #[.int .i64 64774] w fun e w' => e = .returned (.int .i64 8) ∧ w' = w := by
 go_enter Tryz.func13, Tryz.ntmps13
 go_wp2
 go_ret
 exact ⟨rfl, rfl⟩
theorem vsize_07 (w : World) : Calls Tryz.prog 13 #[.int .i64 64775] w fun e w' => e = .returned (.int .i64 1) ∧ w' = w := by
 go_enter Tryz.func13, Tryz.ntmps13
 go_wp2
 go_ret
 exact ⟨rfl, rfl⟩
theorem vsize_08 (w : World) : Calls Tryz.prog 13 #[.int .i64 64776] w fun e w' => e = .returned (.int .i64 2) ∧ w' = w := by
 go_enter Tryz.func13, Tryz.ntmps13
 go_wp2
 go_ret
 exact ⟨rfl, rfl⟩
theorem vsize_09 (w : World) : Calls Tryz.prog 13 #[.int .i64 64777] w fun e w' => e = .returned (.int .i64 4) ∧ w' = w := by
 go_enter Tryz.func13, Tryz.ntmps13
 go_wp2
 go_ret
 exact ⟨rfl, rfl⟩
theorem vsize_0a (w : World) : Calls Tryz.prog 13 #[.int .i64 64778] w fun e w' => e = .returned (.int .i64 8) ∧ w' = w := by
 go_enter Tryz.func13, Tryz.ntmps13
 go_wp2
 go_ret
 exact ⟨rfl, rfl⟩
theorem vsize_0b (w : World) : Calls Tryz.prog 13 #[.int .i64 64779] w fun e w' => e = .returned (.int .i64 16) ∧ w' = w := by
 go_enter Tryz.func13, Tryz.ntmps13
 go_wp2
 go_ret
 exact ⟨rfl, rfl⟩
theorem vsize_54 (w : World) : Calls Tryz.prog 13 #[.int .i64 64852] w fun e w' => e = .returned (.int .i64 1) ∧ w' = w := by
 go_enter Tryz.func13, Tryz.ntmps13
 go_wp2
 go_ret
 exact ⟨rfl, rfl⟩
theorem vsize_55 (w : World) : Calls Tryz.prog 13 #[.int .i64 64853] w fun e w' => e = .returned (.int .i64 2) ∧ w' = w := by
 go_enter Tryz.func13, Tryz.ntmps13
 go_wp2
 go_ret
 exact ⟨rfl, rfl⟩
theorem vsize_56 (w : World) : Calls Tryz.prog 13 #[.int .i64 64854] w fun e w' => e = .returned (.int .i64 4) ∧ w' = w := by
 go_enter Tryz.func13, Tryz.ntmps13
 go_wp2
 go_ret
 exact ⟨rfl, rfl⟩
theorem vsize_57 (w : World) : Calls Tryz.prog 13 #[.int .i64 64855] w fun e w' => e = .returned (.int .i64 8) ∧ w' = w := by
 go_enter Tryz.func13, Tryz.ntmps13
 go_wp2
 go_ret
 exact ⟨rfl, rfl⟩
theorem vsize_58 (w : World) : Calls Tryz.prog 13 #[.int .i64 64856] w fun e w' => e = .returned (.int .i64 1) ∧ w' = w := by
 go_enter Tryz.func13, Tryz.ntmps13
 go_wp2
 go_ret
 exact ⟨rfl, rfl⟩
theorem vsize_59 (w : World) : Calls Tryz.prog 13 #[.int .i64 64857] w fun e w' => e = .returned (.int .i64 2) ∧ w' = w := by
 go_enter Tryz.func13, Tryz.ntmps13
 go_wp2
 go_ret
 exact ⟨rfl, rfl⟩
theorem vsize_5a (w : World) : Calls Tryz.prog 13 #[.int .i64 64858] w fun e w' => e = .returned (.int .i64 4) ∧ w' = w := by
 go_enter Tryz.func13, Tryz.ntmps13
 go_wp2
 go_ret
 exact ⟨rfl, rfl⟩
theorem vsize_5b (w : World) : Calls Tryz.prog 13 #[.int .i64 64859] w fun e w' => e = .returned (.int .i64 8) ∧ w' = w := by
 go_enter Tryz.func13, Tryz.ntmps13
 go_wp2
 go_ret
 exact ⟨rfl, rfl⟩
theorem vsize_5c (w : World) : Calls Tryz.prog 13 #[.int .i64 64860] w fun e w' => e = .returned (.int .i64 4) ∧ w' = w := by
 go_enter Tryz.func13, Tryz.ntmps13
 go_wp2
 go_ret
 exact ⟨rfl, rfl⟩
theorem vsize_5d (w : World) : Calls Tryz.prog 13 #[.int .i64 64861] w fun e w' => e = .returned (.int .i64 8) ∧ w' = w := by
 go_enter Tryz.func13, Tryz.ntmps13
 go_wp2
 go_ret
 exact ⟨rfl, rfl⟩
end Go.Proofs.YtmfmokblmipagaaGreat
end
section
namespace Go.Proofs.YtmfmokblmipagaaGreat
open Go.RowKit Pl
theorem storeN_get (β : Nat → Nat) (s x : Nat) : ∀ (n k : Nat), storeN β s x n k = if s ≤ k ∧ k < s + n then x / 2 ^ (8 * (k - s)) % 256 else β k
 | 0, k => by rw [if_neg (by omega)]; rfl
 | n + 1, k => by
   show upd (storeN β s x n) (s + n) _ k = _
   unfold upd
   by_cases e : k = s + n
   ·subst e
    rw [if_pos rfl, if_pos (by omega), Nat.add_sub_cancel_left]
   ·rw [if_neg e, storeN_get β s x n k]
    by_cases h : s ≤ k ∧ k < s + n
    ·rw [if_pos h, if_pos (by omega)]
    ·rw [if_neg h, if_neg (by omega)]
end Go.Proofs.YtmfmokblmipagaaGreat
end
section
namespace Go.Proofs.YtmfmokblmipagaaGreat
open Go.RowKit Pl
theorem not_dec {p : Prop} [Decidable p] (h : ¬ p) : (!decide p) = true := by rw [decide_eq_false h]; rfl
theorem rfar_k (o : MObj) (w : World) (h : MemAt w o) (at_ m : Nat) (ha : at_ < 18446744073709551616) (hm : m ≤ 9223372036854775807) :
 Calls Tryz.prog 131 #[.pointer (some ⟨o.p, 0, none⟩), .int .u64 (at_ : Nat), .int .i64 (m : Nat)] w fun e w' => e = .returned (.bool (!decide (at_ + m ≤ o.n))) ∧ w' = w := by
 have hc0 := h.c0
 have hz := h.size
 by_cases c1 : o.n < at_
 ·rw [decide_eq_false (by omega)]
  go_enter Tryz.func131, Tryz.ntmps131
  go_wp2
  go_ret
  exact ⟨rfl, rfl⟩
 ·by_cases c2 : o.n - at_ < m
  ·rw [decide_eq_false (by omega)]
   have c3 : (o.n : Int) - at_ < m := by omega
   go_enter Tryz.func131, Tryz.ntmps131
   go_wp2
   go_ret
   exact ⟨rfl, rfl⟩
  ·rw [decide_eq_true (by omega)]
   have c3 : ¬ (o.n : Int) - at_ < m := by omega
   go_enter Tryz.func131, Tryz.ntmps131
   go_wp2
   go_ret
   exact ⟨rfl, rfl⟩
theorem rfar_z (o : MObj) (w : World) (h : MemAt w o) (at_ : Nat) (m : Int) (b : Bool) (ha : at_ < 18446744073709551616) (h0 : 0 ≤ m) (hm : m ≤ 9223372036854775807) (hb : (!decide (at_ + m.toNat ≤ o.n)) = b) :
 Calls Tryz.prog 131 #[.pointer (some ⟨o.p, 0, none⟩), .int .u64 (at_ : Nat), .int .i64 m] w fun e w' => e = .returned (.bool b) ∧ w' = w := by
 obtain ⟨k, rfl⟩ := Int.eq_ofNat_of_zero_le h0
 rw [← hb]
 exact rfar_k o w h at_ k ha (by omega)
theorem loadN_low (β : Nat → Nat) (s : Nat) : ∀ k, loadN β s (k + 1) = loadN β (s + 1) k * 256 + β s
 | 0 => by simp [loadN]
 | k + 1 => by
   rw [loadN, loadN_low β s k, loadN, show 8 * (k + 1) = 8 * k + 8 by omega, Nat.pow_add, show s + (k + 1) = s + 1 + k by omega, Nat.add_mul, ← Nat.mul_assoc, show (2 : Nat) ^ 8 = 256 from rfl]
   omega
theorem rload_err (o : MObj) (w : World) (h : MemAt w o) (at_ : Nat) (m : Int) (ha : at_ < 18446744073709551616) (hm : -9223372036854775808 ≤ m ∧ m ≤ 9223372036854775807) (E : Int) (he : mayE o.n at_ m = E) (hE : (E != 0) = true) :
 Calls Tryz.prog 121 #[.pointer (some ⟨o.p, 0, none⟩), .int .u64 (at_ : Nat), .int .i64 m] w fun e w' => e = .returned (.tuple #[.int .u64 0, .int .i64 E]) ∧ w' = w := by
 unfold mayE at he
 by_cases hs : szOk m = true
 ·rw [if_pos hs] at he
  by_cases hin : at_ + m.toNat ≤ o.n
  ·rw [if_pos hin] at he; subst he; simp at hE
  ·rw [if_neg hin] at he
   subst he
   rcases szOk_cases hs with rfl | rfl | rfl | rfl
   all_goals
    have hw := rfar_z o w h at_ _ true ha (by decide) (by decide) (not_dec hin)
    clear hin h hs hE
    go_enter Tryz.func121, Tryz.ntmps121
    go_wp2_with (go_at_call 131; (with_reducible refine hw.mono ?_); rintro e u ⟨rfl, rfl⟩)
    go_ret2
    exact ⟨rfl, rfl⟩
 ·rw [if_neg hs] at he
  subst he
  obtain ⟨h1, h2, h3, h4⟩ := szOk_not hs
  clear hs h hE
  go_enter Tryz.func121, Tryz.ntmps121
  go_wp2
  go_ret2
  exact ⟨rfl, rfl⟩
theorem rload_1 (o : MObj) (w : World) (h : MemAt w o) (at_ : Nat) (hin : at_ + 1 ≤ o.n) :
 Calls Tryz.prog 121 #[.pointer (some ⟨o.p, 0, none⟩), .int .u64 (at_ : Nat), .int .i64 1] w fun e w' => e = .returned (.tuple #[.int .u64 (loadN o.β at_ 1 : Nat), .int .i64 0]) ∧ w' = w := by
 have hz := h.size
 have hw := rfar_z o w h at_ 1 false (by omega) (by decide) (by decide) (by rw [decide_eq_true (by simpa using hin)]; rfl)
 obtain ⟨b, hb, hr⟩ := h.row.pos (by omega)
 have hc0 := h.c0
 rw [hb, show headOf (some b) = some ⟨b, 0, none⟩ from rfl] at hc0
 have hcap := hr.le
 go_enter Tryz.func121, Tryz.ntmps121
 go_wp2_with (go_at_call 131; (with_reducible refine hw.mono ?_); rintro e u ⟨rfl, rfl⟩)
 go_loopw [8, 9] (fun xv iv wr => ∃ (j : Nat) (z : Int), j ≤ 1 ∧ z = (j : Int) - 1 ∧ iv = .int .i64 z ∧ xv = .int .u64 (loadN o.β (at_ + j) (1 - j) : Nat) ∧ wr = u) (fun _ iv _ => (intOf iv + 1).toNat)
 case atStart => exact ⟨1, 1 - 1, Nat.le_refl _, rfl, rfl, rfl, rfl⟩
 case round =>
  obtain ⟨j, z, hj, hz, rfl, rfl, rfl⟩ := hrel
  rcases j with _ | i
  ·obtain rfl : z = -1 := by omega
   clear hz
   go_wp2
   go_ret2
   exact ⟨rfl, rfl⟩
  ·obtain rfl : z = (i : Int) := by omega
   clear hz
   have hcell := hr.cell (i := at_ + i) (by omega)
   have hlt := hr.lt (at_ + i) (by omega)
   have hlow := loadN_low o.β (at_ + i) (1 - (i + 1))
   rw [show 1 - (i + 1) + 1 = 1 - i by omega, show at_ + i + 1 = at_ + (i + 1) by omega] at hlow
   have hX := loadN_lt o.β (at_ + (i + 1)) (1 - (i + 1)) (fun k hk => hr.lt _ (by omega))
   have hX2 : loadN o.β (at_ + (i + 1)) (1 - (i + 1)) < 72057594037927936 := Nat.lt_of_lt_of_le hX (by
    have := Nat.pow_le_pow_right (show 0 < 2 by decide) (show 8 * (1 - (i + 1)) ≤ 56 by omega)
    exact Nat.le_trans this (by decide))
   clear hX
   generalize loadN o.β (at_ + (i + 1)) (1 - (i + 1)) = X at *
   have HL := Lib.hid hlow
   clear hlow
   go_wp2
   exact ⟨⟨i, _, by omega, rfl, rfl, by rw [HL.out]; simp, trivial⟩, by (simp [intOf] <;> omega)⟩
theorem rload_2 (o : MObj) (w : World) (h : MemAt w o) (at_ : Nat) (hin : at_ + 2 ≤ o.n) :
 Calls Tryz.prog 121 #[.pointer (some ⟨o.p, 0, none⟩), .int .u64 (at_ : Nat), .int .i64 2] w fun e w' => e = .returned (.tuple #[.int .u64 (loadN o.β at_ 2 : Nat), .int .i64 0]) ∧ w' = w := by
 have hz := h.size
 have hw := rfar_z o w h at_ 2 false (by omega) (by decide) (by decide) (by rw [decide_eq_true (by simpa using hin)]; rfl)
 obtain ⟨b, hb, hr⟩ := h.row.pos (by omega)
 have hc0 := h.c0
 rw [hb, show headOf (some b) = some ⟨b, 0, none⟩ from rfl] at hc0
 have hcap := hr.le
 go_enter Tryz.func121, Tryz.ntmps121
 go_wp2_with (go_at_call 131; (with_reducible refine hw.mono ?_); rintro e u ⟨rfl, rfl⟩)
 go_loopw [8, 9] (fun xv iv wr => ∃ (j : Nat) (z : Int), j ≤ 2 ∧ z = (j : Int) - 1 ∧ iv = .int .i64 z ∧ xv = .int .u64 (loadN o.β (at_ + j) (2 - j) : Nat) ∧ wr = u) (fun _ iv _ => (intOf iv + 1).toNat)
 case atStart => exact ⟨2, 2 - 1, Nat.le_refl _, rfl, rfl, rfl, rfl⟩
 case round =>
  obtain ⟨j, z, hj, hz, rfl, rfl, rfl⟩ := hrel
  rcases j with _ | i
  ·obtain rfl : z = -1 := by omega
   clear hz
   go_wp2
   go_ret2
   exact ⟨rfl, rfl⟩
  ·obtain rfl : z = (i : Int) := by omega
   clear hz
   have hcell := hr.cell (i := at_ + i) (by omega)
   have hlt := hr.lt (at_ + i) (by omega)
   have hlow := loadN_low o.β (at_ + i) (2 - (i + 1))
   rw [show 2 - (i + 1) + 1 = 2 - i by omega, show at_ + i + 1 = at_ + (i + 1) by omega] at hlow
   have hX := loadN_lt o.β (at_ + (i + 1)) (2 - (i + 1)) (fun k hk => hr.lt _ (by omega))
   have hX2 : loadN o.β (at_ + (i + 1)) (2 - (i + 1)) < 72057594037927936 := Nat.lt_of_lt_of_le hX (by
    have := Nat.pow_le_pow_right (show 0 < 2 by decide) (show 8 * (2 - (i + 1)) ≤ 56 by omega)
    exact Nat.le_trans this (by decide))
   clear hX
   generalize loadN o.β (at_ + (i + 1)) (2 - (i + 1)) = X at *
   have HL := Lib.hid hlow
   clear hlow
   go_wp2
   exact ⟨⟨i, _, by omega, rfl, rfl, by rw [HL.out]; simp, trivial⟩, by (simp [intOf] <;> omega)⟩
theorem rload_4 (o : MObj) (w : World) (h : MemAt w o) (at_ : Nat) (hin : at_ + 4 ≤ o.n) :
 Calls Tryz.prog 121 #[.pointer (some ⟨o.p, 0, none⟩), .int .u64 (at_ : Nat), .int .i64 4] w fun e w' => e = .returned (.tuple #[.int .u64 (loadN o.β at_ 4 : Nat), .int .i64 0]) ∧ w' = w := by
 have hz := h.size
 have hw := rfar_z o w h at_ 4 false (by omega) (by decide) (by decide) (by rw [decide_eq_true (by simpa using hin)]; rfl)
 obtain ⟨b, hb, hr⟩ := h.row.pos (by omega)
 have hc0 := h.c0
 rw [hb, show headOf (some b) = some ⟨b, 0, none⟩ from rfl] at hc0
 have hcap := hr.le
 go_enter Tryz.func121, Tryz.ntmps121
 go_wp2_with (go_at_call 131; (with_reducible refine hw.mono ?_); rintro e u ⟨rfl, rfl⟩)
 go_loopw [8, 9] (fun xv iv wr => ∃ (j : Nat) (z : Int), j ≤ 4 ∧ z = (j : Int) - 1 ∧ iv = .int .i64 z ∧ xv = .int .u64 (loadN o.β (at_ + j) (4 - j) : Nat) ∧ wr = u) (fun _ iv _ => (intOf iv + 1).toNat)
 case atStart => exact ⟨4, 4 - 1, Nat.le_refl _, rfl, rfl, rfl, rfl⟩
 case round =>
  obtain ⟨j, z, hj, hz, rfl, rfl, rfl⟩ := hrel
  rcases j with _ | i
  ·obtain rfl : z = -1 := by omega
   clear hz
   go_wp2
   go_ret2
   exact ⟨rfl, rfl⟩
  ·obtain rfl : z = (i : Int) := by omega
   clear hz
   have hcell := hr.cell (i := at_ + i) (by omega)
   have hlt := hr.lt (at_ + i) (by omega)
   have hlow := loadN_low o.β (at_ + i) (4 - (i + 1))
   rw [show 4 - (i + 1) + 1 = 4 - i by omega, show at_ + i + 1 = at_ + (i + 1) by omega] at hlow
   have hX := loadN_lt o.β (at_ + (i + 1)) (4 - (i + 1)) (fun k hk => hr.lt _ (by omega))
   have hX2 : loadN o.β (at_ + (i + 1)) (4 - (i + 1)) < 72057594037927936 := Nat.lt_of_lt_of_le hX (by
    have := Nat.pow_le_pow_right (show 0 < 2 by decide) (show 8 * (4 - (i + 1)) ≤ 56 by omega)
    exact Nat.le_trans this (by decide))
   clear hX
   generalize loadN o.β (at_ + (i + 1)) (4 - (i + 1)) = X at *
   have HL := Lib.hid hlow
   clear hlow
   go_wp2
   exact ⟨⟨i, _, by omega, rfl, rfl, by rw [HL.out]; simp, trivial⟩, by (simp [intOf] <;> omega)⟩
theorem rload_8 (o : MObj) (w : World) (h : MemAt w o) (at_ : Nat) (hin : at_ + 8 ≤ o.n) :
 Calls Tryz.prog 121 #[.pointer (some ⟨o.p, 0, none⟩), .int .u64 (at_ : Nat), .int .i64 8] w fun e w' => e = .returned (.tuple #[.int .u64 (loadN o.β at_ 8 : Nat), .int .i64 0]) ∧ w' = w := by
 have hz := h.size
 have hw := rfar_z o w h at_ 8 false (by omega) (by decide) (by decide) (by rw [decide_eq_true (by simpa using hin)]; rfl)
 obtain ⟨b, hb, hr⟩ := h.row.pos (by omega)
 have hc0 := h.c0
 rw [hb, show headOf (some b) = some ⟨b, 0, none⟩ from rfl] at hc0
 have hcap := hr.le
 go_enter Tryz.func121, Tryz.ntmps121
 go_wp2_with (go_at_call 131; (with_reducible refine hw.mono ?_); rintro e u ⟨rfl, rfl⟩)
 go_loopw [8, 9] (fun xv iv wr => ∃ (j : Nat) (z : Int), j ≤ 8 ∧ z = (j : Int) - 1 ∧ iv = .int .i64 z ∧ xv = .int .u64 (loadN o.β (at_ + j) (8 - j) : Nat) ∧ wr = u) (fun _ iv _ => (intOf iv + 1).toNat)
 case atStart => exact ⟨8, 8 - 1, Nat.le_refl _, rfl, rfl, rfl, rfl⟩
 case round =>
  obtain ⟨j, z, hj, hz, rfl, rfl, rfl⟩ := hrel
  rcases j with _ | i
  ·obtain rfl : z = -1 := by omega
   clear hz
   go_wp2
   go_ret2
   exact ⟨rfl, rfl⟩
  ·obtain rfl : z = (i : Int) := by omega
   clear hz
   have hcell := hr.cell (i := at_ + i) (by omega)
   have hlt := hr.lt (at_ + i) (by omega)
   have hlow := loadN_low o.β (at_ + i) (8 - (i + 1))
   rw [show 8 - (i + 1) + 1 = 8 - i by omega, show at_ + i + 1 = at_ + (i + 1) by omega] at hlow
   have hX := loadN_lt o.β (at_ + (i + 1)) (8 - (i + 1)) (fun k hk => hr.lt _ (by omega))
   have hX2 : loadN o.β (at_ + (i + 1)) (8 - (i + 1)) < 72057594037927936 := Nat.lt_of_lt_of_le hX (by
    have := Nat.pow_le_pow_right (show 0 < 2 by decide) (show 8 * (8 - (i + 1)) ≤ 56 by omega)
    exact Nat.le_trans this (by decide))
   clear hX
   generalize loadN o.β (at_ + (i + 1)) (8 - (i + 1)) = X at *
   have HL := Lib.hid hlow
   clear hlow
   go_wp2
   exact ⟨⟨i, _, by omega, rfl, rfl, by rw [HL.out]; simp, trivial⟩, by (simp [intOf] <;> omega)⟩
theorem rload_at (o : MObj) (w : World) (h : MemAt w o) (at_ : Nat) (m : Int) (hin : at_ + m.toNat ≤ o.n) (hm : szOk m = true) :
 Calls Tryz.prog 121 #[.pointer (some ⟨o.p, 0, none⟩), .int .u64 (at_ : Nat), .int .i64 m] w fun e w' => e = .returned (.tuple #[.int .u64 (loadN o.β at_ m.toNat : Nat), .int .i64 0]) ∧ w' = w := by
 rcases szOk_cases hm with rfl | rfl | rfl | rfl
 ·exact rload_1 o w h at_ hin
 ·exact rload_2 o w h at_ hin
 ·exact rload_4 o w h at_ hin
 ·exact rload_8 o w h at_ hin
theorem rload_k (o : MObj) (w : World) (h : MemAt w o) (at_ : Nat) (m : Int) (ha : at_ < 18446744073709551616) (hm : -9223372036854775808 ≤ m ∧ m ≤ 9223372036854775807) :
 Calls Tryz.prog 121 #[.pointer (some ⟨o.p, 0, none⟩), .int .u64 (at_ : Nat), .int .i64 m] w fun e w' => e = .returned (.tuple #[.int .u64 (loadX o at_ m : Nat), .int .i64 (mayE o.n at_ m)]) ∧ w' = w := by
 by_cases he : mayE o.n at_ m = 0
 ·unfold loadX
  rw [if_pos he]
  unfold mayE at *
  by_cases hs : szOk m = true
  ·rw [if_pos hs] at he ⊢
   by_cases hin : at_ + m.toNat ≤ o.n
   ·rw [if_pos hin]
    exact rload_at o w h at_ m hin hs
   ·rw [if_neg hin] at he; omega
  ·rw [if_neg hs] at he; omega
 ·have := rload_err o w h at_ m ha hm _ rfl (bne_iff_ne.2 he)
  unfold loadX
  rw [if_neg he]
  exact this
theorem rstore_err (o : MObj) (w : World) (h : MemAt w o) (at_ : Nat) (m : Int) (x : Value) (ha : at_ < 18446744073709551616) (hm : -9223372036854775808 ≤ m ∧ m ≤ 9223372036854775807) (E : Int) (he : mayE o.n at_ m = E) (hE : (E != 0) = true) :
 Calls Tryz.prog 114 #[.pointer (some ⟨o.p, 0, none⟩), .int .u64 (at_ : Nat), .int .i64 m, x] w fun e w' => e = .returned (.int .i64 E) ∧ w' = w := by
 have hmm := rload_err o w h at_ m ha hm E he hE
 clear he h
 go_enter Tryz.func114, Tryz.ntmps114
 go_wp2_with (go_at_call 121; (with_reducible refine hmm.mono ?_); rintro e u ⟨rfl, rfl⟩)
 go_ret
 exact ⟨rfl, rfl⟩
theorem div_step (x j : Nat) : x / 2 ^ (8 * j) / 256 = x / 2 ^ (8 * (j + 1)) := by
 rw [Nat.div_div_eq_div_mul, show 8 * (j + 1) = 8 * j + 8 by omega, Nat.pow_add]
theorem rstore_1 (o : MObj) (w : World) (h : MemAt w o) (at_ x : Nat) (hx : x < 18446744073709551616) (hin : at_ + 1 ≤ o.n) :
 Calls Tryz.prog 114 #[.pointer (some ⟨o.p, 0, none⟩), .int .u64 (at_ : Nat), .int .i64 1, .int .u64 (x : Nat)] w fun e w' => e = .returned (.int .i64 0) ∧ MemAt w' (withβ o (storeN o.β at_ x 1)) ∧ Keep (fun k => o.q = some k) w w' := by
 have hz := h.size
 have hmm := rload_1 o w h at_ hin
 obtain ⟨b, hb, hr⟩ := h.row.pos (by omega)
 have hcap := hr.le
 have hk := Keep.refl (fun k => o.q = some k) w
 generalize loadN o.β at_ 1 = X at hmm
 go_enter Tryz.func114, Tryz.ntmps114
 go_wp2_with (go_at_call 121; (with_reducible refine hmm.mono ?_); rintro e u ⟨rfl, hu⟩; rw [hu]; clear hu)
 clear hmm
 go_loopw [3, 11] (fun xv jv wr => ∃ j : Nat, j ≤ 1 ∧ jv = .int .i64 j ∧ xv = .int .u64 (x / 2 ^ (8 * j) : Nat) ∧ MemAt wr (withβ o (storeN o.β at_ x j)) ∧ Keep (fun k => o.q = some k) w wr) (fun _ jv _ => 1 - (intOf jv).toNat)
 case atStart => exact ⟨0, Nat.zero_le _, rfl, by simp, h, hk⟩
 case round =>
  clear h hk hr
  obtain ⟨j, hj, rfl, rfl, h, hk⟩ := hrel
  by_cases hjl : j < 1
  ·have hr := h.row
   have hc0 := h.c0
   have hset : MemAt (wr.setCell ⟨b, at_ + j, none⟩ (.int .u8 (((x / 2 ^ (8 * j) : Nat) : Int) % 256))) (withβ o (storeN o.β at_ x (j + 1))) := by
    have := h.set hb (i := at_ + j) (x := x / 2 ^ (8 * j) % 256) (by show _ < o.n; omega) (by omega)
    rw [show ((x / 2 ^ (8 * j) % 256 : Nat) : Int) = ((x / 2 ^ (8 * j) : Nat) : Int) % 256 by simp] at this
    exact this
   have hkset : Keep (fun k => o.q = some k) w (wr.setCell ⟨b, at_ + j, none⟩ (.int .u8 (((x / 2 ^ (8 * j) : Nat) : Int) % 256))) := (hk.setCell (.inl hb) _)
   have hdiv := div_step x j
   have hy : x / 2 ^ (8 * j) < 18446744073709551616 := Nat.lt_of_le_of_lt (Nat.div_le_self _ _) hx
   simp only [withβ] at hc0 hr
   rw [hb] at hc0 hr
   rw [show headOf (some b) = some ⟨b, 0, none⟩ from rfl] at hc0
   have hcell := BytesAt.cell hr (i := at_ + j) (by omega)
   have hfz := BytesAt.frozen hr (at_ + j)
   have hcap := BytesAt.le hr
   generalize x / 2 ^ (8 * j) = y at *
   have HD := Lib.hid hdiv
   clear hdiv
   go_wp2
   exact ⟨⟨j + 1, by omega, by go_num, by rw [← HD.out]; go_num, hset, hkset⟩, by simp [intOf]; omega⟩
  ·obtain rfl : j = 1 := by omega
   go_wp2
   go_ret
   exact ⟨rfl, h, hk⟩
theorem rstore_2 (o : MObj) (w : World) (h : MemAt w o) (at_ x : Nat) (hx : x < 18446744073709551616) (hin : at_ + 2 ≤ o.n) :
 Calls Tryz.prog 114 #[.pointer (some ⟨o.p, 0, none⟩), .int .u64 (at_ : Nat), .int .i64 2, .int .u64 (x : Nat)] w fun e w' => e = .returned (.int .i64 0) ∧ MemAt w' (withβ o (storeN o.β at_ x 2)) ∧ Keep (fun k => o.q = some k) w w' := by
 have hz := h.size
 have hmm := rload_2 o w h at_ hin
 obtain ⟨b, hb, hr⟩ := h.row.pos (by omega)
 have hcap := hr.le
 have hk := Keep.refl (fun k => o.q = some k) w
 generalize loadN o.β at_ 2 = X at hmm
 go_enter Tryz.func114, Tryz.ntmps114
 go_wp2_with (go_at_call 121; (with_reducible refine hmm.mono ?_); rintro e u ⟨rfl, hu⟩; rw [hu]; clear hu)
 clear hmm
 go_loopw [3, 11] (fun xv jv wr => ∃ j : Nat, j ≤ 2 ∧ jv = .int .i64 j ∧ xv = .int .u64 (x / 2 ^ (8 * j) : Nat) ∧ MemAt wr (withβ o (storeN o.β at_ x j)) ∧ Keep (fun k => o.q = some k) w wr) (fun _ jv _ => 2 - (intOf jv).toNat)
 case atStart => exact ⟨0, Nat.zero_le _, rfl, by simp, h, hk⟩
 case round =>
  clear h hk hr
  obtain ⟨j, hj, rfl, rfl, h, hk⟩ := hrel
  by_cases hjl : j < 2
  ·have hr := h.row
   have hc0 := h.c0
   have hset : MemAt (wr.setCell ⟨b, at_ + j, none⟩ (.int .u8 (((x / 2 ^ (8 * j) : Nat) : Int) % 256))) (withβ o (storeN o.β at_ x (j + 1))) := by
    have := h.set hb (i := at_ + j) (x := x / 2 ^ (8 * j) % 256) (by show _ < o.n; omega) (by omega)
    rw [show ((x / 2 ^ (8 * j) % 256 : Nat) : Int) = ((x / 2 ^ (8 * j) : Nat) : Int) % 256 by simp] at this
    exact this
   have hkset : Keep (fun k => o.q = some k) w (wr.setCell ⟨b, at_ + j, none⟩ (.int .u8 (((x / 2 ^ (8 * j) : Nat) : Int) % 256))) := (hk.setCell (.inl hb) _)
   have hdiv := div_step x j
   have hy : x / 2 ^ (8 * j) < 18446744073709551616 := Nat.lt_of_le_of_lt (Nat.div_le_self _ _) hx
   simp only [withβ] at hc0 hr
   rw [hb] at hc0 hr
   rw [show headOf (some b) = some ⟨b, 0, none⟩ from rfl] at hc0
   have hcell := BytesAt.cell hr (i := at_ + j) (by omega)
   have hfz := BytesAt.frozen hr (at_ + j)
   have hcap := BytesAt.le hr
   generalize x / 2 ^ (8 * j) = y at *
   have HD := Lib.hid hdiv
   clear hdiv
   go_wp2
   exact ⟨⟨j + 1, by omega, by go_num, by rw [← HD.out]; go_num, hset, hkset⟩, by simp [intOf]; omega⟩
  ·obtain rfl : j = 2 := by omega
   go_wp2
   go_ret
   exact ⟨rfl, h, hk⟩
theorem rstore_4 (o : MObj) (w : World) (h : MemAt w o) (at_ x : Nat) (hx : x < 18446744073709551616) (hin : at_ + 4 ≤ o.n) :
 Calls Tryz.prog 114 #[.pointer (some ⟨o.p, 0, none⟩), .int .u64 (at_ : Nat), .int .i64 4, .int .u64 (x : Nat)] w fun e w' => e = .returned (.int .i64 0) ∧ MemAt w' (withβ o (storeN o.β at_ x 4)) ∧ Keep (fun k => o.q = some k) w w' := by
 have hz := h.size
 have hmm := rload_4 o w h at_ hin
 obtain ⟨b, hb, hr⟩ := h.row.pos (by omega)
 have hcap := hr.le
 have hk := Keep.refl (fun k => o.q = some k) w
 generalize loadN o.β at_ 4 = X at hmm
 go_enter Tryz.func114, Tryz.ntmps114
 go_wp2_with (go_at_call 121; (with_reducible refine hmm.mono ?_); rintro e u ⟨rfl, hu⟩; rw [hu]; clear hu)
 clear hmm
 go_loopw [3, 11] (fun xv jv wr => ∃ j : Nat, j ≤ 4 ∧ jv = .int .i64 j ∧ xv = .int .u64 (x / 2 ^ (8 * j) : Nat) ∧ MemAt wr (withβ o (storeN o.β at_ x j)) ∧ Keep (fun k => o.q = some k) w wr) (fun _ jv _ => 4 - (intOf jv).toNat)
 case atStart => exact ⟨0, Nat.zero_le _, rfl, by simp, h, hk⟩
 case round =>
  clear h hk hr
  obtain ⟨j, hj, rfl, rfl, h, hk⟩ := hrel
  by_cases hjl : j < 4
  ·have hr := h.row
   have hc0 := h.c0
   have hset : MemAt (wr.setCell ⟨b, at_ + j, none⟩ (.int .u8 (((x / 2 ^ (8 * j) : Nat) : Int) % 256))) (withβ o (storeN o.β at_ x (j + 1))) := by
    have := h.set hb (i := at_ + j) (x := x / 2 ^ (8 * j) % 256) (by show _ < o.n; omega) (by omega)
    rw [show ((x / 2 ^ (8 * j) % 256 : Nat) : Int) = ((x / 2 ^ (8 * j) : Nat) : Int) % 256 by simp] at this
    exact this
   have hkset : Keep (fun k => o.q = some k) w (wr.setCell ⟨b, at_ + j, none⟩ (.int .u8 (((x / 2 ^ (8 * j) : Nat) : Int) % 256))) := (hk.setCell (.inl hb) _)
   have hdiv := div_step x j
   have hy : x / 2 ^ (8 * j) < 18446744073709551616 := Nat.lt_of_le_of_lt (Nat.div_le_self _ _) hx
   simp only [withβ] at hc0 hr
   rw [hb] at hc0 hr
   rw [show headOf (some b) = some ⟨b, 0, none⟩ from rfl] at hc0
   have hcell := BytesAt.cell hr (i := at_ + j) (by omega)
   have hfz := BytesAt.frozen hr (at_ + j)
   have hcap := BytesAt.le hr
   generalize x / 2 ^ (8 * j) = y at *
   have HD := Lib.hid hdiv
   clear hdiv
   go_wp2
   exact ⟨⟨j + 1, by omega, by go_num, by rw [← HD.out]; go_num, hset, hkset⟩, by simp [intOf]; omega⟩
  ·obtain rfl : j = 4 := by omega
   go_wp2
   go_ret
   exact ⟨rfl, h, hk⟩
theorem rstore_8 (o : MObj) (w : World) (h : MemAt w o) (at_ x : Nat) (hx : x < 18446744073709551616) (hin : at_ + 8 ≤ o.n) :
 Calls Tryz.prog 114 #[.pointer (some ⟨o.p, 0, none⟩), .int .u64 (at_ : Nat), .int .i64 8, .int .u64 (x : Nat)] w fun e w' => e = .returned (.int .i64 0) ∧ MemAt w' (withβ o (storeN o.β at_ x 8)) ∧ Keep (fun k => o.q = some k) w w' := by
 have hz := h.size
 have hmm := rload_8 o w h at_ hin
 obtain ⟨b, hb, hr⟩ := h.row.pos (by omega)
 have hcap := hr.le
 have hk := Keep.refl (fun k => o.q = some k) w
 generalize loadN o.β at_ 8 = X at hmm
 go_enter Tryz.func114, Tryz.ntmps114
 go_wp2_with (go_at_call 121; (with_reducible refine hmm.mono ?_); rintro e u ⟨rfl, hu⟩; rw [hu]; clear hu)
 clear hmm
 go_loopw [3, 11] (fun xv jv wr => ∃ j : Nat, j ≤ 8 ∧ jv = .int .i64 j ∧ xv = .int .u64 (x / 2 ^ (8 * j) : Nat) ∧ MemAt wr (withβ o (storeN o.β at_ x j)) ∧ Keep (fun k => o.q = some k) w wr) (fun _ jv _ => 8 - (intOf jv).toNat)
 case atStart => exact ⟨0, Nat.zero_le _, rfl, by simp, h, hk⟩
 case round =>
  clear h hk hr
  obtain ⟨j, hj, rfl, rfl, h, hk⟩ := hrel
  by_cases hjl : j < 8
  ·have hr := h.row
   have hc0 := h.c0
   have hset : MemAt (wr.setCell ⟨b, at_ + j, none⟩ (.int .u8 (((x / 2 ^ (8 * j) : Nat) : Int) % 256))) (withβ o (storeN o.β at_ x (j + 1))) := by
    have := h.set hb (i := at_ + j) (x := x / 2 ^ (8 * j) % 256) (by show _ < o.n; omega) (by omega)
    rw [show ((x / 2 ^ (8 * j) % 256 : Nat) : Int) = ((x / 2 ^ (8 * j) : Nat) : Int) % 256 by simp] at this
    exact this
   have hkset : Keep (fun k => o.q = some k) w (wr.setCell ⟨b, at_ + j, none⟩ (.int .u8 (((x / 2 ^ (8 * j) : Nat) : Int) % 256))) := (hk.setCell (.inl hb) _)
   have hdiv := div_step x j
   have hy : x / 2 ^ (8 * j) < 18446744073709551616 := Nat.lt_of_le_of_lt (Nat.div_le_self _ _) hx
   simp only [withβ] at hc0 hr
   rw [hb] at hc0 hr
   rw [show headOf (some b) = some ⟨b, 0, none⟩ from rfl] at hc0
   have hcell := BytesAt.cell hr (i := at_ + j) (by omega)
   have hfz := BytesAt.frozen hr (at_ + j)
   have hcap := BytesAt.le hr
   generalize x / 2 ^ (8 * j) = y at *
   have HD := Lib.hid hdiv
   clear hdiv
   go_wp2
   exact ⟨⟨j + 1, by omega, by go_num, by rw [← HD.out]; go_num, hset, hkset⟩, by simp [intOf]; omega⟩
  ·obtain rfl : j = 8 := by omega
   go_wp2
   go_ret
   exact ⟨rfl, h, hk⟩
theorem rstore_k (o : MObj) (w : World) (h : MemAt w o) (at_ : Nat) (m : Int) (x : Nat) (hx : x < 18446744073709551616) (ha : at_ < 18446744073709551616) (hm : -9223372036854775808 ≤ m ∧ m ≤ 9223372036854775807) :
 Calls Tryz.prog 114 #[.pointer (some ⟨o.p, 0, none⟩), .int .u64 (at_ : Nat), .int .i64 m, .int .u64 (x : Nat)] w fun e w' => e = .returned (.int .i64 (mayE o.n at_ m)) ∧ MemAt w' (withβ o (storeB o at_ m x)) ∧ Keep (fun k => o.q = some k) w w' := by
 by_cases he : mayE o.n at_ m = 0
 ·unfold storeB
  rw [if_pos he]
  unfold mayE at *
  by_cases hs : szOk m = true
  ·rw [if_pos hs] at he ⊢
   by_cases hin : at_ + m.toNat ≤ o.n
   ·rw [if_pos hin]
    rcases szOk_cases hs with rfl | rfl | rfl | rfl
    ·exact rstore_1 o w h at_ x hx hin
    ·exact rstore_2 o w h at_ x hx hin
    ·exact rstore_4 o w h at_ x hx hin
    ·exact rstore_8 o w h at_ x hx hin
   ·rw [if_neg hin] at he; omega
  ·rw [if_neg hs] at he; omega
 ·unfold storeB
  rw [if_neg he]
  refine (rstore_err o w h at_ m _ ha hm _ rfl (bne_iff_ne.2 he)).mono ?_
  rintro e u ⟨rfl, rfl⟩
  exact ⟨rfl, h, Keep.refl _ _⟩
end Go.Proofs.YtmfmokblmipagaaGreat
end
