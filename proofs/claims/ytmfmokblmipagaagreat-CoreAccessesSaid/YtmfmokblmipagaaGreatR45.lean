/-
  Texts Te.
-/
import Derived.Test.YtmfmokblmipagaaGreatR26
import Derived.Test.YtmfmokblmipagaaGreatR31
import Derived.Test.YtmfmokblmipagaaGreatR32
import Derived.Test.YtmfmokblmipagaaGreatR33
import Derived.Test.YtmfmokblmipagaaGreatR34
import Derived.Test.YtmfmokblmipagaaGreatR39
import Derived.Test.YtmfmokblmipagaaGreatR40
import Derived.Test.YtmfmokblmipagaaGreatR41
import Derived.Test.YtmfmokblmipagaaGreatR42
import Derived.Test.YtmfmokblmipagaaGreatR43
import Derived.Test.YtmfmokblmipagaaGreatR44
set_option linter.unusedSimpArgs false
set_option linter.unusedVariables false
set_option maxHeartbeats 8000000
open Pl
namespace Go.Proofs.YtmfmokblmipagaaGreat
open Go.RowKit Pl
def w64 (x : Nat) : BitVec 64 := BitVec.ofNat 64 x
def opsA (t3 : Bool) (x : Nat) (v : Vec) : List (BitVec 64) := if t3 then [w64 x, w64 (getN v 64 0), w64 (getN v 64 1)] else [w64 x]
structure AccP (st : Bool) (op a : Int) (off lo : Nat) (hi : Int) (L : Value) (x : Nat) (v : Vec) (N : Nat) (β : Nat → Nat) (t3 : Bool) : Prop where
 ex : ∃ (k : Nat) (cs : List Cel) (E : Int) (Y : Vec) (β2 : Nat → Nat), (k = 0 ∨ k = 1 ∨ k = 3) ∧ cs.length ≤ 400 ∧ cs ≠ [] ∧
  (∀ W, Calls Tryz.prog 11 #[inV op a off lo hi L, .int .i64 2] W fun e w' => ∃ s, e = .returned (.tuple #[s, .int .i64 (k : Int), .int .i64 0]) ∧ SQ W cs s w') ∧
  (st = false → β2 = β ∧ ∀ W o, MemAt W o → o.n = N → o.β = β → Calls Tryz.prog 19 #[.pointer (some ⟨o.p, 0, none⟩), inV op a off lo hi L, .int .u32 (x : Int), .agg (cells v)] W fun e w' => e = .returned (.tuple #[.agg (cells Y), .int .i64 E]) ∧ Below W.heap.size W w') ∧
  (st = true → ∀ W o, MemAt W o → o.n = N → o.β = β → Calls Tryz.prog 18 #[.pointer (some ⟨o.p, 0, none⟩), inV op a off lo hi L, .int .u32 (x : Int), .agg (cells v)] W fun e w' => e = .returned (.int .i64 E) ∧ MemAt w' (withβ o β2) ∧ Keep (fun k => o.q = some k) W w') ∧
  (E = 0 ∨ E = 23 ∧ (N : Int) < x + off + vszN op) ∧
  Acc N k cs (opsA t3 x v) β E (if st then [] else [w64 (getN Y 64 0), w64 (getN Y 64 1)]) β2
theorem w64_nat (x : Nat) (h : x < 18446744073709551616) : (w64 x).toNat = x := by unfold w64; rw [BitVec.toNat_ofNat]; exact Nat.mod_eq_of_lt h
theorem Acc.cast {n k : Nat} {cs : List Cel} {V V2 V3 : List (BitVec 64)} {β β2 β3 : Nat → Nat} {E : Int} (h : Acc n k cs V β E V2 β2) (e : V2 = V3) (e2 : β2 = β3) : Acc n k cs V β E V3 β3 := by subst e e2; exact h
theorem Acc.trap {n k : Nat} {cs : List Cel} {V V2 : List (BitVec 64)} {β β2 : Nat → Nat} (V3 : List (BitVec 64)) (h : Acc n k cs V β 23 V2 β2) : Acc n k cs V β 23 V3 β2 := by
 obtain ⟨W, L2, h1, h2, h3, h4, h5, h6⟩ := h.ex
 exact ⟨W, L2, h1, h2, h3, h4, h5, fun h => absurd h (by decide)⟩
theorem keep_none {w w' : World} (q : Option Nat) (h : Below w.heap.size w w') : Keep (fun k => q = some k) w w' := Keep.of_below h
theorem ld_lt {β : Nat → Nat} {N : Nat} (hβ : ∀ i, i < N → β i < 256) (s k : Nat) (hk : k ≤ 8) (h : s + k ≤ N) : loadN β s k < 2 ^ (8 * k) := loadN_lt β s k fun i hi => hβ _ (by omega)
theorem ld_lt64 {β : Nat → Nat} {N : Nat} (hβ : ∀ i, i < N → β i < 256) (s k : Nat) (hk : k ≤ 8) (h : s + k ≤ N) : loadN β s k < 18446744073709551616 := Nat.lt_of_lt_of_le (ld_lt hβ s k hk h) (show 2 ^ (8 * k) ≤ 2 ^ 64 from Nat.pow_le_pow_right (by decide) (by omega))
theorem spl_mul (X W n R : Nat) (hR : sumN (fun _ => X) W n = X * R) : w64 (sumN (fun _ => X) W n) = BitVec.ofNat 64 X * BitVec.ofNat 64 R := by unfold w64; rw [hR, BitVec.ofNat_mul]
theorem nbad (op b lo : Int) (s : Bool) (h1 : 64768 ≤ op ∧ op ≤ 64779 ∨ 64852 ≤ op ∧ op ≤ 64861) (h2 : vst op = s) (hb : 0 ≤ b ∧ b < 4294967296) (h3 : ¬ vln op ∨ lo < 16 / vszN op) : ¬ VBad op b lo s := by
 rintro (c | c | c | c | ⟨d, c⟩)
 ·exact c h1
 ·exact c h2
 ·omega
 ·omega
 ·rcases h3 with h3 | h3
  ·exact h3 d
  ·omega
theorem laneLdC_len (n r off i : Nat) : (laneLdC n r off i).length ≤ 20 := by simp [laneLdC]
theorem laneStC_len (n r off i : Nat) : (laneStC n r off i).length ≤ 20 := by
 have := laneC_len (r + (1 + i / (8 / n))) (8 * n) (i % (8 / n)) false
 simp [laneStC]
 omega
theorem accp_00 (a : Int) (off lo : Nat) (hi : Int) (L : Value) (x : Nat) (v : Vec) (N : Nat) (β : Nat → Nat) (hx : x < 4294967296) (ho : off < 4294967296) (hβ : ∀ i, i < N → β i < 256) : AccP false 64768 a off lo hi L x v N β false := by
 have hxx : (w64 x).toNat = x := w64_nat x (by omega)
 have hx2 : (w64 x).toNat < 4294967296 := by rw [hxx]; exact hx
 have hsz : vszN 64768 = 16 := by decide
 by_cases hin : x + off + 16 ≤ N
 ·refine ⟨1, [setc 2, getc 2, atc 41 off, getc 2, atc 41 (off + 8)], 0, setN (setN 0 64 0 (loadN β (x + off) 8)) 64 1 (loadN β (x + off + 8) 8), β, by simp, by simp, by simp [laneLdC, laneStC], fun W => seq_0 a off lo 2 hi L W (by decide) ho, fun h => ?_, fun h => ?_, .inl rfl, ?_⟩
  ·refine ⟨rfl, fun W o hm hn hb => ?_⟩
   subst hn hb
   exact rfload_00 o v a off lo (by omega) hi x L (x + off) W hm (by omega) (by omega) (by push_cast; rfl)  hin
  ·cases h
  ·have hin2 : (w64 x).toNat + off + 16 ≤ N := by rw [hxx]; exact hin
   have h := acc_00 N off (w64 x) β hx2 ho hβ hin2
   rw [hxx] at h
   refine h.cast ?_ rfl
   obtain ⟨e0, e1⟩ := half_set (loadN β (x + off) 8) (loadN β (x + off + 8) 8) (ld_lt64 hβ _ 8 (by decide) (by omega)) (ld_lt64 hβ _ 8 (by decide) (by omega))
   rw [e0, e1]
   rfl
 ·refine ⟨1, [setc 2, getc 2, atc 41 off, getc 2, atc 41 (off + 8)], 23, 0, β, by simp, by simp, by simp [laneLdC, laneStC], fun W => seq_0 a off lo 2 hi L W (by decide) ho, fun h => ?_, fun h => ?_, .inr ⟨rfl, by rw [hsz]; omega⟩, ?_⟩
  ·refine ⟨rfl, fun W o hm hn hb => ?_⟩
   subst hn hb
   exact rfload_farA 64768 16 o v a off lo (by omega) (by decide) (by decide) (by decide) (nbad 64768 off lo false (by decide) (by decide) (by omega) (.inl (by unfold vln; omega))) hi x L (x + off) W hm (by omega) (by omega) (by push_cast; rfl) hin
  ·cases h
  ·have hin2 : ¬ (w64 x).toNat + off + 16 ≤ N := by rw [hxx]; exact hin
   exact (acc_00x N off (w64 x) β hx2 ho hβ hin2).trap _
theorem accp_01 (a : Int) (off lo : Nat) (hi : Int) (L : Value) (x : Nat) (v : Vec) (N : Nat) (β : Nat → Nat) (hx : x < 4294967296) (ho : off < 4294967296) (hβ : ∀ i, i < N → β i < 256) : AccP false 64769 a off lo hi L x v N β false := by
 have hxx : (w64 x).toNat = x := w64_nat x (by omega)
 have hx2 : (w64 x).toNat < 4294967296 := by rw [hxx]; exact hx
 have hsz : vszN 64769 = 8 := by decide
 by_cases hin : x + off + 8 ≤ N
 ·refine ⟨1, atc 41 off :: setc 2 :: spreadC 2 8 true 8, 0, spreadV (loadN β (x + off) 8) 8 true, β, by simp, by have := spreadC_len 2 8 true 8; simp only [List.length_cons]; omega, by simp [laneLdC, laneStC], fun W => seq_1 a off lo 2 hi L W (by decide) ho, fun h => ?_, fun h => ?_, .inl rfl, ?_⟩
  ·refine ⟨rfl, fun W o hm hn hb => ?_⟩
   subst hn hb
   exact rfload_01 o v a off lo (by omega) hi x L (x + off) W hm (by omega) (by omega) (by push_cast; rfl)  hin
  ·cases h
  ·have hin2 : (w64 x).toNat + off + 8 ≤ N := by rw [hxx]; exact hin
   have h := acc_spread N off 8 4 true (w64 x) β (by decide) hx2 ho hβ hin2
   rw [hxx] at h
   exact h
 ·refine ⟨1, atc 41 off :: setc 2 :: spreadC 2 8 true 8, 23, 0, β, by simp, by have := spreadC_len 2 8 true 8; simp only [List.length_cons]; omega, by simp [laneLdC, laneStC], fun W => seq_1 a off lo 2 hi L W (by decide) ho, fun h => ?_, fun h => ?_, .inr ⟨rfl, by rw [hsz]; omega⟩, ?_⟩
  ·refine ⟨rfl, fun W o hm hn hb => ?_⟩
   subst hn hb
   exact rfload_farA 64769 8 o v a off lo (by omega) (by decide) (by decide) (by decide) (nbad 64769 off lo false (by decide) (by decide) (by omega) (.inl (by unfold vln; omega))) hi x L (x + off) W hm (by omega) (by omega) (by push_cast; rfl) hin
  ·cases h
  ·have hin2 : ¬ (w64 x).toNat + off + 8 ≤ N := by rw [hxx]; exact hin
   exact (acc_x N 1 41 off _ (w64 x) β (by decide) hx2 ho hin2 (by decide)).trap _
theorem accp_02 (a : Int) (off lo : Nat) (hi : Int) (L : Value) (x : Nat) (v : Vec) (N : Nat) (β : Nat → Nat) (hx : x < 4294967296) (ho : off < 4294967296) (hβ : ∀ i, i < N → β i < 256) : AccP false 64770 a off lo hi L x v N β false := by
 have hxx : (w64 x).toNat = x := w64_nat x (by omega)
 have hx2 : (w64 x).toNat < 4294967296 := by rw [hxx]; exact hx
 have hsz : vszN 64770 = 8 := by decide
 by_cases hin : x + off + 8 ≤ N
 ·refine ⟨1, atc 41 off :: setc 2 :: spreadC 2 8 false 8, 0, spreadV (loadN β (x + off) 8) 8 false, β, by simp, by have := spreadC_len 2 8 false 8; simp only [List.length_cons]; omega, by simp [laneLdC, laneStC], fun W => seq_2 a off lo 2 hi L W (by decide) ho, fun h => ?_, fun h => ?_, .inl rfl, ?_⟩
  ·refine ⟨rfl, fun W o hm hn hb => ?_⟩
   subst hn hb
   exact rfload_02 o v a off lo (by omega) hi x L (x + off) W hm (by omega) (by omega) (by push_cast; rfl)  hin
  ·cases h
  ·have hin2 : (w64 x).toNat + off + 8 ≤ N := by rw [hxx]; exact hin
   have h := acc_spread N off 8 4 false (w64 x) β (by decide) hx2 ho hβ hin2
   rw [hxx] at h
   exact h
 ·refine ⟨1, atc 41 off :: setc 2 :: spreadC 2 8 false 8, 23, 0, β, by simp, by have := spreadC_len 2 8 false 8; simp only [List.length_cons]; omega, by simp [laneLdC, laneStC], fun W => seq_2 a off lo 2 hi L W (by decide) ho, fun h => ?_, fun h => ?_, .inr ⟨rfl, by rw [hsz]; omega⟩, ?_⟩
  ·refine ⟨rfl, fun W o hm hn hb => ?_⟩
   subst hn hb
   exact rfload_farA 64770 8 o v a off lo (by omega) (by decide) (by decide) (by decide) (nbad 64770 off lo false (by decide) (by decide) (by omega) (.inl (by unfold vln; omega))) hi x L (x + off) W hm (by omega) (by omega) (by push_cast; rfl) hin
  ·cases h
  ·have hin2 : ¬ (w64 x).toNat + off + 8 ≤ N := by rw [hxx]; exact hin
   exact (acc_x N 1 41 off _ (w64 x) β (by decide) hx2 ho hin2 (by decide)).trap _
theorem accp_03 (a : Int) (off lo : Nat) (hi : Int) (L : Value) (x : Nat) (v : Vec) (N : Nat) (β : Nat → Nat) (hx : x < 4294967296) (ho : off < 4294967296) (hβ : ∀ i, i < N → β i < 256) : AccP false 64771 a off lo hi L x v N β false := by
 have hxx : (w64 x).toNat = x := w64_nat x (by omega)
 have hx2 : (w64 x).toNat < 4294967296 := by rw [hxx]; exact hx
 have hsz : vszN 64771 = 8 := by decide
 by_cases hin : x + off + 8 ≤ N
 ·refine ⟨1, atc 41 off :: setc 2 :: spreadC 2 16 true 4, 0, spreadV (loadN β (x + off) 8) 16 true, β, by simp, by have := spreadC_len 2 16 true 4; simp only [List.length_cons]; omega, by simp [laneLdC, laneStC], fun W => seq_3 a off lo 2 hi L W (by decide) ho, fun h => ?_, fun h => ?_, .inl rfl, ?_⟩
  ·refine ⟨rfl, fun W o hm hn hb => ?_⟩
   subst hn hb
   exact rfload_03 o v a off lo (by omega) hi x L (x + off) W hm (by omega) (by omega) (by push_cast; rfl)  hin
  ·cases h
  ·have hin2 : (w64 x).toNat + off + 8 ≤ N := by rw [hxx]; exact hin
   have h := acc_spread N off 16 2 true (w64 x) β (by decide) hx2 ho hβ hin2
   rw [hxx] at h
   exact h
 ·refine ⟨1, atc 41 off :: setc 2 :: spreadC 2 16 true 4, 23, 0, β, by simp, by have := spreadC_len 2 16 true 4; simp only [List.length_cons]; omega, by simp [laneLdC, laneStC], fun W => seq_3 a off lo 2 hi L W (by decide) ho, fun h => ?_, fun h => ?_, .inr ⟨rfl, by rw [hsz]; omega⟩, ?_⟩
  ·refine ⟨rfl, fun W o hm hn hb => ?_⟩
   subst hn hb
   exact rfload_farA 64771 8 o v a off lo (by omega) (by decide) (by decide) (by decide) (nbad 64771 off lo false (by decide) (by decide) (by omega) (.inl (by unfold vln; omega))) hi x L (x + off) W hm (by omega) (by omega) (by push_cast; rfl) hin
  ·cases h
  ·have hin2 : ¬ (w64 x).toNat + off + 8 ≤ N := by rw [hxx]; exact hin
   exact (acc_x N 1 41 off _ (w64 x) β (by decide) hx2 ho hin2 (by decide)).trap _
theorem accp_04 (a : Int) (off lo : Nat) (hi : Int) (L : Value) (x : Nat) (v : Vec) (N : Nat) (β : Nat → Nat) (hx : x < 4294967296) (ho : off < 4294967296) (hβ : ∀ i, i < N → β i < 256) : AccP false 64772 a off lo hi L x v N β false := by
 have hxx : (w64 x).toNat = x := w64_nat x (by omega)
 have hx2 : (w64 x).toNat < 4294967296 := by rw [hxx]; exact hx
 have hsz : vszN 64772 = 8 := by decide
 by_cases hin : x + off + 8 ≤ N
 ·refine ⟨1, atc 41 off :: setc 2 :: spreadC 2 16 false 4, 0, spreadV (loadN β (x + off) 8) 16 false, β, by simp, by have := spreadC_len 2 16 false 4; simp only [List.length_cons]; omega, by simp [laneLdC, laneStC], fun W => seq_4 a off lo 2 hi L W (by decide) ho, fun h => ?_, fun h => ?_, .inl rfl, ?_⟩
  ·refine ⟨rfl, fun W o hm hn hb => ?_⟩
   subst hn hb
   exact rfload_04 o v a off lo (by omega) hi x L (x + off) W hm (by omega) (by omega) (by push_cast; rfl)  hin
  ·cases h
  ·have hin2 : (w64 x).toNat + off + 8 ≤ N := by rw [hxx]; exact hin
   have h := acc_spread N off 16 2 false (w64 x) β (by decide) hx2 ho hβ hin2
   rw [hxx] at h
   exact h
 ·refine ⟨1, atc 41 off :: setc 2 :: spreadC 2 16 false 4, 23, 0, β, by simp, by have := spreadC_len 2 16 false 4; simp only [List.length_cons]; omega, by simp [laneLdC, laneStC], fun W => seq_4 a off lo 2 hi L W (by decide) ho, fun h => ?_, fun h => ?_, .inr ⟨rfl, by rw [hsz]; omega⟩, ?_⟩
  ·refine ⟨rfl, fun W o hm hn hb => ?_⟩
   subst hn hb
   exact rfload_farA 64772 8 o v a off lo (by omega) (by decide) (by decide) (by decide) (nbad 64772 off lo false (by decide) (by decide) (by omega) (.inl (by unfold vln; omega))) hi x L (x + off) W hm (by omega) (by omega) (by push_cast; rfl) hin
  ·cases h
  ·have hin2 : ¬ (w64 x).toNat + off + 8 ≤ N := by rw [hxx]; exact hin
   exact (acc_x N 1 41 off _ (w64 x) β (by decide) hx2 ho hin2 (by decide)).trap _
theorem accp_05 (a : Int) (off lo : Nat) (hi : Int) (L : Value) (x : Nat) (v : Vec) (N : Nat) (β : Nat → Nat) (hx : x < 4294967296) (ho : off < 4294967296) (hβ : ∀ i, i < N → β i < 256) : AccP false 64773 a off lo hi L x v N β false := by
 have hxx : (w64 x).toNat = x := w64_nat x (by omega)
 have hx2 : (w64 x).toNat < 4294967296 := by rw [hxx]; exact hx
 have hsz : vszN 64773 = 8 := by decide
 by_cases hin : x + off + 8 ≤ N
 ·refine ⟨1, atc 41 off :: setc 2 :: spreadC 2 32 true 2, 0, spreadV (loadN β (x + off) 8) 32 true, β, by simp, by have := spreadC_len 2 32 true 2; simp only [List.length_cons]; omega, by simp [laneLdC, laneStC], fun W => seq_5 a off lo 2 hi L W (by decide) ho, fun h => ?_, fun h => ?_, .inl rfl, ?_⟩
  ·refine ⟨rfl, fun W o hm hn hb => ?_⟩
   subst hn hb
   exact rfload_05 o v a off lo (by omega) hi x L (x + off) W hm (by omega) (by omega) (by push_cast; rfl)  hin
  ·cases h
  ·have hin2 : (w64 x).toNat + off + 8 ≤ N := by rw [hxx]; exact hin
   have h := acc_spread N off 32 1 true (w64 x) β (by decide) hx2 ho hβ hin2
   rw [hxx] at h
   exact h
 ·refine ⟨1, atc 41 off :: setc 2 :: spreadC 2 32 true 2, 23, 0, β, by simp, by have := spreadC_len 2 32 true 2; simp only [List.length_cons]; omega, by simp [laneLdC, laneStC], fun W => seq_5 a off lo 2 hi L W (by decide) ho, fun h => ?_, fun h => ?_, .inr ⟨rfl, by rw [hsz]; omega⟩, ?_⟩
  ·refine ⟨rfl, fun W o hm hn hb => ?_⟩
   subst hn hb
   exact rfload_farA 64773 8 o v a off lo (by omega) (by decide) (by decide) (by decide) (nbad 64773 off lo false (by decide) (by decide) (by omega) (.inl (by unfold vln; omega))) hi x L (x + off) W hm (by omega) (by omega) (by push_cast; rfl) hin
  ·cases h
  ·have hin2 : ¬ (w64 x).toNat + off + 8 ≤ N := by rw [hxx]; exact hin
   exact (acc_x N 1 41 off _ (w64 x) β (by decide) hx2 ho hin2 (by decide)).trap _
theorem accp_06 (a : Int) (off lo : Nat) (hi : Int) (L : Value) (x : Nat) (v : Vec) (N : Nat) (β : Nat → Nat) (hx : x < 4294967296) (ho : off < 4294967296) (hβ : ∀ i, i < N → β i < 256) : AccP false 64774 a off lo hi L x v N β false := by
 have hxx : (w64 x).toNat = x := w64_nat x (by omega)
 have hx2 : (w64 x).toNat < 4294967296 := by rw [hxx]; exact hx
 have hsz : vszN 64774 = 8 := by decide
 by_cases hin : x + off + 8 ≤ N
 ·refine ⟨1, atc 41 off :: setc 2 :: spreadC 2 32 false 2, 0, spreadV (loadN β (x + off) 8) 32 false, β, by simp, by have := spreadC_len 2 32 false 2; simp only [List.length_cons]; omega, by simp [laneLdC, laneStC], fun W => seq_6 a off lo 2 hi L W (by decide) ho, fun h => ?_, fun h => ?_, .inl rfl, ?_⟩
  ·refine ⟨rfl, fun W o hm hn hb => ?_⟩
   subst hn hb
   exact rfload_06 o v a off lo (by omega) hi x L (x + off) W hm (by omega) (by omega) (by push_cast; rfl)  hin
  ·cases h
  ·have hin2 : (w64 x).toNat + off + 8 ≤ N := by rw [hxx]; exact hin
   have h := acc_spread N off 32 1 false (w64 x) β (by decide) hx2 ho hβ hin2
   rw [hxx] at h
   exact h
 ·refine ⟨1, atc 41 off :: setc 2 :: spreadC 2 32 false 2, 23, 0, β, by simp, by have := spreadC_len 2 32 false 2; simp only [List.length_cons]; omega, by simp [laneLdC, laneStC], fun W => seq_6 a off lo 2 hi L W (by decide) ho, fun h => ?_, fun h => ?_, .inr ⟨rfl, by rw [hsz]; omega⟩, ?_⟩
  ·refine ⟨rfl, fun W o hm hn hb => ?_⟩
   subst hn hb
   exact rfload_farA 64774 8 o v a off lo (by omega) (by decide) (by decide) (by decide) (nbad 64774 off lo false (by decide) (by decide) (by omega) (.inl (by unfold vln; omega))) hi x L (x + off) W hm (by omega) (by omega) (by push_cast; rfl) hin
  ·cases h
  ·have hin2 : ¬ (w64 x).toNat + off + 8 ≤ N := by rw [hxx]; exact hin
   exact (acc_x N 1 41 off _ (w64 x) β (by decide) hx2 ho hin2 (by decide)).trap _
theorem accp_07 (a : Int) (off lo : Nat) (hi : Int) (L : Value) (x : Nat) (v : Vec) (N : Nat) (β : Nat → Nat) (hx : x < 4294967296) (ho : off < 4294967296) (hβ : ∀ i, i < N → β i < 256) : AccP false 64775 a off lo hi L x v N β false := by
 have hxx : (w64 x).toNat = x := w64_nat x (by omega)
 have hx2 : (w64 x).toNat < 4294967296 := by rw [hxx]; exact hx
 have hsz : vszN 64775 = 1 := by decide
 by_cases hin : x + off + 1 ≤ N
 ·refine ⟨1, atc 49 off :: numc 72340172838076673 :: opc 126 :: [setc 2, getc 2, getc 2], 0, buildOn 0 8 (fun _ => loadN β (x + off) 1) 16, β, by simp, by simp, by simp [laneLdC, laneStC], fun W => seq_7 a off lo 2 hi L W (by decide) ho, fun h => ?_, fun h => ?_, .inl rfl, ?_⟩
  ·refine ⟨rfl, fun W o hm hn hb => ?_⟩
   subst hn hb
   exact rfload_07 o v a off lo (by omega) hi x L (x + off) W hm (by omega) (by omega) (by push_cast; rfl)  hin
  ·cases h
  ·have hin2 : (w64 x).toNat + off + 1 ≤ N := by rw [hxx]; exact hin
   have h := acc_spl N 49 off 72340172838076673 (w64 x) β (by decide) (by decide) hx2 ho hβ hin2
   rw [hxx] at h
   refine h.cast ?_ rfl
   have hX := ld_lt hβ (x + off) 1 (by decide) (by omega)
   have e0 := half_splat (loadN β (x + off) 1) 8 8 0 (by decide) hX (by decide)
   have e1 := half_splat (loadN β (x + off) 1) 8 8 1 (by decide) hX (by decide)
   have em := spl_mul (loadN β (x + off) 1) 8 8 72340172838076673 (by simp only [sumN]; omega)
   rw [show buildOn 0 8 (fun _ => loadN β (x + off) 1) 16 = buildOn 0 8 (fun _ => loadN β (x + off) 1) (2 * 8) from rfl, e0, e1, em]
   rfl
 ·refine ⟨1, atc 49 off :: numc 72340172838076673 :: opc 126 :: [setc 2, getc 2, getc 2], 23, 0, β, by simp, by simp, by simp [laneLdC, laneStC], fun W => seq_7 a off lo 2 hi L W (by decide) ho, fun h => ?_, fun h => ?_, .inr ⟨rfl, by rw [hsz]; omega⟩, ?_⟩
  ·refine ⟨rfl, fun W o hm hn hb => ?_⟩
   subst hn hb
   exact rfload_farA 64775 1 o v a off lo (by omega) (by decide) (by decide) (by decide) (nbad 64775 off lo false (by decide) (by decide) (by omega) (.inl (by unfold vln; omega))) hi x L (x + off) W hm (by omega) (by omega) (by push_cast; rfl) hin
  ·cases h
  ·have hin2 : ¬ (w64 x).toNat + off + 1 ≤ N := by rw [hxx]; exact hin
   exact (acc_x N 1 49 off _ (w64 x) β (by decide) hx2 ho hin2 (by decide)).trap _
theorem accp_08 (a : Int) (off lo : Nat) (hi : Int) (L : Value) (x : Nat) (v : Vec) (N : Nat) (β : Nat → Nat) (hx : x < 4294967296) (ho : off < 4294967296) (hβ : ∀ i, i < N → β i < 256) : AccP false 64776 a off lo hi L x v N β false := by
 have hxx : (w64 x).toNat = x := w64_nat x (by omega)
 have hx2 : (w64 x).toNat < 4294967296 := by rw [hxx]; exact hx
 have hsz : vszN 64776 = 2 := by decide
 by_cases hin : x + off + 2 ≤ N
 ·refine ⟨1, atc 51 off :: numc 281479271743489 :: opc 126 :: [setc 2, getc 2, getc 2], 0, buildOn 0 16 (fun _ => loadN β (x + off) 2) 8, β, by simp, by simp, by simp [laneLdC, laneStC], fun W => seq_8 a off lo 2 hi L W (by decide) ho, fun h => ?_, fun h => ?_, .inl rfl, ?_⟩
  ·refine ⟨rfl, fun W o hm hn hb => ?_⟩
   subst hn hb
   exact rfload_08 o v a off lo (by omega) hi x L (x + off) W hm (by omega) (by omega) (by push_cast; rfl)  hin
  ·cases h
  ·have hin2 : (w64 x).toNat + off + 2 ≤ N := by rw [hxx]; exact hin
   have h := acc_spl N 51 off 281479271743489 (w64 x) β (by decide) (by decide) hx2 ho hβ hin2
   rw [hxx] at h
   refine h.cast ?_ rfl
   have hX := ld_lt hβ (x + off) 2 (by decide) (by omega)
   have e0 := half_splat (loadN β (x + off) 2) 16 4 0 (by decide) hX (by decide)
   have e1 := half_splat (loadN β (x + off) 2) 16 4 1 (by decide) hX (by decide)
   have em := spl_mul (loadN β (x + off) 2) 16 4 281479271743489 (by simp only [sumN]; omega)
   rw [show buildOn 0 16 (fun _ => loadN β (x + off) 2) 8 = buildOn 0 16 (fun _ => loadN β (x + off) 2) (2 * 4) from rfl, e0, e1, em]
   rfl
 ·refine ⟨1, atc 51 off :: numc 281479271743489 :: opc 126 :: [setc 2, getc 2, getc 2], 23, 0, β, by simp, by simp, by simp [laneLdC, laneStC], fun W => seq_8 a off lo 2 hi L W (by decide) ho, fun h => ?_, fun h => ?_, .inr ⟨rfl, by rw [hsz]; omega⟩, ?_⟩
  ·refine ⟨rfl, fun W o hm hn hb => ?_⟩
   subst hn hb
   exact rfload_farA 64776 2 o v a off lo (by omega) (by decide) (by decide) (by decide) (nbad 64776 off lo false (by decide) (by decide) (by omega) (.inl (by unfold vln; omega))) hi x L (x + off) W hm (by omega) (by omega) (by push_cast; rfl) hin
  ·cases h
  ·have hin2 : ¬ (w64 x).toNat + off + 2 ≤ N := by rw [hxx]; exact hin
   exact (acc_x N 1 51 off _ (w64 x) β (by decide) hx2 ho hin2 (by decide)).trap _
theorem accp_09 (a : Int) (off lo : Nat) (hi : Int) (L : Value) (x : Nat) (v : Vec) (N : Nat) (β : Nat → Nat) (hx : x < 4294967296) (ho : off < 4294967296) (hβ : ∀ i, i < N → β i < 256) : AccP false 64777 a off lo hi L x v N β false := by
 have hxx : (w64 x).toNat = x := w64_nat x (by omega)
 have hx2 : (w64 x).toNat < 4294967296 := by rw [hxx]; exact hx
 have hsz : vszN 64777 = 4 := by decide
 by_cases hin : x + off + 4 ≤ N
 ·refine ⟨1, atc 53 off :: numc 4294967297 :: opc 126 :: [setc 2, getc 2, getc 2], 0, buildOn 0 32 (fun _ => loadN β (x + off) 4) 4, β, by simp, by simp, by simp [laneLdC, laneStC], fun W => seq_9 a off lo 2 hi L W (by decide) ho, fun h => ?_, fun h => ?_, .inl rfl, ?_⟩
  ·refine ⟨rfl, fun W o hm hn hb => ?_⟩
   subst hn hb
   exact rfload_09 o v a off lo (by omega) hi x L (x + off) W hm (by omega) (by omega) (by push_cast; rfl)  hin
  ·cases h
  ·have hin2 : (w64 x).toNat + off + 4 ≤ N := by rw [hxx]; exact hin
   have h := acc_spl N 53 off 4294967297 (w64 x) β (by decide) (by decide) hx2 ho hβ hin2
   rw [hxx] at h
   refine h.cast ?_ rfl
   have hX := ld_lt hβ (x + off) 4 (by decide) (by omega)
   have e0 := half_splat (loadN β (x + off) 4) 32 2 0 (by decide) hX (by decide)
   have e1 := half_splat (loadN β (x + off) 4) 32 2 1 (by decide) hX (by decide)
   have em := spl_mul (loadN β (x + off) 4) 32 2 4294967297 (by simp only [sumN]; omega)
   rw [show buildOn 0 32 (fun _ => loadN β (x + off) 4) 4 = buildOn 0 32 (fun _ => loadN β (x + off) 4) (2 * 2) from rfl, e0, e1, em]
   rfl
 ·refine ⟨1, atc 53 off :: numc 4294967297 :: opc 126 :: [setc 2, getc 2, getc 2], 23, 0, β, by simp, by simp, by simp [laneLdC, laneStC], fun W => seq_9 a off lo 2 hi L W (by decide) ho, fun h => ?_, fun h => ?_, .inr ⟨rfl, by rw [hsz]; omega⟩, ?_⟩
  ·refine ⟨rfl, fun W o hm hn hb => ?_⟩
   subst hn hb
   exact rfload_farA 64777 4 o v a off lo (by omega) (by decide) (by decide) (by decide) (nbad 64777 off lo false (by decide) (by decide) (by omega) (.inl (by unfold vln; omega))) hi x L (x + off) W hm (by omega) (by omega) (by push_cast; rfl) hin
  ·cases h
  ·have hin2 : ¬ (w64 x).toNat + off + 4 ≤ N := by rw [hxx]; exact hin
   exact (acc_x N 1 53 off _ (w64 x) β (by decide) hx2 ho hin2 (by decide)).trap _
theorem accp_0a (a : Int) (off lo : Nat) (hi : Int) (L : Value) (x : Nat) (v : Vec) (N : Nat) (β : Nat → Nat) (hx : x < 4294967296) (ho : off < 4294967296) (hβ : ∀ i, i < N → β i < 256) : AccP false 64778 a off lo hi L x v N β false := by
 have hxx : (w64 x).toNat = x := w64_nat x (by omega)
 have hx2 : (w64 x).toNat < 4294967296 := by rw [hxx]; exact hx
 have hsz : vszN 64778 = 8 := by decide
 by_cases hin : x + off + 8 ≤ N
 ·refine ⟨1, atc 41 off :: [setc 2, getc 2, getc 2], 0, buildOn 0 64 (fun _ => loadN β (x + off) 8) 2, β, by simp, by simp, by simp [laneLdC, laneStC], fun W => seq_10 a off lo 2 hi L W (by decide) ho, fun h => ?_, fun h => ?_, .inl rfl, ?_⟩
  ·refine ⟨rfl, fun W o hm hn hb => ?_⟩
   subst hn hb
   exact rfload_0a o v a off lo (by omega) hi x L (x + off) W hm (by omega) (by omega) (by push_cast; rfl)  hin
  ·cases h
  ·have hin2 : (w64 x).toNat + off + 8 ≤ N := by rw [hxx]; exact hin
   have h := acc_spl8 N off (w64 x) β hx2 ho hβ hin2
   rw [hxx] at h
   refine h.cast ?_ rfl
   have hX := ld_lt hβ (x + off) 8 (by decide) (by omega)
   have e0 := half_splat (loadN β (x + off) 8) 64 1 0 (by decide) hX (by decide)
   have e1 := half_splat (loadN β (x + off) 8) 64 1 1 (by decide) hX (by decide)
   rw [show buildOn 0 64 (fun _ => loadN β (x + off) 8) 2 = buildOn 0 64 (fun _ => loadN β (x + off) 8) (2 * 1) from rfl, e0, e1]
   simp [sumN, w64]
 ·refine ⟨1, atc 41 off :: [setc 2, getc 2, getc 2], 23, 0, β, by simp, by simp, by simp [laneLdC, laneStC], fun W => seq_10 a off lo 2 hi L W (by decide) ho, fun h => ?_, fun h => ?_, .inr ⟨rfl, by rw [hsz]; omega⟩, ?_⟩
  ·refine ⟨rfl, fun W o hm hn hb => ?_⟩
   subst hn hb
   exact rfload_farA 64778 8 o v a off lo (by omega) (by decide) (by decide) (by decide) (nbad 64778 off lo false (by decide) (by decide) (by omega) (.inl (by unfold vln; omega))) hi x L (x + off) W hm (by omega) (by omega) (by push_cast; rfl) hin
  ·cases h
  ·have hin2 : ¬ (w64 x).toNat + off + 8 ≤ N := by rw [hxx]; exact hin
   exact (acc_x N 1 41 off _ (w64 x) β (by decide) hx2 ho hin2 (by decide)).trap _
theorem accp_5c (a : Int) (off lo : Nat) (hi : Int) (L : Value) (x : Nat) (v : Vec) (N : Nat) (β : Nat → Nat) (hx : x < 4294967296) (ho : off < 4294967296) (hβ : ∀ i, i < N → β i < 256) : AccP false 64860 a off lo hi L x v N β false := by
 have hxx : (w64 x).toNat = x := w64_nat x (by omega)
 have hx2 : (w64 x).toNat < 4294967296 := by rw [hxx]; exact hx
 have hsz : vszN 64860 = 4 := by decide
 by_cases hin : x + off + 4 ≤ N
 ·refine ⟨0, [atc 53 off, numc 0], 0, buildOn 0 64 (fun i => [loadN β (x + off) 4].getD i 0) 1, β, by simp, by simp, by simp [laneLdC, laneStC], fun W => seq_92 a off lo 2 hi L W (by decide) ho, fun h => ?_, fun h => ?_, .inl rfl, ?_⟩
  ·refine ⟨rfl, fun W o hm hn hb => ?_⟩
   subst hn hb
   exact rfload_5c o v a off lo (by omega) hi x L (x + off) W hm (by omega) (by omega) (by push_cast; rfl)  hin
  ·cases h
  ·have hin2 : (w64 x).toNat + off + 4 ≤ N := by rw [hxx]; exact hin
   have h := acc_z N 53 off (w64 x) β (by decide) hx2 ho hβ hin2
   rw [hxx] at h
   refine h.cast ?_ rfl
   obtain ⟨e0, e1⟩ := half_low (loadN β (x + off) 4) (ld_lt64 hβ _ 4 (by decide) (by omega))
   unfold lowV at e0 e1
   rw [e0, e1]
   rfl
 ·refine ⟨0, [atc 53 off, numc 0], 23, 0, β, by simp, by simp, by simp [laneLdC, laneStC], fun W => seq_92 a off lo 2 hi L W (by decide) ho, fun h => ?_, fun h => ?_, .inr ⟨rfl, by rw [hsz]; omega⟩, ?_⟩
  ·refine ⟨rfl, fun W o hm hn hb => ?_⟩
   subst hn hb
   exact rfload_farA 64860 4 o v a off lo (by omega) (by decide) (by decide) (by decide) (nbad 64860 off lo false (by decide) (by decide) (by omega) (.inl (by unfold vln; omega))) hi x L (x + off) W hm (by omega) (by omega) (by push_cast; rfl) hin
  ·cases h
  ·have hin2 : ¬ (w64 x).toNat + off + 4 ≤ N := by rw [hxx]; exact hin
   exact (acc_x N 0 53 off _ (w64 x) β (by decide) hx2 ho hin2 (by decide)).trap _
theorem accp_5d (a : Int) (off lo : Nat) (hi : Int) (L : Value) (x : Nat) (v : Vec) (N : Nat) (β : Nat → Nat) (hx : x < 4294967296) (ho : off < 4294967296) (hβ : ∀ i, i < N → β i < 256) : AccP false 64861 a off lo hi L x v N β false := by
 have hxx : (w64 x).toNat = x := w64_nat x (by omega)
 have hx2 : (w64 x).toNat < 4294967296 := by rw [hxx]; exact hx
 have hsz : vszN 64861 = 8 := by decide
 by_cases hin : x + off + 8 ≤ N
 ·refine ⟨0, [atc 41 off, numc 0], 0, buildOn 0 64 (fun i => [loadN β (x + off) 8].getD i 0) 1, β, by simp, by simp, by simp [laneLdC, laneStC], fun W => seq_93 a off lo 2 hi L W (by decide) ho, fun h => ?_, fun h => ?_, .inl rfl, ?_⟩
  ·refine ⟨rfl, fun W o hm hn hb => ?_⟩
   subst hn hb
   exact rfload_5d o v a off lo (by omega) hi x L (x + off) W hm (by omega) (by omega) (by push_cast; rfl)  hin
  ·cases h
  ·have hin2 : (w64 x).toNat + off + 8 ≤ N := by rw [hxx]; exact hin
   have h := acc_z N 41 off (w64 x) β (by decide) hx2 ho hβ hin2
   rw [hxx] at h
   refine h.cast ?_ rfl
   obtain ⟨e0, e1⟩ := half_low (loadN β (x + off) 8) (ld_lt64 hβ _ 8 (by decide) (by omega))
   unfold lowV at e0 e1
   rw [e0, e1]
   rfl
 ·refine ⟨0, [atc 41 off, numc 0], 23, 0, β, by simp, by simp, by simp [laneLdC, laneStC], fun W => seq_93 a off lo 2 hi L W (by decide) ho, fun h => ?_, fun h => ?_, .inr ⟨rfl, by rw [hsz]; omega⟩, ?_⟩
  ·refine ⟨rfl, fun W o hm hn hb => ?_⟩
   subst hn hb
   exact rfload_farA 64861 8 o v a off lo (by omega) (by decide) (by decide) (by decide) (nbad 64861 off lo false (by decide) (by decide) (by omega) (.inl (by unfold vln; omega))) hi x L (x + off) W hm (by omega) (by omega) (by push_cast; rfl) hin
  ·cases h
  ·have hin2 : ¬ (w64 x).toNat + off + 8 ≤ N := by rw [hxx]; exact hin
   exact (acc_x N 0 41 off _ (w64 x) β (by decide) hx2 ho hin2 (by decide)).trap _
theorem accp_54 (a : Int) (off lo : Nat) (hi : Int) (L : Value) (x : Nat) (v : Vec) (N : Nat) (β : Nat → Nat) (hx : x < 4294967296) (ho : off < 4294967296) (hβ : ∀ i, i < N → β i < 256) (hl : lo < 16) : AccP false 64852 a off lo hi L x v N β true := by
 have hxx : (w64 x).toNat = x := w64_nat x (by omega)
 have hx2 : (w64 x).toNat < 4294967296 := by rw [hxx]; exact hx
 have hsz : vszN 64852 = 1 := by decide
 by_cases hin : x + off + 1 ≤ N
 ·refine ⟨3, laneLdC 1 2 off lo, 0, setN v 8 lo (loadN β (x + off) 1), β, by simp, by have := laneLdC_len 1 2 off lo; omega, by simp [laneLdC, laneStC], fun W => seq_84 a off lo 2 hi L W (by decide) ho hl, fun h => ?_, fun h => ?_, .inl rfl, ?_⟩
  ·refine ⟨rfl, fun W o hm hn hb => ?_⟩
   subst hn hb
   exact rfload_54 o v a off lo hi x L (x + off) W hm (by omega) (by omega) (by push_cast; rfl) hl hin
  ·cases h
  ·have hin2 : (w64 x).toNat + off + 1 ≤ N := by rw [hxx]; exact hin
   have h := acc_lane_ld N 1 off lo (w64 x) v β (by decide) (by omega) hx2 ho hβ hin2
   rw [hxx] at h
   exact h
 ·refine ⟨3, laneLdC 1 2 off lo, 23, 0, β, by simp, by have := laneLdC_len 1 2 off lo; omega, by simp [laneLdC, laneStC], fun W => seq_84 a off lo 2 hi L W (by decide) ho hl, fun h => ?_, fun h => ?_, .inr ⟨rfl, by rw [hsz]; omega⟩, ?_⟩
  ·refine ⟨rfl, fun W o hm hn hb => ?_⟩
   subst hn hb
   exact rfload_farA 64852 1 o v a off lo (by omega) (by decide) (by decide) (by decide) (nbad 64852 off lo false (by decide) (by decide) (by omega) (.inr (by rw [hsz]; omega))) hi x L (x + off) W hm (by omega) (by omega) (by push_cast; rfl) hin
  ·cases h
  ·have hin2 : ¬ (w64 x).toNat + off + 1 ≤ N := by rw [hxx]; exact hin
   exact (acc_lane_ldx N 1 off lo (w64 x) _ _ β (by decide) hx2 ho hin2).trap _
theorem accp_55 (a : Int) (off lo : Nat) (hi : Int) (L : Value) (x : Nat) (v : Vec) (N : Nat) (β : Nat → Nat) (hx : x < 4294967296) (ho : off < 4294967296) (hβ : ∀ i, i < N → β i < 256) (hl : lo < 8) : AccP false 64853 a off lo hi L x v N β true := by
 have hxx : (w64 x).toNat = x := w64_nat x (by omega)
 have hx2 : (w64 x).toNat < 4294967296 := by rw [hxx]; exact hx
 have hsz : vszN 64853 = 2 := by decide
 by_cases hin : x + off + 2 ≤ N
 ·refine ⟨3, laneLdC 2 2 off lo, 0, setN v 16 lo (loadN β (x + off) 2), β, by simp, by have := laneLdC_len 2 2 off lo; omega, by simp [laneLdC, laneStC], fun W => seq_85 a off lo 2 hi L W (by decide) ho hl, fun h => ?_, fun h => ?_, .inl rfl, ?_⟩
  ·refine ⟨rfl, fun W o hm hn hb => ?_⟩
   subst hn hb
   exact rfload_55 o v a off lo hi x L (x + off) W hm (by omega) (by omega) (by push_cast; rfl) hl hin
  ·cases h
  ·have hin2 : (w64 x).toNat + off + 2 ≤ N := by rw [hxx]; exact hin
   have h := acc_lane_ld N 2 off lo (w64 x) v β (by decide) (by omega) hx2 ho hβ hin2
   rw [hxx] at h
   exact h
 ·refine ⟨3, laneLdC 2 2 off lo, 23, 0, β, by simp, by have := laneLdC_len 2 2 off lo; omega, by simp [laneLdC, laneStC], fun W => seq_85 a off lo 2 hi L W (by decide) ho hl, fun h => ?_, fun h => ?_, .inr ⟨rfl, by rw [hsz]; omega⟩, ?_⟩
  ·refine ⟨rfl, fun W o hm hn hb => ?_⟩
   subst hn hb
   exact rfload_farA 64853 2 o v a off lo (by omega) (by decide) (by decide) (by decide) (nbad 64853 off lo false (by decide) (by decide) (by omega) (.inr (by rw [hsz]; omega))) hi x L (x + off) W hm (by omega) (by omega) (by push_cast; rfl) hin
  ·cases h
  ·have hin2 : ¬ (w64 x).toNat + off + 2 ≤ N := by rw [hxx]; exact hin
   exact (acc_lane_ldx N 2 off lo (w64 x) _ _ β (by decide) hx2 ho hin2).trap _
theorem accp_56 (a : Int) (off lo : Nat) (hi : Int) (L : Value) (x : Nat) (v : Vec) (N : Nat) (β : Nat → Nat) (hx : x < 4294967296) (ho : off < 4294967296) (hβ : ∀ i, i < N → β i < 256) (hl : lo < 4) : AccP false 64854 a off lo hi L x v N β true := by
 have hxx : (w64 x).toNat = x := w64_nat x (by omega)
 have hx2 : (w64 x).toNat < 4294967296 := by rw [hxx]; exact hx
 have hsz : vszN 64854 = 4 := by decide
 by_cases hin : x + off + 4 ≤ N
 ·refine ⟨3, laneLdC 4 2 off lo, 0, setN v 32 lo (loadN β (x + off) 4), β, by simp, by have := laneLdC_len 4 2 off lo; omega, by simp [laneLdC, laneStC], fun W => seq_86 a off lo 2 hi L W (by decide) ho hl, fun h => ?_, fun h => ?_, .inl rfl, ?_⟩
  ·refine ⟨rfl, fun W o hm hn hb => ?_⟩
   subst hn hb
   exact rfload_56 o v a off lo hi x L (x + off) W hm (by omega) (by omega) (by push_cast; rfl) hl hin
  ·cases h
  ·have hin2 : (w64 x).toNat + off + 4 ≤ N := by rw [hxx]; exact hin
   have h := acc_lane_ld N 4 off lo (w64 x) v β (by decide) (by omega) hx2 ho hβ hin2
   rw [hxx] at h
   exact h
 ·refine ⟨3, laneLdC 4 2 off lo, 23, 0, β, by simp, by have := laneLdC_len 4 2 off lo; omega, by simp [laneLdC, laneStC], fun W => seq_86 a off lo 2 hi L W (by decide) ho hl, fun h => ?_, fun h => ?_, .inr ⟨rfl, by rw [hsz]; omega⟩, ?_⟩
  ·refine ⟨rfl, fun W o hm hn hb => ?_⟩
   subst hn hb
   exact rfload_farA 64854 4 o v a off lo (by omega) (by decide) (by decide) (by decide) (nbad 64854 off lo false (by decide) (by decide) (by omega) (.inr (by rw [hsz]; omega))) hi x L (x + off) W hm (by omega) (by omega) (by push_cast; rfl) hin
  ·cases h
  ·have hin2 : ¬ (w64 x).toNat + off + 4 ≤ N := by rw [hxx]; exact hin
   exact (acc_lane_ldx N 4 off lo (w64 x) _ _ β (by decide) hx2 ho hin2).trap _
theorem accp_57 (a : Int) (off lo : Nat) (hi : Int) (L : Value) (x : Nat) (v : Vec) (N : Nat) (β : Nat → Nat) (hx : x < 4294967296) (ho : off < 4294967296) (hβ : ∀ i, i < N → β i < 256) (hl : lo < 2) : AccP false 64855 a off lo hi L x v N β true := by
 have hxx : (w64 x).toNat = x := w64_nat x (by omega)
 have hx2 : (w64 x).toNat < 4294967296 := by rw [hxx]; exact hx
 have hsz : vszN 64855 = 8 := by decide
 by_cases hin : x + off + 8 ≤ N
 ·refine ⟨3, laneLdC 8 2 off lo, 0, setN v 64 lo (loadN β (x + off) 8), β, by simp, by have := laneLdC_len 8 2 off lo; omega, by simp [laneLdC, laneStC], fun W => seq_87 a off lo 2 hi L W (by decide) ho hl, fun h => ?_, fun h => ?_, .inl rfl, ?_⟩
  ·refine ⟨rfl, fun W o hm hn hb => ?_⟩
   subst hn hb
   exact rfload_57 o v a off lo hi x L (x + off) W hm (by omega) (by omega) (by push_cast; rfl) hl hin
  ·cases h
  ·have hin2 : (w64 x).toNat + off + 8 ≤ N := by rw [hxx]; exact hin
   have h := acc_lane_ld N 8 off lo (w64 x) v β (by decide) (by omega) hx2 ho hβ hin2
   rw [hxx] at h
   exact h
 ·refine ⟨3, laneLdC 8 2 off lo, 23, 0, β, by simp, by have := laneLdC_len 8 2 off lo; omega, by simp [laneLdC, laneStC], fun W => seq_87 a off lo 2 hi L W (by decide) ho hl, fun h => ?_, fun h => ?_, .inr ⟨rfl, by rw [hsz]; omega⟩, ?_⟩
  ·refine ⟨rfl, fun W o hm hn hb => ?_⟩
   subst hn hb
   exact rfload_farA 64855 8 o v a off lo (by omega) (by decide) (by decide) (by decide) (nbad 64855 off lo false (by decide) (by decide) (by omega) (.inr (by rw [hsz]; omega))) hi x L (x + off) W hm (by omega) (by omega) (by push_cast; rfl) hin
  ·cases h
  ·have hin2 : ¬ (w64 x).toNat + off + 8 ≤ N := by rw [hxx]; exact hin
   exact (acc_lane_ldx N 8 off lo (w64 x) _ _ β (by decide) hx2 ho hin2).trap _
theorem accp_0b (a : Int) (off lo : Nat) (hi : Int) (L : Value) (x : Nat) (v : Vec) (N : Nat) (β : Nat → Nat) (hx : x < 4294967296) (ho : off < 4294967296) (hβ : ∀ i, i < N → β i < 256) : AccP true 64779 a off lo hi L x v N β true := by
 have hxx : (w64 x).toNat = x := w64_nat x (by omega)
 have hx2 : (w64 x).toNat < 4294967296 := by rw [hxx]; exact hx
 have hsz : vszN 64779 = 16 := by decide
 by_cases hin : x + off + 16 ≤ N
 ·refine ⟨3, [setc 4, setc 3, setc 2, getc 2, getc 4, atc 55 (off + 8), getc 2, getc 3, atc 55 off], 0, 0, storeN β (x + off) v.toNat 16, by simp, by simp, by simp [laneLdC, laneStC], fun W => seq_11 a off lo 2 hi L W (by decide) ho, fun h => ?_, fun h => ?_, .inl rfl, ?_⟩
  ·cases h
  ·intro W o hm hn hb
   subst hn hb
   exact rfstore_0b o v a off lo (by omega) hi x L (x + off) W hm (by omega) (by omega) (by push_cast; rfl)  hin
  ·have hin2 : (w64 x).toNat + off + 16 ≤ N := by rw [hxx]; exact hin
   have h := acc_0b N off (w64 x) v β hx2 ho hin2
   rw [hxx] at h
   exact h
 ·refine ⟨3, [setc 4, setc 3, setc 2, getc 2, getc 4, atc 55 (off + 8), getc 2, getc 3, atc 55 off], 23, 0, β, by simp, by simp, by simp [laneLdC, laneStC], fun W => seq_11 a off lo 2 hi L W (by decide) ho, fun h => ?_, fun h => ?_, .inr ⟨rfl, by rw [hsz]; omega⟩, ?_⟩
  ·cases h
  ·intro W o hm hn hb
   subst hn hb
   exact (rfstore_farA 64779 16 o v a off lo (by omega) (by decide) (by decide) (by decide) (nbad 64779 off lo true (by decide) (by decide) (by omega) (.inl (by unfold vln; omega))) hi x L (x + off) W hm (by omega) (by omega) (by push_cast; rfl) hin).mono fun e w' hh => ⟨hh.1, hm.below hh.2, keep_none _ hh.2⟩
  ·have hin2 : ¬ (w64 x).toNat + off + 16 ≤ N := by rw [hxx]; exact hin
   exact acc_0bx N off (w64 x) _ _ β hx2 ho hin2
theorem accp_58 (a : Int) (off lo : Nat) (hi : Int) (L : Value) (x : Nat) (v : Vec) (N : Nat) (β : Nat → Nat) (hx : x < 4294967296) (ho : off < 4294967296) (hβ : ∀ i, i < N → β i < 256) (hl : lo < 16) : AccP true 64856 a off lo hi L x v N β true := by
 have hxx : (w64 x).toNat = x := w64_nat x (by omega)
 have hx2 : (w64 x).toNat < 4294967296 := by rw [hxx]; exact hx
 have hsz : vszN 64856 = 1 := by decide
 by_cases hin : x + off + 1 ≤ N
 ·refine ⟨3, laneStC 1 2 off lo, 0, 0, storeN β (x + off) (getN v 8 lo) 1, by simp, by have := laneStC_len 1 2 off lo; omega, by simp [laneLdC, laneStC], fun W => seq_88 a off lo 2 hi L W (by decide) ho hl, fun h => ?_, fun h => ?_, .inl rfl, ?_⟩
  ·cases h
  ·intro W o hm hn hb
   subst hn hb
   exact rfstore_58 o v a off lo hi x L (x + off) W hm (by omega) (by omega) (by push_cast; rfl) hl hin
  ·have hin2 : (w64 x).toNat + off + 1 ≤ N := by rw [hxx]; exact hin
   have h := (acc_lane_st N 1 off lo (w64 x) v β (by decide) (by omega) hx2 ho).1 hin2
   rw [hxx] at h
   exact h
 ·refine ⟨3, laneStC 1 2 off lo, 23, 0, β, by simp, by have := laneStC_len 1 2 off lo; omega, by simp [laneLdC, laneStC], fun W => seq_88 a off lo 2 hi L W (by decide) ho hl, fun h => ?_, fun h => ?_, .inr ⟨rfl, by rw [hsz]; omega⟩, ?_⟩
  ·cases h
  ·intro W o hm hn hb
   subst hn hb
   exact (rfstore_farA 64856 1 o v a off lo (by omega) (by decide) (by decide) (by decide) (nbad 64856 off lo true (by decide) (by decide) (by omega) (.inr (by rw [hsz]; omega))) hi x L (x + off) W hm (by omega) (by omega) (by push_cast; rfl) hin).mono fun e w' hh => ⟨hh.1, hm.below hh.2, keep_none _ hh.2⟩
  ·have hin2 : ¬ (w64 x).toNat + off + 1 ≤ N := by rw [hxx]; exact hin
   exact (acc_lane_st N 1 off lo (w64 x) v β (by decide) (by omega) hx2 ho).2 hin2
theorem accp_59 (a : Int) (off lo : Nat) (hi : Int) (L : Value) (x : Nat) (v : Vec) (N : Nat) (β : Nat → Nat) (hx : x < 4294967296) (ho : off < 4294967296) (hβ : ∀ i, i < N → β i < 256) (hl : lo < 8) : AccP true 64857 a off lo hi L x v N β true := by
 have hxx : (w64 x).toNat = x := w64_nat x (by omega)
 have hx2 : (w64 x).toNat < 4294967296 := by rw [hxx]; exact hx
 have hsz : vszN 64857 = 2 := by decide
 by_cases hin : x + off + 2 ≤ N
 ·refine ⟨3, laneStC 2 2 off lo, 0, 0, storeN β (x + off) (getN v 16 lo) 2, by simp, by have := laneStC_len 2 2 off lo; omega, by simp [laneLdC, laneStC], fun W => seq_89 a off lo 2 hi L W (by decide) ho hl, fun h => ?_, fun h => ?_, .inl rfl, ?_⟩
  ·cases h
  ·intro W o hm hn hb
   subst hn hb
   exact rfstore_59 o v a off lo hi x L (x + off) W hm (by omega) (by omega) (by push_cast; rfl) hl hin
  ·have hin2 : (w64 x).toNat + off + 2 ≤ N := by rw [hxx]; exact hin
   have h := (acc_lane_st N 2 off lo (w64 x) v β (by decide) (by omega) hx2 ho).1 hin2
   rw [hxx] at h
   exact h
 ·refine ⟨3, laneStC 2 2 off lo, 23, 0, β, by simp, by have := laneStC_len 2 2 off lo; omega, by simp [laneLdC, laneStC], fun W => seq_89 a off lo 2 hi L W (by decide) ho hl, fun h => ?_, fun h => ?_, .inr ⟨rfl, by rw [hsz]; omega⟩, ?_⟩
  ·cases h
  ·intro W o hm hn hb
   subst hn hb
   exact (rfstore_farA 64857 2 o v a off lo (by omega) (by decide) (by decide) (by decide) (nbad 64857 off lo true (by decide) (by decide) (by omega) (.inr (by rw [hsz]; omega))) hi x L (x + off) W hm (by omega) (by omega) (by push_cast; rfl) hin).mono fun e w' hh => ⟨hh.1, hm.below hh.2, keep_none _ hh.2⟩
  ·have hin2 : ¬ (w64 x).toNat + off + 2 ≤ N := by rw [hxx]; exact hin
   exact (acc_lane_st N 2 off lo (w64 x) v β (by decide) (by omega) hx2 ho).2 hin2
theorem accp_5a (a : Int) (off lo : Nat) (hi : Int) (L : Value) (x : Nat) (v : Vec) (N : Nat) (β : Nat → Nat) (hx : x < 4294967296) (ho : off < 4294967296) (hβ : ∀ i, i < N → β i < 256) (hl : lo < 4) : AccP true 64858 a off lo hi L x v N β true := by
 have hxx : (w64 x).toNat = x := w64_nat x (by omega)
 have hx2 : (w64 x).toNat < 4294967296 := by rw [hxx]; exact hx
 have hsz : vszN 64858 = 4 := by decide
 by_cases hin : x + off + 4 ≤ N
 ·refine ⟨3, laneStC 4 2 off lo, 0, 0, storeN β (x + off) (getN v 32 lo) 4, by simp, by have := laneStC_len 4 2 off lo; omega, by simp [laneLdC, laneStC], fun W => seq_90 a off lo 2 hi L W (by decide) ho hl, fun h => ?_, fun h => ?_, .inl rfl, ?_⟩
  ·cases h
  ·intro W o hm hn hb
   subst hn hb
   exact rfstore_5a o v a off lo hi x L (x + off) W hm (by omega) (by omega) (by push_cast; rfl) hl hin
  ·have hin2 : (w64 x).toNat + off + 4 ≤ N := by rw [hxx]; exact hin
   have h := (acc_lane_st N 4 off lo (w64 x) v β (by decide) (by omega) hx2 ho).1 hin2
   rw [hxx] at h
   exact h
 ·refine ⟨3, laneStC 4 2 off lo, 23, 0, β, by simp, by have := laneStC_len 4 2 off lo; omega, by simp [laneLdC, laneStC], fun W => seq_90 a off lo 2 hi L W (by decide) ho hl, fun h => ?_, fun h => ?_, .inr ⟨rfl, by rw [hsz]; omega⟩, ?_⟩
  ·cases h
  ·intro W o hm hn hb
   subst hn hb
   exact (rfstore_farA 64858 4 o v a off lo (by omega) (by decide) (by decide) (by decide) (nbad 64858 off lo true (by decide) (by decide) (by omega) (.inr (by rw [hsz]; omega))) hi x L (x + off) W hm (by omega) (by omega) (by push_cast; rfl) hin).mono fun e w' hh => ⟨hh.1, hm.below hh.2, keep_none _ hh.2⟩
  ·have hin2 : ¬ (w64 x).toNat + off + 4 ≤ N := by rw [hxx]; exact hin
   exact (acc_lane_st N 4 off lo (w64 x) v β (by decide) (by omega) hx2 ho).2 hin2
theorem accp_5b (a : Int) (off lo : Nat) (hi : Int) (L : Value) (x : Nat) (v : Vec) (N : Nat) (β : Nat → Nat) (hx : x < 4294967296) (ho : off < 4294967296) (hβ : ∀ i, i < N → β i < 256) (hl : lo < 2) : AccP true 64859 a off lo hi L x v N β true := by
 have hxx : (w64 x).toNat = x := w64_nat x (by omega)
 have hx2 : (w64 x).toNat < 4294967296 := by rw [hxx]; exact hx
 have hsz : vszN 64859 = 8 := by decide
 by_cases hin : x + off + 8 ≤ N
 ·refine ⟨3, laneStC 8 2 off lo, 0, 0, storeN β (x + off) (getN v 64 lo) 8, by simp, by have := laneStC_len 8 2 off lo; omega, by simp [laneLdC, laneStC], fun W => seq_91 a off lo 2 hi L W (by decide) ho hl, fun h => ?_, fun h => ?_, .inl rfl, ?_⟩
  ·cases h
  ·intro W o hm hn hb
   subst hn hb
   exact rfstore_5b o v a off lo hi x L (x + off) W hm (by omega) (by omega) (by push_cast; rfl) hl hin
  ·have hin2 : (w64 x).toNat + off + 8 ≤ N := by rw [hxx]; exact hin
   have h := (acc_lane_st N 8 off lo (w64 x) v β (by decide) (by omega) hx2 ho).1 hin2
   rw [hxx] at h
   exact h
 ·refine ⟨3, laneStC 8 2 off lo, 23, 0, β, by simp, by have := laneStC_len 8 2 off lo; omega, by simp [laneLdC, laneStC], fun W => seq_91 a off lo 2 hi L W (by decide) ho hl, fun h => ?_, fun h => ?_, .inr ⟨rfl, by rw [hsz]; omega⟩, ?_⟩
  ·cases h
  ·intro W o hm hn hb
   subst hn hb
   exact (rfstore_farA 64859 8 o v a off lo (by omega) (by decide) (by decide) (by decide) (nbad 64859 off lo true (by decide) (by decide) (by omega) (.inr (by rw [hsz]; omega))) hi x L (x + off) W hm (by omega) (by omega) (by push_cast; rfl) hin).mono fun e w' hh => ⟨hh.1, hm.below hh.2, keep_none _ hh.2⟩
  ·have hin2 : ¬ (w64 x).toNat + off + 8 ≤ N := by rw [hxx]; exact hin
   exact (acc_lane_st N 8 off lo (w64 x) v β (by decide) (by omega) hx2 ho).2 hin2
end Go.Proofs.YtmfmokblmipagaaGreat
