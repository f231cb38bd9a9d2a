/-
  Texts NumRO, NumRB.
-/
import Derived.Test.YtmfmokblmipagaaGreatR01
import Derived.Test.YtmfmokblmipagaaGreatR09
set_option linter.unusedSimpArgs false
set_option linter.unusedVariables false
set_option maxHeartbeats 8000000
open Pl
section
namespace Go.Proofs.YtmfmokblmipagaaGreat
open Go.RowKit Nm
end Go.Proofs.YtmfmokblmipagaaGreat
end
section
namespace Go.Proofs.YtmfmokblmipagaaGreat
open Go.RowKit _root_.Nm
def oneRow : List Int := [69, 80, 103, 104, 105, 121, 122, 123, 167, 172, 173, 192, 193, 194, 195, 196]
theorem one_in (op : Int) : op ∈ oneRow ↔ (op = 69 ∨ op = 80 ∨ 103 ≤ op ∧ op ≤ 105 ∨ 121 ≤ op ∧ op ≤ 123 ∨ op = 167 ∨ op = 172 ∨ op = 173 ∨ 192 ≤ op ∧ op ≤ 196) := by
 unfold oneRow
 simp only [List.mem_cons, List.not_mem_nil, or_false]
 omega
theorem one_not (op : Int) (h : ∀ t, t < 16 → oneRow.getD t 0 ≠ op) : op ∉ oneRow := by
 intro hm
 obtain ⟨t, ht, e⟩ := List.getElem_of_mem hm
 have := h t ht
 rw [List.getD_eq_getElem?_getD, List.getElem?_eq_getElem ht] at this
 exact this e
theorem one_yes (op : Int) (t : Nat) (ht : t < 16) (h : oneRow.getD t 0 = op) : op ∈ oneRow := by
 rw [← h, List.getD_eq_getElem?_getD, List.getElem?_eq_getElem (show t < oneRow.length from ht)]
 exact List.getElem_mem _
set_option maxRecDepth 100000 in
theorem rarity_k (op : Int) (w : World) : Calls Tryz.prog 102 #[.int .i64 op] w fun e w' => e = .returned (.int .i64 (arN op)) ∧ Below w.heap.size w w' := by
 obtain ⟨R, hR⟩ : ∃ R, R = arN op := ⟨_, rfl⟩
 rw [← hR]
 have HR := Lib.hid hR
 clear hR
 go_enter Tryz.func102, Tryz.ntmps102
 go_wp2_with fail
 obtain ⟨W, hW⟩ : ∃ W, W = w.alloc (.cells #[.int .i64 69, .int .i64 80, .int .i64 103, .int .i64 104, .int .i64 105, .int .i64 121, .int .i64 122, .int .i64 123, .int .i64 167, .int .i64 172, .int .i64 173, .int .i64 192, .int .i64 193, .int .i64 194, .int .i64 195, .int .i64 196] 3) := ⟨_, rfl⟩
 have hB : Below w.heap.size w W := by rw [hW]; exact (Below.refl _ _).alloc (Nat.le_refl _) _
 have hcell : ∀ i, i < 16 → W.cell? ⟨w.heap.size, i, none⟩ = some (.int .i64 (oneRow.getD i 0)) := fun i hi => by
  have hblk : W.heap[w.heap.size]? = some (.cells #[.int .i64 69, .int .i64 80, .int .i64 103, .int .i64 104, .int .i64 105, .int .i64 121, .int .i64 122, .int .i64 123, .int .i64 167, .int .i64 172, .int .i64 173, .int .i64 192, .int .i64 193, .int .i64 194, .int .i64 195, .int .i64 196] 3 (0, 0)) := by rw [hW]; exact heap_alloc_new _ _
  rw [cell_of_row W w.heap.size i _ _ _ hblk]
  rw [show (#[.int .i64 69, .int .i64 80, .int .i64 103, .int .i64 104, .int .i64 105, .int .i64 121, .int .i64 122, .int .i64 123, .int .i64 167, .int .i64 172, .int .i64 173, .int .i64 192, .int .i64 193, .int .i64 194, .int .i64 195, .int .i64 196] : Array Value) = (oneRow.map (Value.int .i64)).toArray from rfl, List.getElem?_toArray, List.getElem?_map, List.getD_eq_getElem?_getD, List.getElem?_eq_getElem (show i < oneRow.length from hi)]
  rfl
 rw [← hW]
 have HC := Lib.hid hcell
 clear hW hcell
 go_loopw [4] (fun iv wx => ∃ i : Nat, i ≤ 16 ∧ iv = .int .i64 i ∧ (∀ t, t < i → oneRow.getD t 0 ≠ op) ∧ W = wx) (fun iv _ => 16 - (intOf iv).toNat)
 case atStart => exact ⟨0, Nat.zero_le _, rfl, fun t h => absurd h (by omega), rfl⟩
 case round =>
  obtain ⟨i, hi, rfl, hz, rfl⟩ := hrel
  have HZ := Lib.hid hz
  clear hz
  by_cases hlt : i < 16
  ·have hc := HC.out i hlt
   obtain ⟨z, hz⟩ : ∃ z, z = oneRow.getD i 0 := ⟨_, rfl⟩
   rw [← hz] at hc
   have HZZ := Lib.hid hz
   clear hz
   by_cases hop : z = op
   ·have hq : (z == op) = true := by rw [hop]; simp
    have HOP := Lib.hid hop
    clear hop
    go_wp2_with fail
    go_ret
    exact ⟨ret_ni64 ((ar_1 ((one_in op).1 (one_yes op i hlt (by rw [← HZZ.out]; exact HOP.out)))).trans HR.out.symm), hB⟩
   ·have hq : (z == op) = false := by simp [hop]
    have HOP := Lib.hid hop
    clear hop
    go_wp2_with fail
    go_roundw
    case rel => first | exact ⟨i + 1, by omega, by go_num, fun t ht => (by by_cases e : t = i; (rw [e, ← HZZ.out]; exact HOP.out); exact HZ.out t (by omega)), by first | trivial | rfl⟩ | ((repeat apply Exists.intro); exact ⟨⟨i + 1, by omega, by go_num, fun t ht => (by by_cases e : t = i; (rw [e, ← HZZ.out]; exact HOP.out); exact HZ.out t (by omega)), by first | trivial | rfl⟩, rfl⟩)
    case measure => (simp [intOf] <;> omega)
  ·obtain rfl : i = 16 := by omega
   have hn := Lib.hid (fun h => one_not op HZ.out ((one_in op).2 h))
   by_cases h2 : 70 ≤ op ∧ op ≤ 79 ∨ 81 ≤ op ∧ op ≤ 90 ∨ 106 ≤ op ∧ op ≤ 120 ∨ 124 ≤ op ∧ op ≤ 138
   ·have HR2 := Lib.hid ((ar_2 h2).trans HR.out.symm)
    rcases h2 with ⟨h2, h3⟩ | ⟨h2, h3⟩ | ⟨h2, h3⟩ | ⟨h2, h3⟩
    all_goals
     go_wp2_with fail
     go_ret
     exact ⟨ret_ni64 HR2.out, hB⟩
   ·have HR2 := Lib.hid ((ar_0 hn.out h2).trans HR.out.symm)
    rcases (show op < 70 ∨ op = 80 ∨ 90 < op ∧ op < 106 ∨ 120 < op ∧ op < 124 ∨ 138 < op by omega) with h3 | h3 | ⟨h3, h4⟩ | ⟨h3, h4⟩ | h3
    all_goals
     clear h2
     go_wp2_with fail
     go_ret
     exact ⟨ret_ni64 HR2.out, hB⟩
end Go.Proofs.YtmfmokblmipagaaGreat
end
