/-
  plaitref06.Bits at opcode 64845: its contract.
-/
import Derived.Test.YtifafdfjmhadaaaCmpRBi
set_option linter.unusedSimpArgs false
set_option linter.unusedVariables false
namespace Go.Proofs.Ytifafdfjmhadaaa
open Go.RowKit Pl

set_option maxRecDepth 100000 in
set_option maxHeartbeats 4000000 in
theorem rbits_77 (a : Vec) (w : World) (B cap off : Nat) (hlt : B < w.heap.size) (hA : w.rangeAt B off (cells a).toList) :
    Calls Try.prog 16 #[.int .i64 64845, .slice (some ⟨B, off, none⟩) 1 cap] w fun e w' => e = .returned (.tuple #[.agg (cells (bitV 77 a a a)), .int .i64 0]) ∧ Below w.heap.size w w' := by
  obtain ⟨R, hR⟩ : ∃ R, R = bitV 77 a a a := ⟨_, rfl⟩
  rw [← hR]
  have HR := Lib.hid hR
  clear hR
  have HA := Lib.hid hA
  clear hA
  go_enter Try.func16, Try.ntmps16
  go_wp2_with fail
  rw [← cells_zero]
  obtain ⟨W, hW⟩ : ∃ W, W = (w.alloc (.cells (cells 0) 23)).alloc (.cells (cells 0) 23) := ⟨_, rfl⟩
  have hO : W.heap[w.heap.size + 1]? = some (.cells (cells 0) 23 (0, 0)) := by rw [hW]; exact heap_alloc2_new _ _ _
  have hR0 : W.heap[w.heap.size]? = some (.cells (cells 0) 23 (0, 0)) := by rw [hW]; exact heap_alloc2_old _ _ _
  have hZ : Below w.heap.size w W := by rw [hW]; exact ((Below.refl _ _).alloc (Nat.le_refl _) _).alloc (by simp) _
  rw [← hW]
  clear hW
  have hBW : B < W.heap.size := Nat.lt_of_lt_of_le hlt hZ.size
  have hne : B ≠ w.heap.size + 1 := by omega
  replace HA := Lib.hid (rangeAt_below HA.out hlt hZ)
  go_loopw [9] (fun iv wr => ∃ i : Nat, i ≤ 128 ∧ iv = .int .i64 i ∧ St W (w.heap.size + 1) (lowB R i) wr) (fun iv _ => 128 - (intOf iv).toNat)
  case atStart => exact ⟨0, Nat.zero_le _, rfl, St.start hO⟩
  case round =>
    clear hO
    obtain ⟨i, hi, rfl, hs⟩ := hrel
    by_cases hli : i < 128
    · have cO := cell_of_st hs i hli
      obtain ⟨Ta, hta⟩ : ∃ t, a.toNat.testBit i = t := ⟨_, rfl⟩
      have Ca := fun W => rbit_any a i W hli
      rw [hta] at Ca
      replace Ca := Lib.hid Ca
      have hyes := bitV_bit 77 a a a i hli _ _ _ hta hta hta
      rw [← HR.out] at hyes
      have e1 : (i : Int).tdiv 8 = ((i / 8 : Nat) : Int) := by rw [Int.tdiv_eq_ediv_of_nonneg (by omega)]; omega
      have e2 : (i : Int).tmod 8 = ((i % 8 : Nat) : Int) := by rw [Int.tmod_eq_emod_of_nonneg (by omega)]; omega
      clear hta
      have hnx : R.toNat.testBit i = true → setN (lowB R i) 8 (i / 8) (getN (lowB R i) 8 (i / 8) ||| 2 ^ (i % 8)) = lowB R (i + 1) := lowB_set R i hli
      have hnn : R.toNat.testBit i = false → lowB R (i + 1) = lowB R i := lowB_skip R i hli
      have HN := Lib.hid hnx
      have HM := Lib.hid hnn
      clear hnx hnn
      cases Ta
      · skip
        as_aux_lemma =>
        go_wp2_with (first | (with_reducible refine load_at rfl _ rfl _ _ rfl _ (rangeAt_kb HA.out hBW hne hs.kb) ?_) | ((with_reducible refine load_at_g ?_ _ rfl _ _ rfl _ (rangeAt_kb HA.out hBW hne hs.kb) ?_); (focus rfl)) | (go_at_call 31; (with_reducible refine (Ca.out _).mono ?_); rintro e u ⟨rfl, hb⟩; replace hs := hs.below hb; clear hb; have cO := cell_of_st hs i hli) | (refine store_byte rfl _ _ rfl (w.heap.size + 1) (i / 8) _ (getN (lowB R i) 8 (i / 8) ||| 2 ^ (i % 8)) rfl rfl _ hs.this (by omega) (or_byte2 _ _ (getN_lt _ 8 _) (Nat.mod_lt _ (by decide))) ?_; intro wy hy; replace hs := (hs.sets hy).eqX (HN.out hyes).symm))
        go_roundw
        case rel => first | exact ⟨i + 1, by omega, by go_num, hs⟩ | ((repeat apply Exists.intro); exact ⟨⟨i + 1, by omega, by go_num, hs⟩, rfl⟩)
        case measure => (simp [intOf] <;> omega)
      · skip
        as_aux_lemma =>
        go_wp2_with (first | (with_reducible refine load_at rfl _ rfl _ _ rfl _ (rangeAt_kb HA.out hBW hne hs.kb) ?_) | ((with_reducible refine load_at_g ?_ _ rfl _ _ rfl _ (rangeAt_kb HA.out hBW hne hs.kb) ?_); (focus rfl)) | (go_at_call 31; (with_reducible refine (Ca.out _).mono ?_); rintro e u ⟨rfl, hb⟩; replace hs := hs.below hb; clear hb; have cO := cell_of_st hs i hli))
        go_roundw
        case rel => first | exact ⟨i + 1, by omega, by go_num, hs.eqX (HM.out hyes)⟩ | ((repeat apply Exists.intro); exact ⟨⟨i + 1, by omega, by go_num, hs.eqX (HM.out hyes)⟩, rfl⟩)
        case measure => (simp [intOf] <;> omega)
    · obtain rfl : i = 128 := by omega
      have hR' := hs.kb.get hR0 (by omega)
      have hT := hs.this
      rw [lowB_all] at hT
      go_wp2_with (first | (with_reducible refine load_vec rfl _ rfl _ rfl _ hT ?_) | (with_reducible refine store_vec rfl _ _ rfl w.heap.size _ rfl rfl _ hR' ?_; intro wq hq))
      refine bodyPost_ret (results_vec_tmp rfl _ _ w.heap.size _ _ rfl rfl hq.this) rfl ⟨rfl, (hs.kb.to_below hZ (by omega)).trans (hq.below.mono (by omega))⟩
end Go.Proofs.Ytifafdfjmhadaaa
