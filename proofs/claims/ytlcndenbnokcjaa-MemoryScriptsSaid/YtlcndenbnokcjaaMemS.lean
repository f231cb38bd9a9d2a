/-
  Contracts of memory: Store.
-/
import Derived.Test.YtlcndenbnokcjaaMemK
set_option linter.unusedSimpArgs false
set_option linter.unusedVariables false
namespace Go.Proofs.Ytlcndenbnokcjaa
open Go.RowKit Pl

theorem store_nil (w : World) (at_ m x : Value) :
    Calls Try.prog 17 #[.pointer none, at_, m, x] w fun e w' => e = .returned (.int .i64 2) ∧ w' = w := by
  have hm := may_nil w at_ m
  go_enter Try.func17, Try.ntmps17
  go_wp2_with (go_at_call 44; (with_reducible refine hm.mono ?_); rintro e u ⟨rfl, rfl⟩)
  go_ret
  exact ⟨rfl, rfl⟩
theorem store_err (o : MObj) (w : World) (h : MemAt w o) (at_ : Nat) (m : Int) (x : Value) (ha : at_ < 18446744073709551616) (hm : -9223372036854775808 ≤ m ∧ m ≤ 9223372036854775807) (E : Int) (he : mayE o.n at_ m = E) (hE : (E != 0) = true) :
    Calls Try.prog 17 #[.pointer (some ⟨o.p, 0, none⟩), .int .u64 (at_ : Nat), .int .i64 m, x] w fun e w' => e = .returned (.int .i64 E) ∧ w' = w := by
  have hmm := may_k o w h at_ m ha hm
  rw [he] at hmm
  clear he h
  go_enter Try.func17, Try.ntmps17
  go_wp2_with (go_at_call 44; (with_reducible refine hmm.mono ?_); rintro e u ⟨rfl, rfl⟩)
  go_ret
  exact ⟨rfl, rfl⟩
/-- The bytes behind the storing of the lowest k bytes of x from a place on. -/
def storeN (β : Nat → Nat) (s x : Nat) : Nat → (Nat → Nat)
  | 0 => β
  | k + 1 => upd (storeN β s x k) (s + k) (x / 2 ^ (8 * k) % 256)
theorem MemAt.drew {w : World} {o : MObj} (h : MemAt w o) : MemAt w.drew o := h.keep (S := fun _ => False) (Keep.refl _ w).drew (fun _ _ h => h)
def withβ (o : MObj) (γ : Nat → Nat) : MObj := { o with β := γ }
theorem MemAt.set {w : World} {o : MObj} (h : MemAt w o) {b : Nat} (hb : o.q = some b) {i x : Nat} (hi : i < o.n) (hx : x < 256) : MemAt (w.setCell ⟨b, i, none⟩ (.int .u8 (x : Nat))) (withβ o (upd o.β i x)) := by
  have hr := h.row
  have hap := h.apart
  rw [hb] at hr hap
  refine ⟨?_, ?_, h.pages, h.most, h.apart⟩
  · rw [heap_setCell_other _ _ _ _ (by intro e; exact hap (by rw [show (withβ o (upd o.β i x)).p = o.p from rfl] at e; rw [e]))]
    exact h.obj
  · show RowAt _ o.q o.n o.c _
    rw [hb]
    exact BytesAt.set hr hi hx

set_option maxHeartbeats 2000000 in
theorem store_1 (o : MObj) (w : World) (h : MemAt w o) (at_ x : Nat) (hin : at_ + 1 ≤ o.n) :
    Calls Try.prog 17 #[.pointer (some ⟨o.p, 0, none⟩), .int .u64 (at_ : Nat), .int .i64 1, .int .u64 (x : Nat)] w fun e w' => e = .returned (.int .i64 0) ∧ MemAt w' (withβ o (storeN o.β at_ x 1)) ∧ Keep (fun k => o.q = some k) w w' := by
  have hz := h.size
  have hmm := may_k o w h at_ 1 (by omega) (by decide)
  rw [show mayE o.n at_ 1 = 0 by unfold mayE; rw [if_pos (by decide), if_pos (by simpa using hin)]] at hmm
  obtain ⟨b, hb, hr⟩ := h.row.pos (by omega)
  have hcap := hr.le
  have hk := Keep.refl (fun k => o.q = some k) w
  go_enter Try.func17, Try.ntmps17
  go_wp2_with (go_at_call 44; (with_reducible refine hmm.mono ?_); rintro e u ⟨rfl, hu⟩; rw [hu]; clear hu)
  clear hmm
  go_loopw [19] (fun jv wr => ∃ j : Nat, j ≤ 1 ∧ jv = .int .i64 j ∧ MemAt wr (withβ o (storeN o.β at_ x j)) ∧ Keep (fun k => o.q = some k) w wr) (fun jv _ => 1 - (intOf jv).toNat)
  case atStart => exact ⟨0, Nat.zero_le _, rfl, h, hk⟩
  case round =>
    clear h hk hr
    obtain ⟨j, hj, rfl, h, hk⟩ := hrel
    by_cases hjl : j < 1
    · have hr := h.row
      have hc0 := h.c0
      have hset : MemAt (wr.setCell ⟨b, at_ + j, none⟩ (.int .u8 ((x : Int) / 2 ^ (8 * j) % 256))).drew (withβ o (storeN o.β at_ x (j + 1))) := by
        have := h.set hb (i := at_ + j) (x := x / 2 ^ (8 * j) % 256) (by show _ < o.n; omega) (by omega)
        rw [show ((x / 2 ^ (8 * j) % 256 : Nat) : Int) = (x : Int) / 2 ^ (8 * j) % 256 by simp] at this
        exact this.drew
      have hkset : Keep (fun k => o.q = some k) w (wr.setCell ⟨b, at_ + j, none⟩ (.int .u8 ((x : Int) / 2 ^ (8 * j) % 256))).drew := (hk.setCell (.inl hb) _).drew
      simp only [withβ] at hc0 hr
      rw [hb] at hc0 hr
      rw [show headOf (some b) = some ⟨b, 0, none⟩ from rfl] at hc0
      have hcell := BytesAt.cell hr (i := at_ + j) (by omega)
      have hfz := BytesAt.frozen hr (at_ + j)
      have hcap := BytesAt.le hr
      go_wp2
      go_region
      go_wp2
      exact ⟨⟨j + 1, by omega, by go_num, hset, hkset⟩, by simp [intOf]; omega⟩
    · obtain rfl : j = 1 := by omega
      go_wp2
      go_ret
      exact ⟨rfl, h, hk⟩

set_option maxHeartbeats 2000000 in
theorem store_2 (o : MObj) (w : World) (h : MemAt w o) (at_ x : Nat) (hin : at_ + 2 ≤ o.n) :
    Calls Try.prog 17 #[.pointer (some ⟨o.p, 0, none⟩), .int .u64 (at_ : Nat), .int .i64 2, .int .u64 (x : Nat)] w fun e w' => e = .returned (.int .i64 0) ∧ MemAt w' (withβ o (storeN o.β at_ x 2)) ∧ Keep (fun k => o.q = some k) w w' := by
  have hz := h.size
  have hmm := may_k o w h at_ 2 (by omega) (by decide)
  rw [show mayE o.n at_ 2 = 0 by unfold mayE; rw [if_pos (by decide), if_pos (by simpa using hin)]] at hmm
  obtain ⟨b, hb, hr⟩ := h.row.pos (by omega)
  have hcap := hr.le
  have hk := Keep.refl (fun k => o.q = some k) w
  go_enter Try.func17, Try.ntmps17
  go_wp2_with (go_at_call 44; (with_reducible refine hmm.mono ?_); rintro e u ⟨rfl, hu⟩; rw [hu]; clear hu)
  clear hmm
  go_loopw [19] (fun jv wr => ∃ j : Nat, j ≤ 2 ∧ jv = .int .i64 j ∧ MemAt wr (withβ o (storeN o.β at_ x j)) ∧ Keep (fun k => o.q = some k) w wr) (fun jv _ => 2 - (intOf jv).toNat)
  case atStart => exact ⟨0, Nat.zero_le _, rfl, h, hk⟩
  case round =>
    clear h hk hr
    obtain ⟨j, hj, rfl, h, hk⟩ := hrel
    by_cases hjl : j < 2
    · have hr := h.row
      have hc0 := h.c0
      have hset : MemAt (wr.setCell ⟨b, at_ + j, none⟩ (.int .u8 ((x : Int) / 2 ^ (8 * j) % 256))).drew (withβ o (storeN o.β at_ x (j + 1))) := by
        have := h.set hb (i := at_ + j) (x := x / 2 ^ (8 * j) % 256) (by show _ < o.n; omega) (by omega)
        rw [show ((x / 2 ^ (8 * j) % 256 : Nat) : Int) = (x : Int) / 2 ^ (8 * j) % 256 by simp] at this
        exact this.drew
      have hkset : Keep (fun k => o.q = some k) w (wr.setCell ⟨b, at_ + j, none⟩ (.int .u8 ((x : Int) / 2 ^ (8 * j) % 256))).drew := (hk.setCell (.inl hb) _).drew
      simp only [withβ] at hc0 hr
      rw [hb] at hc0 hr
      rw [show headOf (some b) = some ⟨b, 0, none⟩ from rfl] at hc0
      have hcell := BytesAt.cell hr (i := at_ + j) (by omega)
      have hfz := BytesAt.frozen hr (at_ + j)
      have hcap := BytesAt.le hr
      go_wp2
      go_region
      go_wp2
      exact ⟨⟨j + 1, by omega, by go_num, hset, hkset⟩, by simp [intOf]; omega⟩
    · obtain rfl : j = 2 := by omega
      go_wp2
      go_ret
      exact ⟨rfl, h, hk⟩

set_option maxHeartbeats 2000000 in
theorem store_4 (o : MObj) (w : World) (h : MemAt w o) (at_ x : Nat) (hin : at_ + 4 ≤ o.n) :
    Calls Try.prog 17 #[.pointer (some ⟨o.p, 0, none⟩), .int .u64 (at_ : Nat), .int .i64 4, .int .u64 (x : Nat)] w fun e w' => e = .returned (.int .i64 0) ∧ MemAt w' (withβ o (storeN o.β at_ x 4)) ∧ Keep (fun k => o.q = some k) w w' := by
  have hz := h.size
  have hmm := may_k o w h at_ 4 (by omega) (by decide)
  rw [show mayE o.n at_ 4 = 0 by unfold mayE; rw [if_pos (by decide), if_pos (by simpa using hin)]] at hmm
  obtain ⟨b, hb, hr⟩ := h.row.pos (by omega)
  have hcap := hr.le
  have hk := Keep.refl (fun k => o.q = some k) w
  go_enter Try.func17, Try.ntmps17
  go_wp2_with (go_at_call 44; (with_reducible refine hmm.mono ?_); rintro e u ⟨rfl, hu⟩; rw [hu]; clear hu)
  clear hmm
  go_loopw [19] (fun jv wr => ∃ j : Nat, j ≤ 4 ∧ jv = .int .i64 j ∧ MemAt wr (withβ o (storeN o.β at_ x j)) ∧ Keep (fun k => o.q = some k) w wr) (fun jv _ => 4 - (intOf jv).toNat)
  case atStart => exact ⟨0, Nat.zero_le _, rfl, h, hk⟩
  case round =>
    clear h hk hr
    obtain ⟨j, hj, rfl, h, hk⟩ := hrel
    by_cases hjl : j < 4
    · have hr := h.row
      have hc0 := h.c0
      have hset : MemAt (wr.setCell ⟨b, at_ + j, none⟩ (.int .u8 ((x : Int) / 2 ^ (8 * j) % 256))).drew (withβ o (storeN o.β at_ x (j + 1))) := by
        have := h.set hb (i := at_ + j) (x := x / 2 ^ (8 * j) % 256) (by show _ < o.n; omega) (by omega)
        rw [show ((x / 2 ^ (8 * j) % 256 : Nat) : Int) = (x : Int) / 2 ^ (8 * j) % 256 by simp] at this
        exact this.drew
      have hkset : Keep (fun k => o.q = some k) w (wr.setCell ⟨b, at_ + j, none⟩ (.int .u8 ((x : Int) / 2 ^ (8 * j) % 256))).drew := (hk.setCell (.inl hb) _).drew
      simp only [withβ] at hc0 hr
      rw [hb] at hc0 hr
      rw [show headOf (some b) = some ⟨b, 0, none⟩ from rfl] at hc0
      have hcell := BytesAt.cell hr (i := at_ + j) (by omega)
      have hfz := BytesAt.frozen hr (at_ + j)
      have hcap := BytesAt.le hr
      go_wp2
      go_region
      go_wp2
      exact ⟨⟨j + 1, by omega, by go_num, hset, hkset⟩, by simp [intOf]; omega⟩
    · obtain rfl : j = 4 := by omega
      go_wp2
      go_ret
      exact ⟨rfl, h, hk⟩

set_option maxHeartbeats 2000000 in
theorem store_8 (o : MObj) (w : World) (h : MemAt w o) (at_ x : Nat) (hin : at_ + 8 ≤ o.n) :
    Calls Try.prog 17 #[.pointer (some ⟨o.p, 0, none⟩), .int .u64 (at_ : Nat), .int .i64 8, .int .u64 (x : Nat)] w fun e w' => e = .returned (.int .i64 0) ∧ MemAt w' (withβ o (storeN o.β at_ x 8)) ∧ Keep (fun k => o.q = some k) w w' := by
  have hz := h.size
  have hmm := may_k o w h at_ 8 (by omega) (by decide)
  rw [show mayE o.n at_ 8 = 0 by unfold mayE; rw [if_pos (by decide), if_pos (by simpa using hin)]] at hmm
  obtain ⟨b, hb, hr⟩ := h.row.pos (by omega)
  have hcap := hr.le
  have hk := Keep.refl (fun k => o.q = some k) w
  go_enter Try.func17, Try.ntmps17
  go_wp2_with (go_at_call 44; (with_reducible refine hmm.mono ?_); rintro e u ⟨rfl, hu⟩; rw [hu]; clear hu)
  clear hmm
  go_loopw [19] (fun jv wr => ∃ j : Nat, j ≤ 8 ∧ jv = .int .i64 j ∧ MemAt wr (withβ o (storeN o.β at_ x j)) ∧ Keep (fun k => o.q = some k) w wr) (fun jv _ => 8 - (intOf jv).toNat)
  case atStart => exact ⟨0, Nat.zero_le _, rfl, h, hk⟩
  case round =>
    clear h hk hr
    obtain ⟨j, hj, rfl, h, hk⟩ := hrel
    by_cases hjl : j < 8
    · have hr := h.row
      have hc0 := h.c0
      have hset : MemAt (wr.setCell ⟨b, at_ + j, none⟩ (.int .u8 ((x : Int) / 2 ^ (8 * j) % 256))).drew (withβ o (storeN o.β at_ x (j + 1))) := by
        have := h.set hb (i := at_ + j) (x := x / 2 ^ (8 * j) % 256) (by show _ < o.n; omega) (by omega)
        rw [show ((x / 2 ^ (8 * j) % 256 : Nat) : Int) = (x : Int) / 2 ^ (8 * j) % 256 by simp] at this
        exact this.drew
      have hkset : Keep (fun k => o.q = some k) w (wr.setCell ⟨b, at_ + j, none⟩ (.int .u8 ((x : Int) / 2 ^ (8 * j) % 256))).drew := (hk.setCell (.inl hb) _).drew
      simp only [withβ] at hc0 hr
      rw [hb] at hc0 hr
      rw [show headOf (some b) = some ⟨b, 0, none⟩ from rfl] at hc0
      have hcell := BytesAt.cell hr (i := at_ + j) (by omega)
      have hfz := BytesAt.frozen hr (at_ + j)
      have hcap := BytesAt.le hr
      go_wp2
      go_region
      go_wp2
      exact ⟨⟨j + 1, by omega, by go_num, hset, hkset⟩, by simp [intOf]; omega⟩
    · obtain rfl : j = 8 := by omega
      go_wp2
      go_ret
      exact ⟨rfl, h, hk⟩

/-- The bytes behind a store, whether it traps or not. -/
def storeB (o : MObj) (at_ : Nat) (m : Int) (x : Nat) : Nat → Nat := if mayE o.n at_ m = 0 then storeN o.β at_ x m.toNat else o.β
theorem store_k (o : MObj) (w : World) (h : MemAt w o) (at_ : Nat) (m : Int) (x : Nat) (ha : at_ < 18446744073709551616) (hm : -9223372036854775808 ≤ m ∧ m ≤ 9223372036854775807) :
    Calls Try.prog 17 #[.pointer (some ⟨o.p, 0, none⟩), .int .u64 (at_ : Nat), .int .i64 m, .int .u64 (x : Nat)] w fun e w' => e = .returned (.int .i64 (mayE o.n at_ m)) ∧ MemAt w' (withβ o (storeB o at_ m x)) ∧ Keep (fun k => o.q = some k) w w' := by
  by_cases he : mayE o.n at_ m = 0
  · unfold storeB
    rw [if_pos he]
    unfold mayE at *
    by_cases hs : szOk m = true
    · rw [if_pos hs] at he ⊢
      by_cases hin : at_ + m.toNat ≤ o.n
      · rw [if_pos hin]
        rcases szOk_cases hs with rfl | rfl | rfl | rfl
        · exact store_1 o w h at_ x hin
        · exact store_2 o w h at_ x hin
        · exact store_4 o w h at_ x hin
        · exact store_8 o w h at_ x hin
      · rw [if_neg hin] at he; omega
    · rw [if_neg hs] at he; omega
  · unfold storeB
    rw [if_neg he]
    refine (store_err o w h at_ m _ ha hm _ rfl (bne_iff_ne.2 he)).mono ?_
    rintro e u ⟨rfl, rfl⟩
    exact ⟨rfl, h, Keep.refl _ _⟩

end Go.Proofs.Ytlcndenbnokcjaa
