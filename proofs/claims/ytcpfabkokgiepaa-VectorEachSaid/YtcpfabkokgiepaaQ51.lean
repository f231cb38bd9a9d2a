/-
  Texts VcRk.
-/
import Derived.Test.YtcpfabkokgiepaaQ22
import Derived.Test.YtcpfabkokgiepaaQ25
import Derived.Test.YtcpfabkokgiepaaQ41
import Derived.Test.YtcpfabkokgiepaaQ45
import Derived.Test.YtcpfabkokgiepaaQ46
import Derived.Test.YtcpfabkokgiepaaQ47
import Derived.Test.YtcpfabkokgiepaaQ48
import Derived.Test.YtcpfabkokgiepaaQ49
import Derived.Test.YtcpfabkokgiepaaQ50
set_option linter.unusedSimpArgs false
set_option linter.unusedVariables false
set_option maxHeartbeats 8000000
open Pl
namespace Pl
open Go
open Go.Proofs.Ytcpfabkokgiepaa
theorem takeV_ex : ∀ (ts : List Int) (hs : List Nat), (∀ t ∈ ts, t = 123 ∨ t = 127 ∨ t = 126) → hs.length = wOf ts → ∃ vs, tX ts hs = some vs
 | [], hs, _, h => by
   have : hs = [] := List.eq_nil_of_length_eq_zero (by simpa [wOf] using h)
   subst this
   exact ⟨[], rfl⟩
 | t :: ts, hs, ht, h => by
   have h1 := fun k hk => ht k (List.mem_cons_of_mem _ hk)
   unfold wOf at h
   unfold tX
   rcases ht t List.mem_cons_self with rfl | rfl | rfl
   ·rw [if_pos rfl]
    match hs, h with
    | p :: q :: r, h =>
      obtain ⟨vs, hv⟩ := takeV_ex ts r h1 (by simp [nOf] at h; omega)
      exact ⟨_, by simp only [hv]; rfl⟩
    | [], h => simp [nOf] at h; omega
    | [_], h => simp [nOf] at h; omega
   ·rw [if_neg (by decide), if_pos (by decide)]
    match hs, h with
    | p :: r, h =>
      obtain ⟨vs, hv⟩ := takeV_ex ts r h1 (by simp [nOf] at h; omega)
      exact ⟨_, by simp only [hv]; rfl⟩
    | [], h => simp [nOf] at h; omega
   ·rw [if_neg (by decide), if_pos (by decide)]
    match hs, h with
    | p :: r, h =>
      obtain ⟨vs, hv⟩ := takeV_ex ts r h1 (by simp [nOf] at h; omega)
      exact ⟨_, by simp only [hv]; rfl⟩
    | [], h => simp [nOf] at h; omega
theorem takeV_wid : ∀ (ts : List Int) (hs : List Nat) (vs : List Vec), tX ts hs = some vs → hs.length = wOf ts
 | [], [], _, _ => rfl
 | [], _ :: _, _, h => by cases h
 | t :: ts, hs, vs, h => by
   unfold tX at h
   unfold wOf
   split at h
   ·rename_i h123
    match hs, h with
    | p :: q :: r, h =>
      simp only [Option.map_eq_some_iff] at h
      obtain ⟨v, hv, _⟩ := h
      have := takeV_wid ts r v hv
      subst h123
      simp [nOf]; omega
   ·rename_i h123
    split at h
    ·rename_i h7
     match hs, h with
     | p :: r, h =>
       simp only [Option.map_eq_some_iff] at h
       obtain ⟨v, hv, _⟩ := h
       have := takeV_wid ts r v hv
       unfold nOf
       rw [if_pos h7]
       simp; omega
    ·cases h
theorem fa_ty : ∀ κ : Fin 256, isB (64768 + (κ.val : Int)) = true → (∀ t ∈ tyK κ.val, t = 123 ∨ t = 127 ∨ t = 126) ∧ (tyK κ.val).length ≤ 3 ∧ (tyK κ.val = [] → (toK κ.val).getD 0 0 = 123 ∧ fmK κ.val = 11) := by decide +kernel
end Pl
namespace Go.Proofs.Ytcpfabkokgiepaa
open Go.RowKit Pl
theorem rdo_k (op A B : Int) (lo hi : Nat) (L hv : Value) (hs : List Nat) (w : World) (ho : -9223372036854775808 ≤ op ∧ op ≤ 9223372036854775807) (hlo : lo < 2 ^ 64) (hhi : hi < 2 ^ 64) (hH : LView .u64 w hv (hs.map Nat.cast)) (hlt : ∀ x ∈ hs, x < 18446744073709551616) (hhs : hs.length ≤ 9223372036854775807) :
 Calls Try.prog 11 #[.agg #[.int .i64 op, .int .i64 A, .int .i64 B, .int .u64 (lo : Nat), .int .u64 (hi : Nat), L], hv] w fun e w' => DoIs w.heap.size (doV op A lo hi hs) e w' ∧ Below w.heap.size w w' := by
 cases hb : isB op with
 | false =>
   rw [doV_no hb]
   exact (rdo_no op A B lo hi L hv w (fun W => by have := ris_k op W; rw [hb] at this; exact this)).mono fun e w' ⟨h1, h2⟩ => ⟨d8 h1, h2⟩
 | true =>
   have HIS := fun W => by have := ris_k op W; rw [hb] at this; exact this
   obtain ⟨r, hr⟩ : ∃ r, pA op = some r := by
    unfold isB at hb
    cases h : pA op with
    | none => rw [h] at hb; cases hb
    | some r => exact ⟨r, rfl⟩
   have fit := rowFit hr hb
   obtain ⟨ho1, ho2⟩ := fit.range
   obtain ⟨κ, hκ, rfl⟩ : ∃ κ : Nat, κ < 256 ∧ op = 64768 + (κ : Int) := ⟨(op - 64768).toNat, by omega, by omega⟩
   have ety : s8 r = tyK κ := by unfold tyK; rw [hr]
   have HOF := fun W => rof_row (64768 + (κ : Int)) r W hr
   rw [ety] at HOF
   obtain ⟨htr, htl, hnil⟩ := fa_ty ⟨κ, hκ⟩ hb
   replace htr : ∀ t ∈ tyK κ, t = 123 ∨ t = 127 ∨ t = 126 := htr
   replace htl : (tyK κ).length ≤ 3 := htl
   replace hnil : tyK κ = [] → (toK κ).getD 0 0 = 123 ∧ fmK κ = 11 := hnil
   by_cases hl : hs.length = wOf (tyK κ)
   ·obtain ⟨vs, hvs⟩ := takeV_ex (tyK κ) hs htr hl
    have hvl := takeV_len _ _ _ hvs
    by_cases h0 : vs.length = 0
    ·have ht0 : tyK κ = [] := List.eq_nil_of_length_eq_zero (by omega)
     obtain ⟨n1, n2⟩ := hnil ht0
     have e : doV (64768 + (κ : Int)) A lo hi hs = ([mT (tQ lo hi) 64 0, mT (tQ lo hi) 64 1], 0) := by
      rw [fR κ A lo hi hs vs hb n1 hvs]
      unfold uS
      rw [if_pos n2]
      exact doM_ok _
     rw [e]
     exact rdo_0 _ A B r.form r.lim lo hi L hv hs (tyK κ) (rR r) w HIS HOF hH (by omega) htr hhs hlt vs hl hvs hlo hhi h0
    ·rw [do_same κ hκ A lo hi hs vs hb hvs (fun e => h0 (by rw [hvl, e]; rfl)) hlt]
     have hp : 0 < hs.length := by
      cases hs with
      | nil =>
        cases hty : tyK κ with
        | nil => exact absurd (by rw [hvl, hty]; rfl) h0
        | cons t ts =>
          rw [hty] at hl htr
          have h3 := htr t List.mem_cons_self
          have : nOf t ≠ 0 := by rcases h3 with rfl | rfl | rfl <;> decide
          simp [wOf] at hl; omega
      | cons x l => simp
     have hxl : hs.getD (hs.length - 1) 0 < 18446744073709551616 := hlt _ (List.mem_of_getElem? (pE hs (hs.length - 1) 0 (by omega)))
     have hx0 : hs.getD 0 0 < 18446744073709551616 := hlt _ (List.mem_of_getElem? (pE hs 0 0 hp))
     have ek : (64768 + (κ : Int)) - 64768 = (κ : Int) := by omega
     have hT := testV_range (64768 + (κ : Int)) (vs.getD 0 0)
     have hT2 : (((uH (64768 + (κ : Int)) (vs.getD 0 0)).1.toNat : Nat) : Int) = (uH (64768 + (κ : Int)) (vs.getD 0 0)).1 := Int.toNat_of_nonneg hT.1
     unfold refV
     refine rdo_n _ A B r.form r.lim lo hi L hv hs (tyK κ) (rR r) w HIS HOF hH (by omega) htr hhs hlt vs hl hvs hlo hhi (hs.getD 0 0) (hs.getD (hs.length - 1) 0) _ _ (vs.getD 0 0) (vs.getD (vs.length - 1) 0) _ _ _ _ _ _ _ _ _ _ vs.length ⟨by omega, by omega⟩ rfl (pE vs 0 0 (by omega)) (pE vs (vs.length - 1) 0 (by omega)) (pE hs 0 0 hp) (pE hs (hs.length - 1) 0 (by omega)) ?_ ?_ ?_ ?_ ?_ ?_ ?_ ⟨by omega, by omega⟩ (by omega)
     ·intro W; rw [ek]; exact rsplat_k κ _ W hx0
     ·intro W; exact rshuf_s _ _ _ W
     ·intro W; exact rswiz_s _ _ W
     ·intro W; rw [ek]; exact rext_k κ A _ W
     ·intro W; rw [ek]; exact rrepl_k κ A _ _ W hxl
     ·intro W; rw [hT2]; exact rtest_any _ _ W
     ·intro W lv hlv
      obtain ⟨g, c, rfl, hg, hvx⟩ := hlv.ex
      refine rest_w _ g c vs.length (hs.getD (hs.length - 1) 0) _ (vs.getD 0 0) (vs.getD (vs.length - 1) 0) _ W rfl ⟨by omega, by omega⟩ hg (hvx 0 _ (pE vs 0 0 (by omega))) (hvx _ _ (pE vs (vs.length - 1) 0 (by omega))) _ _ (fun u hu => rbits_p _ _ vs u ho (hlv.below hu) (by omega)) _ _ (fun u hu => rau_p _ _ u ho) _ _ (fun u hu => pM _ _ u) _ _ (fun u hu => ?_) _ _ (fun u hu => rab_p _ _ _ u ho) _ _ (fun u hu => rcmp_any _ _ _ u ho) _ _ (fun u hu => rbin_any _ _ _ u ho) rfl
      have := rsh_p (64768 + (κ : Int)) (vs.getD 0 0) (hs.getD (hs.length - 1) 0 % 4294967296) u ho (by omega)
      rw [Int.natCast_emod] at this
      exact this
   ·have e : doV (64768 + (κ : Int)) A lo hi hs = ([], 1) := by
     rw [doV_row hr hb]
     refine doR_err ?_
     rw [ety]
     cases h : tX (tyK κ) hs with
     | none => rfl
     | some vs => exact absurd (takeV_wid _ _ _ h) hl
    rw [e]
    exact (rdo_len _ A B r.form r.lim lo hi L hv hs (tyK κ) (rR r) w HIS HOF hH (by omega) htr hhs (by omega)).mono fun e w' ⟨h1, h2⟩ => ⟨d8 h1, h2⟩
end Go.Proofs.Ytcpfabkokgiepaa
