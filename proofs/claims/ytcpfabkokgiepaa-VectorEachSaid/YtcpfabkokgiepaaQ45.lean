/-
  Texts VcRl.
-/
import Derived.Test.YtcpfabkokgiepaaQ44
set_option linter.unusedSimpArgs false
set_option linter.unusedVariables false
set_option maxHeartbeats 8000000
open Pl
namespace Pl
open Go
open Go.Proofs.Ytcpfabkokgiepaa
def restV (op : Int) (l : List Vec) (xl : Nat) : Vec :=
 if (rT op l).2 = 0 then (rT op l).1 else if (unV op (l.getD 0 0)).2 = 0 then (unV op (l.getD 0 0)).1 else if (unW op (l.getD 0 0)).2 = 0 then (unW op (l.getD 0 0)).1
 else if (shV op (l.getD 0 0) (xl % 4294967296)).2 = 0 then (shV op (l.getD 0 0) (xl % 4294967296)).1 else if (p9 op (l.getD 0 0) (l.getD (l.length - 1) 0)).2 = 0 then (p9 op (l.getD 0 0) (l.getD (l.length - 1) 0)).1
 else if (d9 op (l.getD 0 0) (l.getD (l.length - 1) 0)).2 = 0 then (d9 op (l.getD 0 0) (l.getD (l.length - 1) 0)).1 else (binW op (l.getD 0 0) (l.getD (l.length - 1) 0)).1
def refV (op A : Int) (lo hi : Nat) (hs : List Nat) (vs : List Vec) : List Nat × Int :=
 hQ (op - 64768) (vK (op - 64768) (hs.getD 0 0)).2 (rC (tQ lo hi) (vs.getD 0 0) (vs.getD (vs.length - 1) 0)).2 (sS (op - 64768) A (vs.getD 0 0)).2 (v7 (op - 64768) A (vs.getD 0 0) (hs.getD (hs.length - 1) 0)).2 (uH op (vs.getD 0 0)).2
  (vK (op - 64768) (hs.getD 0 0)).1 (rC (tQ lo hi) (vs.getD 0 0) (vs.getD (vs.length - 1) 0)).1 (swizV (vs.getD 0 0) (vs.getD (vs.length - 1) 0)) (v7 (op - 64768) A (vs.getD 0 0) (hs.getD (hs.length - 1) 0)).1 (restV op vs (hs.getD (hs.length - 1) 0))
  (sS (op - 64768) A (vs.getD 0 0)).1 (uH op (vs.getD 0 0)).1.toNat
def tyK (κ : Nat) : List Int := match pA (64768 + (κ : Int)) with | none => [] | some r => s8 r
def toK (κ : Nat) : List Int := match pA (64768 + (κ : Int)) with | none => [] | some r => rR r
def fmK (κ : Nat) : Int := match pA (64768 + (κ : Int)) with | none => 0 | some r => r.form
theorem fR (κ : Nat) (A : Int) (lo hi : Nat) (hs : List Nat) (vs : List Vec) (hb : isB (64768 + (κ : Int)) = true) (ho : (toK κ).getD 0 0 = 123) (ht : tX (tyK κ) hs = some vs) :
 doV (64768 + (κ : Int)) A lo hi hs = doM (uS (64768 + (κ : Int)) A lo hi (fmK κ) (tyK κ) vs) := by
 unfold doV fmK
 unfold tyK at ht ⊢
 unfold toK at ho
 cases hr : pA (64768 + (κ : Int)) with
 | none => rw [hr] at ho; cases ho
 | some r =>
   rw [hr] at ho ht
   dsimp only at ho ht ⊢
   rw [if_pos hb]
   unfold doR
   rw [ht]
   exact if_pos ho
theorem doV_nu (κ : Nat) (A : Int) (lo hi : Nat) (hs : List Nat) (vs : List Vec) (hb : isB (64768 + (κ : Int)) = true) (ho : (toK κ).getD 0 0 ≠ 123) (ht : tX (tyK κ) hs = some vs) :
 doV (64768 + (κ : Int)) A lo hi hs = doN (numV (64768 + (κ : Int)) A (vs.getD 0 0)) := by
 unfold doV
 unfold tyK at ht
 unfold toK at ho
 cases hr : pA (64768 + (κ : Int)) with
 | none => unfold isB at hb; rw [hr] at hb; cases hb
 | some r =>
   rw [hr] at ho ht
   dsimp only at ho ht ⊢
   rw [if_pos hb]
   unfold doR
   rw [ht]
   exact if_neg ho
theorem eA (x : Nat) : mT (tQ x 0) 64 0 = x % 18446744073709551616 := by
 unfold tQ
 rw [uY _ 64 1 0 _ (by decide), if_neg (by decide), uY _ 64 0 0 _ (by decide), if_pos rfl]
theorem joinV_low32 (x : Nat) : mT (tQ x 0) 32 0 = x % 4294967296 := by
 have h := eA x
 unfold mT at h ⊢
 have e := fV (tQ x 0) 0 32 32
 have e2 : tW (tQ x 0) 0 (32 + 32) = x % 18446744073709551616 := h
 have hl := r9 (tQ x 0) 0 32
 rw [e2] at e
 have e3 : tW (tQ x 0) (32 * 0) 32 = tW (tQ x 0) 0 32 := rfl
 rw [e3]
 omega
theorem build_low (w n y : Nat) (hw : w ≤ 32) : mJ 0 w (fun _ => y % 4294967296) n = mJ 0 w (fun _ => y) n :=
 buildOn_congr _ _ _ _ _ fun i _ => Nat.mod_mod_of_dvd _ (Nat.pow_dvd_pow 2 hw)
theorem splat_low (κ : Nat) (y : Nat) (h : κ = 15 ∨ κ = 16 ∨ κ = 17) : vK ((64768 + (κ : Int)) - 64768) (y % 4294967296) = vK ((64768 + (κ : Int)) - 64768) y := by
 rcases h with rfl | rfl | rfl
 ·exact congrArg (·, (0 : Int)) (build_low 8 16 y (by decide))
 ·exact congrArg (·, (0 : Int)) (build_low 16 8 y (by decide))
 ·exact congrArg (·, (0 : Int)) (build_low 32 4 y (by decide))
theorem set_low (v : Vec) (w i y : Nat) (hw : w ≤ 32) : t7 v w i (y % 4294967296) = t7 v w i y :=
 setN_congr _ _ _ _ _ (Nat.mod_mod_of_dvd _ (Nat.pow_dvd_pow 2 hw))
theorem repl_low (κ : Nat) (A : Int) (a : Vec) (y : Nat) (h : κ = 23 ∨ κ = 26 ∨ κ = 28) : v7 ((64768 + (κ : Int)) - 64768) A a (y % 4294967296) = v7 ((64768 + (κ : Int)) - 64768) A a y := by
 unfold v7
 have hw : (vF ((64768 + (κ : Int)) - 64768)).1 ≤ 32 := by rcases h with rfl | rfl | rfl <;> decide
 rw [set_low _ _ _ _ hw]
theorem fU {p q : Nat → Bool} (h : (List.range 256).all (fun κ => p κ == q κ) = true) (κ : Nat) (hκ : κ < 256) : p κ = q κ := by
 have := List.all_eq_true.1 h κ (List.mem_range.2 hκ)
 simpa using this
theorem at_all {p : Nat → Bool} (h : (List.range 256).all p = true) (κ : Nat) (hκ : κ < 256) : p κ = true := List.all_eq_true.1 h κ (List.mem_range.2 hκ)
def unL : List Nat := [77, 96, 97, 98, 124, 125, 126, 127, 128, 129, 135, 136, 137, 138, 160, 161, 167, 168, 169, 170, 192, 193, 199, 200, 201, 202]
def biL : List Nat := [35, 36, 37, 38, 39, 40, 41, 42, 43, 44, 45, 46, 47, 48, 49, 50, 51, 52, 53, 54, 55, 56, 57, 58, 59, 60, 61, 62, 63, 64, 78, 79, 80, 81, 101, 102, 110, 111, 112, 113, 114, 115, 118, 119, 120, 121, 123, 130, 133, 134, 142, 143, 144, 145, 146, 147, 149, 150, 151, 152, 153, 155, 156, 157, 158, 159, 174, 177, 181, 182, 183, 184, 185, 186, 188, 189, 190, 191, 206, 209, 213, 214, 215, 216, 217, 218, 219, 220, 221, 222, 223]
def shL : List Nat := [107, 108, 109, 139, 140, 141, 171, 172, 173, 203, 204, 205]
def spL : List Nat := [15, 16, 17, 18]
def reL : List Nat := [23, 26, 28, 30]
def exL : List Nat := [21, 22, 24, 25, 27, 29]
def teL : List Nat := [83, 99, 100, 131, 132, 163, 164, 195, 196]
theorem fl_sp (n : Nat) : (List.range 256).all (fun κ => decide ((vK ((64768 + (κ : Int)) - 64768) n).2 = 0) == spL.contains κ) = true := by kernel_rfl
theorem fl_te (a : Vec) : (List.range 256).all (fun κ => decide ((uH (64768 + (κ : Int)) a).2 = 0) == teL.contains κ) = true := by kernel_rfl
theorem fl_sh (a : Vec) (n : Nat) : (List.range 256).all (fun κ => decide ((shV (64768 + (κ : Int)) a n).2 = 0) == shL.contains κ) = true := by kernel_rfl
theorem fl_un (a : Vec) : (List.range 256).all (fun κ => !unL.contains κ || (decide ((rT (64768 + (κ : Int)) [a]).2 = 0) || (decide ((unV (64768 + (κ : Int)) a).2 = 0) || decide ((unW (64768 + (κ : Int)) a).2 = 0)))) = true := by kernel_rfl
theorem fl_bi (a b : Vec) : (List.range 256).all (fun κ => !biL.contains κ || (decide ((rT (64768 + (κ : Int)) [a, b]).2 = 0) || (decide ((p9 (64768 + (κ : Int)) a b).2 = 0) || (decide ((d9 (64768 + (κ : Int)) a b).2 = 0) || decide ((binW (64768 + (κ : Int)) a b).2 = 0))))) = true := by kernel_rfl
theorem no_un (a b : Vec) : (List.range 256).all (fun κ => !(biL.contains κ || shL.contains κ) || (!decide ((unV (64768 + (κ : Int)) a).2 = 0) && !decide ((unW (64768 + (κ : Int)) a).2 = 0))) = true := by kernel_rfl
theorem no_bits (a b : Vec) : (List.range 256).all (fun κ => !shL.contains κ || !decide ((rT (64768 + (κ : Int)) [a, b]).2 = 0)) = true := by kernel_rfl
theorem cover : ∀ κ : Fin 256, isB (64768 + (κ.val : Int)) = true → tyK κ.val ≠ [] → unL.contains κ.val = true ∨ biL.contains κ.val = true ∨ shL.contains κ.val = true ∨ spL.contains κ.val = true ∨ reL.contains κ.val = true ∨ exL.contains κ.val = true ∨ teL.contains κ.val = true ∨ κ.val = 13 ∨ κ.val = 14 ∨ κ.val = 82 := by decide +kernel
theorem fa_un : ∀ κ : Fin 256, unL.contains κ.val = true → tyK κ.val = [123] ∧ (toK κ.val).getD 0 0 = 123 ∧ fmK κ.val ≠ 11 ∧ fmK κ.val ≠ 12 ∧ fmK κ.val ≠ 13 ∧ κ.val ≠ 13 ∧ κ.val ≠ 14 ∧ 30 < κ.val ∧ spL.contains κ.val = false ∧ teL.contains κ.val = false := by decide +kernel
theorem fa_bi : ∀ κ : Fin 256, biL.contains κ.val = true → tyK κ.val = [123, 123] ∧ (toK κ.val).getD 0 0 = 123 ∧ fmK κ.val ≠ 11 ∧ fmK κ.val ≠ 12 ∧ fmK κ.val ≠ 13 ∧ κ.val ≠ 13 ∧ κ.val ≠ 14 ∧ 30 < κ.val ∧ spL.contains κ.val = false ∧ teL.contains κ.val = false ∧ shL.contains κ.val = false := by decide +kernel
theorem fa_sh : ∀ κ : Fin 256, shL.contains κ.val = true → tyK κ.val = [123, 127] ∧ (toK κ.val).getD 0 0 = 123 ∧ fmK κ.val ≠ 11 ∧ fmK κ.val ≠ 12 ∧ fmK κ.val ≠ 13 ∧ κ.val ≠ 13 ∧ κ.val ≠ 14 ∧ 30 < κ.val ∧ spL.contains κ.val = false ∧ teL.contains κ.val = false := by decide +kernel
theorem fa_sp : ∀ κ : Fin 256, spL.contains κ.val = true → (tyK κ.val = [127] ∧ (κ.val = 15 ∨ κ.val = 16 ∨ κ.val = 17) ∨ tyK κ.val = [126] ∧ κ.val = 18) ∧ (toK κ.val).getD 0 0 = 123 ∧ fmK κ.val ≠ 11 ∧ fmK κ.val ≠ 12 ∧ fmK κ.val ≠ 13 ∧ κ.val ≠ 14 := by decide +kernel
theorem fa_re : ∀ κ : Fin 256, reL.contains κ.val = true → (tyK κ.val = [123, 127] ∧ (κ.val = 23 ∨ κ.val = 26 ∨ κ.val = 28) ∨ tyK κ.val = [123, 126] ∧ κ.val = 30) ∧ (toK κ.val).getD 0 0 = 123 ∧ fmK κ.val = 13 ∧ 21 ≤ κ.val ∧ κ.val ≤ 30 ∧ spL.contains κ.val = false ∧ (vF (64768 + (κ.val : Int) - 64768)).2 = true := by decide +kernel
theorem fa_ex : ∀ κ : Fin 256, exL.contains κ.val = true → tyK κ.val = [123] ∧ (toK κ.val).getD 0 0 ≠ 123 ∧ 21 ≤ κ.val ∧ κ.val ≤ 30 ∧ spL.contains κ.val = false ∧ teL.contains κ.val = false ∧ (vF (64768 + (κ.val : Int) - 64768)).2 = false := by decide +kernel
theorem fa_te : ∀ κ : Fin 256, teL.contains κ.val = true → tyK κ.val = [123] ∧ (toK κ.val).getD 0 0 ≠ 123 ∧ 30 < κ.val ∧ spL.contains κ.val = false := by decide +kernel
theorem fa_13 : tyK 13 = [123, 123] ∧ (toK 13).getD 0 0 = 123 ∧ fmK 13 = 12 := by decide +kernel
theorem fa_14 : tyK 14 = [123, 123] ∧ (toK 14).getD 0 0 = 123 ∧ fmK 14 ≠ 11 ∧ fmK 14 ≠ 12 ∧ fmK 14 ≠ 13 := by decide +kernel
theorem fa_82 : tyK 82 = [123, 123, 123] ∧ (toK 82).getD 0 0 = 123 ∧ fmK 82 ≠ 11 ∧ fmK 82 ≠ 12 ∧ fmK 82 ≠ 13 := by decide +kernel
theorem tk_1 {hs : List Nat} {vs : List Vec} (h : tX [123] hs = some vs) : ∃ p q, hs = [p, q] ∧ vs = [tQ p q] := by
 match hs, h with
 | [p, q], h => exact ⟨p, q, rfl, by simpa [tX] using h.symm⟩
 | [], h => simp [tX] at h
 | [_], h => simp [tX] at h
 | _ :: _ :: _ :: _, h => simp [tX] at h
theorem tk_2 {hs : List Nat} {vs : List Vec} (h : tX [123, 123] hs = some vs) : ∃ p q r s, hs = [p, q, r, s] ∧ vs = [tQ p q, tQ r s] := by
 match hs, h with
 | [p, q, r, s], h => exact ⟨p, q, r, s, rfl, by simpa [tX] using h.symm⟩
 | [], h => simp [tX] at h
 | [_], h => simp [tX] at h
 | [_, _], h => simp [tX] at h
 | [_, _, _], h => simp [tX] at h
 | _ :: _ :: _ :: _ :: _ :: _, h => simp [tX] at h
theorem tk_3 {hs : List Nat} {vs : List Vec} (h : tX [123, 123, 123] hs = some vs) : ∃ a b c, vs = [a, b, c] := by
 match hs, h with
 | [p, q, r, s, t, u], h => exact ⟨_, _, _, by simpa [tX] using h.symm⟩
 | [], h => simp [tX] at h
 | [_], h => simp [tX] at h
 | [_, _], h => simp [tX] at h
 | [_, _, _], h => simp [tX] at h
 | [_, _, _, _], h => simp [tX] at h
 | [_, _, _, _, _], h => simp [tX] at h
 | _ :: _ :: _ :: _ :: _ :: _ :: _ :: _, h => simp [tX] at h
theorem tk_i {hs : List Nat} {vs : List Vec} (h : tX [123, 127] hs = some vs) : ∃ p q y, hs = [p, q, y] ∧ vs = [tQ p q, tQ (y % 4294967296) 0] := gN
theorem tk_l {hs : List Nat} {vs : List Vec} (h : tX [123, 126] hs = some vs) : ∃ p q y, hs = [p, q, y] ∧ vs = [tQ p q, tQ y 0] := gN
theorem tk_0i {hs : List Nat} {vs : List Vec} (h : tX [127] hs = some vs) : ∃ y, hs = [y] ∧ vs = [tQ (y % 4294967296) 0] := jU
theorem tk_0l {hs : List Nat} {vs : List Vec} (h : tX [126] hs = some vs) : ∃ y, hs = [y] ∧ vs = [tQ y 0] := jU
theorem doM_ok (v : Vec) : doM (v, 0) = ([mT v 64 0, mT v 64 1], 0) := if_pos rfl
theorem doM_0 {m : Vec × Int} (h : m.2 = 0) : doM m = ([mT m.1 64 0, mT m.1 64 1], 0) := if_pos h
theorem ref_rest (κ : Nat) (hκ : κ < 256) (A : Int) (lo hi : Nat) (hs : List Nat) (vs : List Vec) (h30 : 30 < κ) (hsp : spL.contains κ = false) (hte : teL.contains κ = false) :
 refV (64768 + (κ : Int)) A lo hi hs vs = ([mT (restV (64768 + (κ : Int)) vs (hs.getD (hs.length - 1) 0)) 64 0, mT (restV (64768 + (κ : Int)) vs (hs.getD (hs.length - 1) 0)) 64 1], 0) := by
 have h1 := fU (fl_sp (hs.getD 0 0)) κ hκ
 have h2 := fU (fl_te (vs.getD 0 0)) κ hκ
 rw [hsp] at h1
 rw [hte] at h2
 unfold refV hQ
 rw [if_neg (of_decide_eq_false h1), if_neg (by omega), if_neg (by omega), if_neg (by omega), if_neg (of_decide_eq_false h2)]
theorem do_same (κ : Nat) (hκ : κ < 256) (A : Int) (lo hi : Nat) (hs : List Nat) (vs : List Vec) (hb : isB (64768 + (κ : Int)) = true) (ht : tX (tyK κ) hs = some vs) (hne : tyK κ ≠ []) (hlt : ∀ x ∈ hs, x < 18446744073709551616) :
 doV (64768 + (κ : Int)) A lo hi hs = refV (64768 + (κ : Int)) A lo hi hs vs := by
 rcases cover ⟨κ, hκ⟩ hb hne with hc | hc | hc | hc | hc | hc | hc | hc | hc | hc
 ·obtain ⟨f1, f2, f3, f4, f5, f6, f7, f8, f9, f10⟩ := fa_un ⟨κ, hκ⟩ hc
  replace f1 : tyK κ = [123] := f1
  have hx := at_all (fl_un (vs.getD 0 0)) κ hκ
  rw [show unL.contains κ = true from hc] at hx
  rw [fR κ A lo hi hs vs hb f2 ht, ref_rest κ hκ A lo hi hs vs f8 f9 f10]
  rw [f1] at ht ⊢
  obtain ⟨p, q, rfl, rfl⟩ := tk_1 ht
  generalize tQ p q = a at hx ⊢
  have hx' : (rT (64768 + (κ : Int)) [a]).2 = 0 ∨ (unV (64768 + (κ : Int)) a).2 = 0 ∨ (unW (64768 + (κ : Int)) a).2 = 0 := by simpa using hx
  unfold uS restV
  rw [if_neg f3, if_neg f4, if_neg f5, if_neg (by have : κ ≠ 14 := f7; omega), if_neg (by decide)]
  show doM (if (rT (64768 + (κ : Int)) [a]).2 = 0 then ((rT (64768 + (κ : Int)) [a]).1, 0) else if [a].length = 1 then (if (unV (64768 + (κ : Int)) a).2 = 0 then ((unV (64768 + (κ : Int)) a).1, 0) else unW (64768 + (κ : Int)) a) else _) = _
  by_cases hB : (rT (64768 + (κ : Int)) [a]).2 = 0
  ·rw [if_pos hB, if_pos hB]; exact doM_ok _
  ·rw [if_neg hB, if_neg hB, if_pos (show [a].length = 1 from rfl)]
   show _ = ([mT (if (unV (64768 + (κ : Int)) a).2 = 0 then (unV (64768 + (κ : Int)) a).1 else if (unW (64768 + (κ : Int)) a).2 = 0 then (unW (64768 + (κ : Int)) a).1 else _) 64 0, mT (if (unV (64768 + (κ : Int)) a).2 = 0 then (unV (64768 + (κ : Int)) a).1 else if (unW (64768 + (κ : Int)) a).2 = 0 then (unW (64768 + (κ : Int)) a).1 else _) 64 1], 0)
   by_cases hU : (unV (64768 + (κ : Int)) a).2 = 0
   ·rw [if_pos hU, if_pos hU]; exact doM_ok _
   ·have hW := (hx'.resolve_left hB).resolve_left hU
    rw [if_neg hU, if_neg hU, if_pos hW]; exact doM_0 hW
 ·obtain ⟨f1, f2, f3, f4, f5, f6, f7, f8, f9, f10, f11⟩ := fa_bi ⟨κ, hκ⟩ hc
  replace f1 : tyK κ = [123, 123] := f1
  rw [fR κ A lo hi hs vs hb f2 ht, ref_rest κ hκ A lo hi hs vs f8 f9 f10]
  rw [f1] at ht ⊢
  obtain ⟨p, q, r, s, rfl, rfl⟩ := tk_2 ht
  generalize tQ p q = a
  generalize tQ r s = b
  have hx := at_all (fl_bi a b) κ hκ
  have hn := at_all (no_un a b) κ hκ
  have hsh := fU (fl_sh a (s % 4294967296)) κ hκ
  rw [show biL.contains κ = true from hc] at hx hn
  rw [f11] at hsh
  have hx' : (rT (64768 + (κ : Int)) [a, b]).2 = 0 ∨ (p9 (64768 + (κ : Int)) a b).2 = 0 ∨ (d9 (64768 + (κ : Int)) a b).2 = 0 ∨ (binW (64768 + (κ : Int)) a b).2 = 0 := by simpa using hx
  have hn' : ¬ (unV (64768 + (κ : Int)) a).2 = 0 ∧ ¬ (unW (64768 + (κ : Int)) a).2 = 0 := by simpa using hn
  unfold uS restV
  rw [if_neg f3, if_neg f4, if_neg f5, if_neg (by have : κ ≠ 14 := f7; omega), if_neg (by decide)]
  by_cases hB : (rT (64768 + (κ : Int)) [a, b]).2 = 0
  ·rw [if_pos hB, if_pos hB]; exact doM_ok _
  ·rw [if_neg hB, if_neg hB, if_neg (show ¬ [a, b].length = 1 by simp), if_neg (by decide)]
   show doM (if (p9 (64768 + (κ : Int)) a b).2 = 0 then ((p9 (64768 + (κ : Int)) a b).1, 0) else if (d9 (64768 + (κ : Int)) a b).2 = 0 then ((d9 (64768 + (κ : Int)) a b).1, 0) else binW (64768 + (κ : Int)) a b) = _
   have hr : ∀ X : Vec, (if (unV (64768 + (κ : Int)) ([a, b].getD 0 0)).2 = 0 then (unV (64768 + (κ : Int)) ([a, b].getD 0 0)).1 else if (unW (64768 + (κ : Int)) ([a, b].getD 0 0)).2 = 0 then (unW (64768 + (κ : Int)) ([a, b].getD 0 0)).1 else if (shV (64768 + (κ : Int)) ([a, b].getD 0 0) ([p, q, r, s].getD ([p, q, r, s].length - 1) 0 % 4294967296)).2 = 0 then (shV (64768 + (κ : Int)) ([a, b].getD 0 0) ([p, q, r, s].getD ([p, q, r, s].length - 1) 0 % 4294967296)).1 else X) = X := fun X => by
    rw [if_neg (show ¬ (unV (64768 + (κ : Int)) ([a, b].getD 0 0)).2 = 0 from hn'.1), if_neg (show ¬ (unW (64768 + (κ : Int)) ([a, b].getD 0 0)).2 = 0 from hn'.2), if_neg (show ¬ (shV (64768 + (κ : Int)) ([a, b].getD 0 0) ([p, q, r, s].getD ([p, q, r, s].length - 1) 0 % 4294967296)).2 = 0 from of_decide_eq_false hsh)]
   rw [hr]
   show _ = ([mT (if (p9 (64768 + (κ : Int)) a b).2 = 0 then (p9 (64768 + (κ : Int)) a b).1 else if (d9 (64768 + (κ : Int)) a b).2 = 0 then (d9 (64768 + (κ : Int)) a b).1 else (binW (64768 + (κ : Int)) a b).1) 64 0, mT (if (p9 (64768 + (κ : Int)) a b).2 = 0 then (p9 (64768 + (κ : Int)) a b).1 else if (d9 (64768 + (κ : Int)) a b).2 = 0 then (d9 (64768 + (κ : Int)) a b).1 else (binW (64768 + (κ : Int)) a b).1) 64 1], 0)
   by_cases hU : (p9 (64768 + (κ : Int)) a b).2 = 0
   ·rw [if_pos hU, if_pos hU]; exact doM_ok _
   ·by_cases hC : (d9 (64768 + (κ : Int)) a b).2 = 0
    ·rw [if_neg hU, if_neg hU, if_pos hC, if_pos hC]; exact doM_ok _
    ·have hW := ((hx'.resolve_left hB).resolve_left hU).resolve_left hC
     rw [if_neg hU, if_neg hU, if_neg hC, if_neg hC]; exact doM_0 hW
 ·obtain ⟨f1, f2, f3, f4, f5, f6, f7, f8, f9, f10⟩ := fa_sh ⟨κ, hκ⟩ hc
  replace f1 : tyK κ = [123, 127] := f1
  rw [fR κ A lo hi hs vs hb f2 ht, ref_rest κ hκ A lo hi hs vs f8 f9 f10]
  rw [f1] at ht ⊢
  obtain ⟨p, q, y, rfl, rfl⟩ := tk_i ht
  generalize tQ p q = a
  have hn := at_all (no_un a a) κ hκ
  have hnb := at_all (no_bits a (tQ (y % 4294967296) 0)) κ hκ
  have hsh := fU (fl_sh a (y % 4294967296)) κ hκ
  rw [show shL.contains κ = true from hc] at hn hnb hsh
  have hn' : ¬ (unV (64768 + (κ : Int)) a).2 = 0 ∧ ¬ (unW (64768 + (κ : Int)) a).2 = 0 := by simpa using hn
  have hB : ¬ (rT (64768 + (κ : Int)) [a, tQ (y % 4294967296) 0]).2 = 0 := by simpa using hnb
  have hS : (shV (64768 + (κ : Int)) a (y % 4294967296)).2 = 0 := of_decide_eq_true hsh
  unfold uS restV
  rw [if_neg f3, if_neg f4, if_neg f5, if_neg (by have : κ ≠ 14 := f7; omega), if_neg (by decide), if_neg hB, if_neg hB, if_neg (show ¬ [a, tQ (y % 4294967296) 0].length = 1 by simp), if_pos (by decide)]
  show doM (shV (64768 + (κ : Int)) a (mT (tQ (y % 4294967296) 0) 32 0)) = _
  rw [joinV_low32, Nat.mod_mod]
  rw [if_neg (show ¬ (unV (64768 + (κ : Int)) ([a, tQ (y % 4294967296) 0].getD 0 0)).2 = 0 from hn'.1), if_neg (show ¬ (unW (64768 + (κ : Int)) ([a, tQ (y % 4294967296) 0].getD 0 0)).2 = 0 from hn'.2)]
  rw [if_pos (show (shV (64768 + (κ : Int)) ([a, tQ (y % 4294967296) 0].getD 0 0) ([p, q, y].getD ([p, q, y].length - 1) 0 % 4294967296)).2 = 0 from hS)]
  exact doM_0 hS
 ·obtain ⟨f1, f2, f3, f4, f5, f7⟩ := fa_sp ⟨κ, hκ⟩ hc
  rw [fR κ A lo hi hs vs hb f2 ht]
  have hm : ∀ v (T : Int), T ≠ 123 → uS (64768 + (κ : Int)) A lo hi (fmK κ) [T] [v] = vK ((64768 + (κ : Int)) - 64768) (mT v 64 0) := fun v T hT => by
   unfold uS
   rw [if_neg f3, if_neg f4, if_neg f5, if_neg (by have : κ ≠ 14 := f7; omega), if_pos (by simpa using hT)]
   rfl
  have key : ∀ (y : Nat) (vs : List Vec), refV (64768 + (κ : Int)) A lo hi [y] vs = doM (vK ((64768 + (κ : Int)) - 64768) y) := fun y vs => by
   have h1 := fU (fl_sp y) κ hκ
   rw [show spL.contains κ = true from hc] at h1
   have h1' := of_decide_eq_true h1
   rw [doM_0 h1']
   unfold refV hQ
   exact if_pos h1'
  rcases f1 with ⟨f1, hk⟩ | ⟨f1, hk⟩
  ·replace f1 : tyK κ = [127] := f1
   rw [f1] at ht ⊢
   obtain ⟨y, rfl, rfl⟩ := tk_0i ht
   rw [key, hm _ 127 (by decide), eA, show y % 4294967296 % 18446744073709551616 = y % 4294967296 by omega, splat_low κ y hk]
  ·replace f1 : tyK κ = [126] := f1
   rw [f1] at ht ⊢
   obtain ⟨y, rfl, rfl⟩ := tk_0l ht
   rw [key, hm _ 126 (by decide), eA, Nat.mod_eq_of_lt (hlt y (by simp))]
 ·obtain ⟨f1, f2, f3, f4, f5, f6, f7⟩ := fa_re ⟨κ, hκ⟩ hc
  rw [fR κ A lo hi hs vs hb f2 ht]
  replace f3 : fmK κ = 13 := f3
  replace f4 : 21 ≤ κ := f4
  replace f5 : κ ≤ 30 := f5
  have hm : ∀ a v ty, uS (64768 + (κ : Int)) A lo hi (fmK κ) ty [a, v] = v7 ((64768 + (κ : Int)) - 64768) A a (mT v 64 0) := fun a v ty => by
   unfold uS
   rw [f3, if_neg (by decide), if_neg (by decide), if_pos rfl]
   rfl
  have key : ∀ (p q y : Nat) (a v : Vec), refV (64768 + (κ : Int)) A lo hi [p, q, y] [a, v] = doM (v7 ((64768 + (κ : Int)) - 64768) A a y) := fun p q y a v => by
   have h1 := fU (fl_sp p) κ hκ
   rw [f6] at h1
   have h1' := of_decide_eq_false h1
   have h2 : ¬ (sS (64768 + (κ : Int) - 64768) A a).2 = 0 := by unfold sS; rw [if_pos (.inr (.inl f7))]; decide
   unfold refV hQ
   rw [if_neg (show ¬ (vK (64768 + (κ : Int) - 64768) ([p, q, y].getD 0 0)).2 = 0 from h1'), if_neg (by omega), if_neg (by omega), if_pos (by omega)]
   show (if (sS (64768 + (κ : Int) - 64768) A a).2 = 0 then _ else if (v7 (64768 + (κ : Int) - 64768) A a y).2 = 0 then ([mT (v7 (64768 + (κ : Int) - 64768) A a y).1 64 0, mT (v7 (64768 + (κ : Int) - 64768) A a y).1 64 1], 0) else ([], 1)) = _
   rw [if_neg h2]
   unfold doM
   by_cases h3 : (v7 (64768 + (κ : Int) - 64768) A a y).2 = 0
   ·rw [if_pos h3, if_pos h3]
   ·rw [if_neg h3, if_neg h3]
    unfold v7 at h3 ⊢
    split at h3
    ·rename_i h4; rw [if_pos h4]
    ·exact absurd rfl h3
  rcases f1 with ⟨f1, hk⟩ | ⟨f1, hk⟩
  ·replace f1 : tyK κ = [123, 127] := f1
   rw [f1] at ht ⊢
   obtain ⟨p, q, y, rfl, rfl⟩ := tk_i ht
   rw [key, hm, eA, show y % 4294967296 % 18446744073709551616 = y % 4294967296 by omega, repl_low κ A _ y hk]
  ·replace f1 : tyK κ = [123, 126] := f1
   rw [f1] at ht ⊢
   obtain ⟨p, q, y, rfl, rfl⟩ := tk_l ht
   rw [key, hm, eA, Nat.mod_eq_of_lt (hlt y (by simp))]
 ·obtain ⟨f1, f2, f4, f5, f6, f8, f7⟩ := fa_ex ⟨κ, hκ⟩ hc
  replace f4 : 21 ≤ κ := f4
  replace f5 : κ ≤ 30 := f5
  rw [doV_nu κ A lo hi hs vs hb f2 ht]
  replace f1 : tyK κ = [123] := f1
  rw [f1] at ht
  obtain ⟨p, q, rfl, rfl⟩ := tk_1 ht
  generalize tQ p q = a
  have h1 := fU (fl_sp p) κ hκ
  rw [f6] at h1
  have h1' := of_decide_eq_false h1
  have h2 := fU (fl_te a) κ hκ
  rw [f8] at h2
  have h2' := of_decide_eq_false h2
  have h3 : ¬ (v7 (64768 + (κ : Int) - 64768) A a q).2 = 0 := by unfold v7; rw [if_pos (.inr (.inl f7))]; decide
  show doN (numV (64768 + (κ : Int)) A a) = _
  unfold numV refV hQ
  rw [if_neg h2', if_neg (show ¬ (vK (64768 + (κ : Int) - 64768) ([p, q].getD 0 0)).2 = 0 from h1'), if_neg (by omega), if_neg (by omega), if_pos (by omega)]
  show doN (((sS (64768 + (κ : Int) - 64768) A a).1 : Int), (sS (64768 + (κ : Int) - 64768) A a).2) = (if (sS (64768 + (κ : Int) - 64768) A a).2 = 0 then ([(sS (64768 + (κ : Int) - 64768) A a).1], 0) else if (v7 (64768 + (κ : Int) - 64768) A a q).2 = 0 then _ else ([], 1))
  unfold doN
  by_cases h4 : (sS (64768 + (κ : Int) - 64768) A a).2 = 0
  ·rw [if_pos h4, if_pos h4]; rfl
  ·rw [if_neg h4, if_neg h4, if_neg h3]
   unfold sS at h4 ⊢
   split at h4
   ·rename_i h5; rw [if_pos h5]
   ·split at h4
    ·exact absurd rfl h4
    ·exact absurd rfl h4
 ·obtain ⟨f1, f2, f4, f6⟩ := fa_te ⟨κ, hκ⟩ hc
  rw [doV_nu κ A lo hi hs vs hb f2 ht]
  replace f1 : tyK κ = [123] := f1
  rw [f1] at ht
  obtain ⟨p, q, rfl, rfl⟩ := tk_1 ht
  generalize tQ p q = a
  have h1 := fU (fl_sp p) κ hκ
  rw [f6] at h1
  have h1' := of_decide_eq_false h1
  have h2 := fU (fl_te a) κ hκ
  rw [show teL.contains κ = true from hc] at h2
  have h2' := of_decide_eq_true h2
  replace f4 : 30 < κ := f4
  show doN (numV (64768 + (κ : Int)) A a) = _
  unfold numV refV hQ
  rw [if_pos h2', if_neg (show ¬ (vK (64768 + (κ : Int) - 64768) ([p, q].getD 0 0)).2 = 0 from h1'), if_neg (by omega), if_neg (by omega), if_neg (by omega)]
  rw [if_pos (show (uH (64768 + (κ : Int)) ([a].getD 0 0)).2 = 0 from h2')]
  rfl
 ·obtain rfl : κ = 13 := hc
  obtain ⟨f1, f2, f3⟩ := fa_13
  rw [fR 13 A lo hi hs vs hb f2 ht]
  rw [f1] at ht ⊢
  obtain ⟨p, q, r, s, rfl, rfl⟩ := tk_2 ht
  have h1 := fU (fl_sp p) 13 (by decide)
  have h1' := of_decide_eq_false (h1.trans (by decide))
  unfold uS refV hQ
  rw [f3, if_neg (by decide), if_pos rfl, if_neg (show ¬ (vK (64768 + ((13 : Nat) : Int) - 64768) ([p, q, r, s].getD 0 0)).2 = 0 from h1'), if_pos (by decide)]
  show doM (rC (tQ lo hi) (tQ p q) (tQ r s)) = (if (rC (tQ lo hi) (tQ p q) (tQ r s)).2 = 0 then ([mT (rC (tQ lo hi) (tQ p q) (tQ r s)).1 64 0, mT (rC (tQ lo hi) (tQ p q) (tQ r s)).1 64 1], 0) else ([], 1))
  unfold doM
  by_cases h3 : (rC (tQ lo hi) (tQ p q) (tQ r s)).2 = 0
  ·rw [if_pos h3, if_pos h3]
  ·rw [if_neg h3, if_neg h3]
   unfold rC at h3 ⊢
   split at h3
   ·exact absurd rfl h3
   ·rename_i h4; rw [if_neg h4]
 ·obtain rfl : κ = 14 := hc
  obtain ⟨f1, f2, f3, f4, f5⟩ := fa_14
  rw [fR 14 A lo hi hs vs hb f2 ht]
  rw [f1] at ht ⊢
  obtain ⟨p, q, r, s, rfl, rfl⟩ := tk_2 ht
  have h1 := fU (fl_sp p) 14 (by decide)
  have h1' := of_decide_eq_false (h1.trans (by decide))
  unfold uS refV hQ
  rw [if_neg f3, if_neg f4, if_neg f5, if_pos (by decide), if_neg (show ¬ (vK (64768 + ((14 : Nat) : Int) - 64768) ([p, q, r, s].getD 0 0)).2 = 0 from h1'), if_neg (by decide), if_pos (by decide)]
  exact doM_ok _
 ·obtain rfl : κ = 82 := hc
  obtain ⟨f1, f2, f3, f4, f5⟩ := fa_82
  rw [fR 82 A lo hi hs vs hb f2 ht, ref_rest 82 hκ A lo hi hs vs (by decide) (by decide) (by decide)]
  rw [f1] at ht ⊢
  obtain ⟨a, b, c, rfl⟩ := tk_3 ht
  have hB : (rT (64768 + ((82 : Nat) : Int)) [a, b, c]).2 = 0 := rfl
  unfold uS restV
  rw [if_neg f3, if_neg f4, if_neg f5, if_neg (by decide), if_neg (by decide), if_pos hB, if_pos hB]
  exact doM_ok _
end Pl
