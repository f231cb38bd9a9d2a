/-
  Plain laws of VectorParts. A slice of two vectors built in one operation: what it holds. Regions that draw their order and hold calls (plans); a region in which one call leaves a value that hangs on the state: the operations ahead of it and behind it in given orders. The walk of VectorParts.
-/
import Derived.Test.YtcpfabkokgiepaaVqCuts
import Derived.Test.YtcpfabkokgiepaaDoA
import Derived.Deep.Cut
set_option linter.unusedSimpArgs false
set_option linter.unusedVariables false
namespace Go.Proofs.Ytcpfabkokgiepaa
open Go.RowKit Pl

end Go.Proofs.Ytcpfabkokgiepaa
namespace Pl
open Go
open Go.Proofs.Ytcpfabkokgiepaa
theorem joinV_back (v : Vec) : joinV (getN v 64 0) (getN v 64 1) = v := by
  refine lanes_ext 64 2 (by decide) (by decide) fun i hi => ?_
  unfold joinV
  rw [getN_setN _ 64 1 i _ (by decide)]
  have h0 := getN_lt v 64 0
  have h1 := getN_lt v 64 1
  match i, hi with
  | 0, _ => rw [if_neg (by decide), getN_setN _ 64 0 0 _ (by decide), if_pos rfl, Nat.mod_eq_of_lt h0]
  | 1, _ => rw [if_pos rfl, Nat.mod_eq_of_lt h1]
theorem joinV_low (x : Nat) : getN (joinV x 0) 64 0 = x % 18446744073709551616 := by
  unfold joinV
  rw [getN_setN _ 64 1 0 _ (by decide), if_neg (by decide), getN_setN _ 64 0 0 _ (by decide), if_pos rfl]
theorem joinV_low32 (x : Nat) : getN (joinV x 0) 32 0 = x % 4294967296 := by
  have h := joinV_low x
  unfold getN at h ⊢
  have e := bitsAt_more (joinV x 0) 0 32 32
  have e2 : bitsAt (joinV x 0) 0 (32 + 32) = x % 18446744073709551616 := h
  have hl := bitsAt_lt (joinV x 0) 0 32
  rw [e2] at e
  have e3 : bitsAt (joinV x 0) (32 * 0) 32 = bitsAt (joinV x 0) 0 32 := rfl
  rw [e3]
  omega
theorem mod_low (y : Nat) : y % 4294967296 % 18446744073709551616 = y % 4294967296 := by omega
def orV (x y : Vec × Int) : Vec × Int := if x.2 = 0 then x else y
theorem orV_0 {x y : Vec × Int} (h : x.2 = 0) : orV x y = x := if_pos h
theorem orV_1 {x y : Vec × Int} (h : x.2 ≠ 0) : orV x y = y := if_neg h
def f1 (op : Int) (a : Vec) : Vec × Int := orV (orV (unV op a) (unW op a)) (bitsL op [a])
def f2 (op : Int) (a b : Vec) : Vec × Int := orV (orV (orV (binV op a b) (binW op a b)) (cmpV op a b)) (bitsL op [a, b])
def formAt (κ : Nat) : Int := match vrowAt (64768 + (κ : Int)) with | none => 0 | some r => r.form
def toAt' (κ : Nat) : List Int := match vrowAt (64768 + (κ : Int)) with | none => [] | some r => tyOut r
def hal (v : Vec) : List Nat × Int := ([getN v 64 0, getN v 64 1], 0)
theorem doV_vec (κ : Nat) (A : Int) (lo hi : Nat) (hs : List Nat) (vs : List Vec) (hb : isB (64768 + (κ : Int)) = true) (ho : toAt' κ = [123]) (ht : takeV (tyAt κ) hs = some vs) :
    doV (64768 + (κ : Int)) A lo hi hs = doM (madeV (64768 + (κ : Int)) A lo hi (formAt κ) (tyAt κ) vs) := by
  unfold doV formAt
  unfold tyAt at ht ⊢
  unfold toAt' at ho
  cases hr : vrowAt (64768 + (κ : Int)) with
  | none => rw [hr] at ho; cases ho
  | some r =>
    rw [hr] at ho ht
    dsimp only at ho ht ⊢
    rw [if_pos hb]
    unfold doR
    rw [ht, ho]
    exact if_pos rfl
theorem doV_nu (κ : Nat) (A : Int) (lo hi : Nat) (hs : List Nat) (vs : List Vec) (hb : isB (64768 + (κ : Int)) = true) (ho : (toAt' κ).getD 0 0 ≠ 123) (ht : takeV (tyAt κ) hs = some vs) :
    doV (64768 + (κ : Int)) A lo hi hs = doN (numV (64768 + (κ : Int)) A (vs.getD 0 0)) := by
  unfold doV
  unfold tyAt at ht
  unfold toAt' at ho
  cases hr : vrowAt (64768 + (κ : Int)) with
  | none => unfold isB at hb; rw [hr] at hb; cases hb
  | some r =>
    rw [hr] at ho ht
    dsimp only at ho ht ⊢
    rw [if_pos hb]
    unfold doR
    rw [ht]
    exact if_neg ho
theorem take_1 (a : Vec) : takeV [123] [getN a 64 0, getN a 64 1] = some [a] := by simp [takeV, joinV_back]
theorem take_2 (a b : Vec) : takeV [123, 123] [getN a 64 0, getN a 64 1, getN b 64 0, getN b 64 1] = some [a, b] := by simp [takeV, joinV_back]
theorem take_i (a : Vec) (y : Nat) : takeV [123, 127] [getN a 64 0, getN a 64 1, y] = some [a, joinV (y % 4294967296) 0] := by simp [takeV, joinV_back]
theorem take_l (a : Vec) (y : Nat) : takeV [123, 126] [getN a 64 0, getN a 64 1, y] = some [a, joinV y 0] := by simp [takeV, joinV_back]
theorem take_0i (y : Nat) : takeV [127] [y] = some [joinV (y % 4294967296) 0] := by simp [takeV]
theorem take_0l (y : Nat) : takeV [126] [y] = some [joinV y 0] := by simp [takeV]
theorem in_all {p q : Nat → Bool} (h : (List.range 256).all (fun κ => p κ == q κ) = true) (κ : Nat) (hκ : κ < 256) (hp : p κ = true) : q κ = true := by
  have := List.all_eq_true.1 h κ (List.mem_range.2 hκ)
  rw [hp] at this
  simpa using this
theorem at_all {p : Nat → Bool} (h : (List.range 256).all p = true) (κ : Nat) (hκ : κ < 256) : p κ = true := List.all_eq_true.1 h κ (List.mem_range.2 hκ)
def unL : List Nat := [77, 96, 97, 98, 124, 125, 126, 127, 128, 129, 135, 136, 137, 138, 160, 161, 167, 168, 169, 170, 192, 193, 199, 200, 201, 202]
def biL : List Nat := [35, 36, 37, 38, 39, 40, 41, 42, 43, 44, 45, 46, 47, 48, 49, 50, 51, 52, 53, 54, 55, 56, 57, 58, 59, 60, 61, 62, 63, 64, 78, 79, 80, 81, 101, 102, 110, 111, 112, 113, 114, 115, 118, 119, 120, 121, 123, 130, 133, 134, 142, 143, 144, 145, 146, 147, 149, 150, 151, 152, 153, 155, 156, 157, 158, 159, 174, 177, 181, 182, 183, 184, 185, 186, 188, 189, 190, 191, 206, 209, 213, 214, 215, 216, 217, 218, 219, 220, 221, 222, 223]
def shL : List Nat := [107, 108, 109, 139, 140, 141, 171, 172, 173, 203, 204, 205]
def spL : List Nat := [15, 16, 17, 18]
def reL : List Nat := [23, 26, 28, 30]
def nuL : List Nat := [21, 22, 24, 25, 27, 29, 83, 99, 100, 131, 132, 163, 164, 195, 196]
theorem fl_un (a : Vec) : (List.range 256).all (fun κ => decide ((f1 (64768 + (κ : Int)) a).2 = 0) == unL.contains κ) = true := by kernel_rfl
theorem fl_bi (a b : Vec) : (List.range 256).all (fun κ => decide ((f2 (64768 + (κ : Int)) a b).2 = 0) == biL.contains κ) = true := by kernel_rfl
theorem fl_sh (a : Vec) (n : Nat) : (List.range 256).all (fun κ => decide ((shV (64768 + (κ : Int)) a n).2 = 0) == shL.contains κ) = true := by kernel_rfl
theorem fl_sp (n : Nat) : (List.range 256).all (fun κ => decide ((splatV ((64768 + (κ : Int)) - 64768) n).2 = 0) == spL.contains κ) = true := by kernel_rfl
theorem fl_re (a : Vec) (n : Nat) : (List.range 256).all (fun κ => decide ((replV ((64768 + (κ : Int)) - 64768) 1 a n).2 = 0) == reL.contains κ) = true := by kernel_rfl
theorem fl_nu (a : Vec) : (List.range 256).all (fun κ => (decide ((extV ((64768 + (κ : Int)) - 64768) 1 a).2 = 0) || decide ((testV (64768 + (κ : Int)) a).2 = 0)) == nuL.contains κ) = true := by kernel_rfl
theorem ex_un (a : Vec) : (List.range 256).all (fun κ => !decide ((bitsL (64768 + (κ : Int)) [a]).2 = 0) || (!decide ((unV (64768 + (κ : Int)) a).2 = 0) && !decide ((unW (64768 + (κ : Int)) a).2 = 0))) = true := by kernel_rfl
theorem ex_bi (a b : Vec) : (List.range 256).all (fun κ => (!decide ((bitsL (64768 + (κ : Int)) [a, b]).2 = 0) || (!decide ((binV (64768 + (κ : Int)) a b).2 = 0) && !decide ((binW (64768 + (κ : Int)) a b).2 = 0) && !decide ((cmpV (64768 + (κ : Int)) a b).2 = 0))) &&
    (!decide ((cmpV (64768 + (κ : Int)) a b).2 = 0) || (!decide ((binV (64768 + (κ : Int)) a b).2 = 0) && !decide ((binW (64768 + (κ : Int)) a b).2 = 0)))) = true := by kernel_rfl
theorem ex_sh (a b : Vec) : (List.range 256).all (fun κ => !shL.contains κ || !decide ((bitsL (64768 + (κ : Int)) [a, b]).2 = 0)) = true := by kernel_rfl

theorem fa_un : ∀ κ : Fin 256, unL.contains κ.val = true → isB (64768 + (κ.val : Int)) = true ∧ tyAt κ.val = [123] ∧ toAt' κ.val = [123] ∧ formAt κ.val ≠ 11 ∧ formAt κ.val ≠ 12 ∧ formAt κ.val ≠ 13 ∧ κ.val ≠ 14 := by decide +kernel
theorem fa_bi : ∀ κ : Fin 256, biL.contains κ.val = true → isB (64768 + (κ.val : Int)) = true ∧ tyAt κ.val = [123, 123] ∧ toAt' κ.val = [123] ∧ formAt κ.val ≠ 11 ∧ formAt κ.val ≠ 12 ∧ formAt κ.val ≠ 13 ∧ κ.val ≠ 14 := by decide +kernel
theorem fa_sh : ∀ κ : Fin 256, shL.contains κ.val = true → isB (64768 + (κ.val : Int)) = true ∧ tyAt κ.val = [123, 127] ∧ toAt' κ.val = [123] ∧ formAt κ.val ≠ 11 ∧ formAt κ.val ≠ 12 ∧ formAt κ.val ≠ 13 ∧ κ.val ≠ 14 := by decide +kernel
theorem fa_sp : ∀ κ : Fin 256, spL.contains κ.val = true → isB (64768 + (κ.val : Int)) = true ∧ (tyAt κ.val = [127] ∧ (κ.val = 15 ∨ κ.val = 16 ∨ κ.val = 17) ∨ tyAt κ.val = [126] ∧ κ.val = 18) ∧ toAt' κ.val = [123] ∧ formAt κ.val ≠ 11 ∧ formAt κ.val ≠ 12 ∧ formAt κ.val ≠ 13 ∧ κ.val ≠ 14 := by decide +kernel
theorem fa_re : ∀ κ : Fin 256, reL.contains κ.val = true → isB (64768 + (κ.val : Int)) = true ∧ (tyAt κ.val = [123, 127] ∧ (κ.val = 23 ∨ κ.val = 26 ∨ κ.val = 28) ∨ tyAt κ.val = [123, 126] ∧ κ.val = 30) ∧ toAt' κ.val = [123] ∧ formAt κ.val = 13 := by decide +kernel
theorem fa_nu : ∀ κ : Fin 256, nuL.contains κ.val = true → isB (64768 + (κ.val : Int)) = true ∧ tyAt κ.val = [123] ∧ (toAt' κ.val).getD 0 0 ≠ 123 := by decide +kernel
theorem parts_un (κ : Nat) (hκ : κ < 256) (a : Vec) (h : (f1 (64768 + (κ : Int)) a).2 = 0) : doV (64768 + (κ : Int)) 0 0 0 [getN a 64 0, getN a 64 1] = hal (f1 (64768 + (κ : Int)) a).1 := by
  have hc := in_all (fl_un a) κ hκ (by rw [h]; rfl)
  obtain ⟨hb, ht, ho, c11, c12, c13, c14⟩ := fa_un ⟨κ, hκ⟩ hc
  replace ht : tyAt κ = [123] := ht
  rw [doV_vec κ 0 0 0 _ [a] hb ho (by rw [ht]; exact take_1 a)]
  have hm : madeV (64768 + (κ : Int)) 0 0 0 (formAt κ) (tyAt κ) [a] = ((f1 (64768 + (κ : Int)) a).1, 0) := by
    unfold madeV
    rw [if_neg c11, if_neg c12, if_neg c13, if_neg (by have : κ ≠ 14 := c14; omega), ht, if_neg (by decide)]
    have hx := at_all (ex_un a) κ hκ
    unfold f1 at h ⊢
    by_cases hB : (bitsL (64768 + (κ : Int)) [a]).2 = 0
    · rw [if_pos hB]
      simp only [Bool.or_eq_true, Bool.and_eq_true, Bool.not_eq_true', decide_eq_false_iff_not] at hx
      obtain ⟨hu, hw⟩ := hx.resolve_left (fun e => e hB)
      rw [orV_1 (x := orV _ _) (by rw [orV_1 hu]; exact hw)]
    · rw [if_neg hB, if_pos (show [a].length = 1 from rfl)]
      show (if (unV (64768 + (κ : Int)) a).2 = 0 then ((unV (64768 + (κ : Int)) a).1, 0) else unW (64768 + (κ : Int)) a) = _
      by_cases hU : (unV (64768 + (κ : Int)) a).2 = 0
      · rw [if_pos hU, orV_0 (x := orV _ _) (by rw [orV_0 hU]; exact hU), orV_0 hU]
      · rw [if_neg hU]
        rw [orV_1 hU] at h ⊢
        by_cases hW : (unW (64768 + (κ : Int)) a).2 = 0
        · rw [orV_0 hW]; exact Prod.ext rfl hW
        · rw [orV_1 hW] at h; exact absurd h hB
  rw [hm]
  rfl
theorem parts_bi (κ : Nat) (hκ : κ < 256) (a b : Vec) (h : (f2 (64768 + (κ : Int)) a b).2 = 0) : doV (64768 + (κ : Int)) 0 0 0 [getN a 64 0, getN a 64 1, getN b 64 0, getN b 64 1] = hal (f2 (64768 + (κ : Int)) a b).1 := by
  have hc := in_all (fl_bi a b) κ hκ (by rw [h]; rfl)
  obtain ⟨hb, ht, ho, c11, c12, c13, c14⟩ := fa_bi ⟨κ, hκ⟩ hc
  replace ht : tyAt κ = [123, 123] := ht
  rw [doV_vec κ 0 0 0 _ [a, b] hb ho (by rw [ht]; exact take_2 a b)]
  have hm : madeV (64768 + (κ : Int)) 0 0 0 (formAt κ) (tyAt κ) [a, b] = ((f2 (64768 + (κ : Int)) a b).1, 0) := by
    unfold madeV
    rw [if_neg c11, if_neg c12, if_neg c13, if_neg (by have : κ ≠ 14 := c14; omega), ht, if_neg (by decide)]
    have hx := at_all (ex_bi a b) κ hκ
    simp only [Bool.or_eq_true, Bool.and_eq_true, Bool.not_eq_true', decide_eq_false_iff_not] at hx
    obtain ⟨hx1, hx2⟩ := hx
    unfold f2 at h ⊢
    by_cases hB : (bitsL (64768 + (κ : Int)) [a, b]).2 = 0
    · rw [if_pos hB]
      obtain ⟨⟨hu, hw⟩, hcm⟩ := hx1.resolve_left (fun e => e hB)
      rw [orV_1 (x := orV (orV _ _) _) (by rw [orV_1 (x := orV _ _) (by rw [orV_1 hu]; exact hw)]; exact hcm)]
    · rw [if_neg hB, if_neg (show ¬ [a, b].length = 1 by simp), if_neg (by decide)]
      show (if (binV (64768 + (κ : Int)) a b).2 = 0 then ((binV (64768 + (κ : Int)) a b).1, 0) else if (cmpV (64768 + (κ : Int)) a b).2 = 0 then ((cmpV (64768 + (κ : Int)) a b).1, 0) else binW (64768 + (κ : Int)) a b) = _
      by_cases hU : (binV (64768 + (κ : Int)) a b).2 = 0
      · rw [if_pos hU, orV_0 (x := orV (orV _ _) _) (by rw [orV_0 (x := orV _ _) (by rw [orV_0 hU]; exact hU), orV_0 hU]; exact hU), orV_0 (x := orV _ _) (by rw [orV_0 hU]; exact hU), orV_0 hU]
      · rw [if_neg hU]
        rw [orV_1 hU] at h ⊢
        by_cases hC : (cmpV (64768 + (κ : Int)) a b).2 = 0
        · obtain ⟨_, hw⟩ := hx2.resolve_left (fun e => e hC)
          rw [if_pos hC, orV_0 (x := orV _ _) (by rw [orV_1 hw]; exact hC), orV_1 hw]
        · rw [if_neg hC]
          by_cases hW : (binW (64768 + (κ : Int)) a b).2 = 0
          · rw [orV_0 (x := orV _ _) (by rw [orV_0 hW]; exact hW), orV_0 hW]; exact Prod.ext rfl hW
          · rw [orV_1 (x := orV _ _) (by rw [orV_1 hW]; exact hC)] at h; exact absurd h hB
  rw [hm]
  rfl
theorem parts_sh (κ : Nat) (hκ : κ < 256) (a : Vec) (y : Nat) (h : (shV (64768 + (κ : Int)) a (y % 4294967296)).2 = 0) : doV (64768 + (κ : Int)) 0 0 0 [getN a 64 0, getN a 64 1, y] = hal (shV (64768 + (κ : Int)) a (y % 4294967296)).1 := by
  have hc := in_all (fl_sh a _) κ hκ (by rw [h]; rfl)
  obtain ⟨hb, ht, ho, c11, c12, c13, c14⟩ := fa_sh ⟨κ, hκ⟩ hc
  replace ht : tyAt κ = [123, 127] := ht
  rw [doV_vec κ 0 0 0 _ _ hb ho (by rw [ht]; exact take_i a y)]
  have hm : madeV (64768 + (κ : Int)) 0 0 0 (formAt κ) (tyAt κ) [a, joinV (y % 4294967296) 0] = shV (64768 + (κ : Int)) a (y % 4294967296) := by
    unfold madeV
    have hx := at_all (ex_sh a (joinV (y % 4294967296) 0)) κ hκ
    have hc' : shL.contains κ = true := hc
    simp only [hc', Bool.not_true, Bool.false_or, Bool.not_eq_true', decide_eq_false_iff_not] at hx
    rw [if_neg c11, if_neg c12, if_neg c13, if_neg (by have : κ ≠ 14 := c14; omega), ht, if_neg (by decide), if_neg hx, if_neg (show ¬ [a, joinV (y % 4294967296) 0].length = 1 by simp), if_pos (by decide)]
    show shV (64768 + (κ : Int)) a (getN (joinV (y % 4294967296) 0) 32 0) = _
    rw [joinV_low32, Nat.mod_mod]
  rw [hm]
  unfold doM
  rw [if_pos h]
  rfl
theorem build_low (w n y : Nat) (hw : w ≤ 32) : buildOn 0 w (fun _ => y % 4294967296) n = buildOn 0 w (fun _ => y) n :=
  buildOn_congr _ _ _ _ _ fun i _ => Nat.mod_mod_of_dvd _ (Nat.pow_dvd_pow 2 hw)
theorem splat_low (κ : Nat) (y : Nat) (h : κ = 15 ∨ κ = 16 ∨ κ = 17) : splatV ((64768 + (κ : Int)) - 64768) (y % 4294967296) = splatV ((64768 + (κ : Int)) - 64768) y := by
  rcases h with rfl | rfl | rfl
  · exact congrArg (·, (0 : Int)) (build_low 8 16 y (by decide))
  · exact congrArg (·, (0 : Int)) (build_low 16 8 y (by decide))
  · exact congrArg (·, (0 : Int)) (build_low 32 4 y (by decide))
theorem set_low (v : Vec) (w i y : Nat) (hw : w ≤ 32) : setN v w i (y % 4294967296) = setN v w i y :=
  setN_congr _ _ _ _ _ (Nat.mod_mod_of_dvd _ (Nat.pow_dvd_pow 2 hw))
theorem repl_low (κ : Nat) (a : Vec) (y : Nat) (h : κ = 23 ∨ κ = 26 ∨ κ = 28) : replV ((64768 + (κ : Int)) - 64768) 1 a (y % 4294967296) = replV ((64768 + (κ : Int)) - 64768) 1 a y := by
  rcases h with rfl | rfl | rfl
  · exact congrArg (·, (0 : Int)) (set_low a 8 1 y (by decide))
  · exact congrArg (·, (0 : Int)) (set_low a 16 1 y (by decide))
  · exact congrArg (·, (0 : Int)) (set_low a 32 1 y (by decide))
theorem parts_sp (κ : Nat) (hκ : κ < 256) (y : Nat) (hy : y < 18446744073709551616) (h : (splatV ((64768 + (κ : Int)) - 64768) y).2 = 0) : doV (64768 + (κ : Int)) 0 0 0 [y] = hal (splatV ((64768 + (κ : Int)) - 64768) y).1 := by
  have hc := in_all (fl_sp y) κ hκ (by rw [h]; rfl)
  obtain ⟨hb, ht, ho, c11, c12, c13, c14⟩ := fa_sp ⟨κ, hκ⟩ hc
  have hm : ∀ v (T : Int), T ≠ 123 → tyAt κ = [T] → madeV (64768 + (κ : Int)) 0 0 0 (formAt κ) (tyAt κ) [v] = splatV ((64768 + (κ : Int)) - 64768) (getN v 64 0) := fun v T hT e => by
    unfold madeV
    rw [if_neg c11, if_neg c12, if_neg c13, if_neg (by have : κ ≠ 14 := c14; omega), e, if_pos (by simpa using hT)]
    rfl
  rcases ht with ⟨ht, hk⟩ | ⟨ht, hk⟩
  · replace ht : tyAt κ = [127] := ht
    rw [doV_vec κ 0 0 0 _ _ hb ho (by rw [ht]; exact take_0i y), hm _ 127 (by decide) ht, joinV_low, mod_low y, splat_low κ y hk]
    unfold doM
    rw [if_pos h]
    rfl
  · replace ht : tyAt κ = [126] := ht
    rw [doV_vec κ 0 0 0 _ _ hb ho (by rw [ht]; exact take_0l y), hm _ 126 (by decide) ht, joinV_low, Nat.mod_eq_of_lt hy]
    unfold doM
    rw [if_pos h]
    rfl
theorem parts_re (κ : Nat) (hκ : κ < 256) (a : Vec) (y : Nat) (hy : y < 18446744073709551616) (h : (replV ((64768 + (κ : Int)) - 64768) 1 a y).2 = 0) : doV (64768 + (κ : Int)) 1 0 0 [getN a 64 0, getN a 64 1, y] = hal (replV ((64768 + (κ : Int)) - 64768) 1 a y).1 := by
  have hc := in_all (fl_re a y) κ hκ (by rw [h]; rfl)
  obtain ⟨hb, ht, ho, c13⟩ := fa_re ⟨κ, hκ⟩ hc
  have hm : ∀ v ty, madeV (64768 + (κ : Int)) 1 0 0 (formAt κ) ty [a, v] = replV ((64768 + (κ : Int)) - 64768) 1 a (getN v 64 0) := fun v ty => by
    have c13' : formAt κ = 13 := c13
    unfold madeV
    rw [c13', if_neg (by decide), if_neg (by decide), if_pos rfl]
    rfl
  rcases ht with ⟨ht, hk⟩ | ⟨ht, hk⟩
  · replace ht : tyAt κ = [123, 127] := ht
    rw [doV_vec κ 1 0 0 _ _ hb ho (by rw [ht]; exact take_i a y), hm, joinV_low, mod_low y, repl_low κ a y hk]
    unfold doM
    rw [if_pos h]
    rfl
  · replace ht : tyAt κ = [123, 126] := ht
    rw [doV_vec κ 1 0 0 _ _ hb ho (by rw [ht]; exact take_l a y), hm, joinV_low, Nat.mod_eq_of_lt hy]
    unfold doM
    rw [if_pos h]
    rfl
theorem parts_nu (κ : Nat) (hκ : κ < 256) (a : Vec) (h : (extV ((64768 + (κ : Int)) - 64768) 1 a).2 = 0 ∨ (testV (64768 + (κ : Int)) a).2 = 0) : doV (64768 + (κ : Int)) 1 0 0 [getN a 64 0, getN a 64 1] = ([if (testV (64768 + (κ : Int)) a).2 = 0 then (testV (64768 + (κ : Int)) a).1.toNat else (extV ((64768 + (κ : Int)) - 64768) 1 a).1], 0) := by
  have hc := in_all (fl_nu a) κ hκ (by rcases h with h | h <;> simp [h])
  obtain ⟨hb, ht, ho⟩ := fa_nu ⟨κ, hκ⟩ hc
  replace ht : tyAt κ = [123] := ht
  rw [doV_nu κ 1 0 0 _ [a] hb ho (by rw [ht]; exact take_1 a)]
  show doN (numV (64768 + (κ : Int)) 1 a) = _
  unfold numV doN
  by_cases hT : (testV (64768 + (κ : Int)) a).2 = 0
  · rw [if_pos hT, if_pos hT, if_pos rfl]
  · have hE := h.resolve_right hT
    rw [if_neg hT, if_neg hT, if_pos hE]
    rfl
theorem shuf_err (s a b : Vec) : (shufV s a b).2 = 0 ∨ (shufV s a b).2 = 1 := by
  unfold shufV
  split
  · exact .inl rfl
  · exact .inr rfl
theorem fa_13 : isB 64781 = true ∧ tyAt 13 = [123, 123] ∧ toAt' 13 = [123] ∧ formAt 13 = 12 := by decide +kernel
theorem fa_14 : isB 64782 = true ∧ tyAt 14 = [123, 123] ∧ toAt' 14 = [123] ∧ formAt 14 ≠ 11 ∧ formAt 14 ≠ 12 ∧ formAt 14 ≠ 13 := by decide +kernel
theorem parts_shuf (a b s : Vec) : doV 64781 0 (getN s 64 0) (getN s 64 1) [getN a 64 0, getN a 64 1, getN b 64 0, getN b 64 1] = doM (shufV s a b) := by
  obtain ⟨hb, ht, ho, c⟩ := fa_13
  have h := doV_vec 13 0 (getN s 64 0) (getN s 64 1) _ [a, b] hb ho (by rw [ht]; exact take_2 a b)
  refine h.trans (congrArg doM ?_)
  unfold madeV
  rw [c, if_neg (by decide), if_pos rfl, joinV_back]
  rfl
theorem parts_swiz (a b : Vec) : doV 64782 0 0 0 [getN a 64 0, getN a 64 1, getN b 64 0, getN b 64 1] = hal (swizV a b) := by
  obtain ⟨hb, ht, ho, c11, c12, c13⟩ := fa_14
  have h := doV_vec 14 0 0 0 _ [a, b] hb ho (by rw [ht]; exact take_2 a b)
  refine h.trans ?_
  have hm : madeV (64768 + ((14 : Nat) : Int)) 0 0 0 (formAt 14) (tyAt 14) [a, b] = (swizV a b, 0) := by
    unfold madeV
    rw [if_neg c11, if_neg c12, if_neg c13, if_pos (by decide)]
    rfl
  rw [hm]
  rfl
end Pl
namespace Go.Proofs.Ytcpfabkokgiepaa
open Go.RowKit Pl

end Go.Proofs.Ytcpfabkokgiepaa
namespace Go.Proofs.Ytcpfabkokgiepaa
open Go.RowKit Pl

theorem fold_set : ∀ (l : List Value) (Z : Array Value) (k s : Nat), k + s + l.length ≤ Z.size →
    ((l.zipIdx s).foldl (fun cs x => cs.setIfInBounds (k + x.2) x.1) Z).size = Z.size ∧
    ∀ j, ((l.zipIdx s).foldl (fun cs x => cs.setIfInBounds (k + x.2) x.1) Z)[j]? = if k + s ≤ j ∧ j < k + s + l.length then l[j - (k + s)]? else Z[j]?
  | [], Z, k, s, _ => ⟨rfl, fun j => by rw [if_neg (by simp only [List.length_nil]; omega)]; rfl⟩
  | v :: l, Z, k, s, h => by
    simp only [List.length_cons] at h
    obtain ⟨h1, h2⟩ := fold_set l (Z.setIfInBounds (k + s) v) k (s + 1) (by simp; omega)
    rw [List.zipIdx_cons, List.foldl_cons]
    refine ⟨by rw [h1]; simp, fun j => ?_⟩
    rw [h2 j, Array.getElem?_setIfInBounds]
    simp only [List.length_cons]
    by_cases e : k + s = j
    · subst e
      rw [if_neg (by omega), if_pos rfl, if_pos (by omega), if_pos (by omega), Nat.sub_self]
      rfl
    · rw [if_neg e]
      by_cases r : k + (s + 1) ≤ j ∧ j < k + (s + 1) + l.length
      · rw [if_pos r, if_pos (by omega), show j - (k + s) = (j - (k + (s + 1))) + 1 by omega]
        rfl
      · rw [if_neg r, if_neg (by omega)]
/-- A vector laid into an array of cells. -/
def lay (Z : Array Value) (k : Nat) (v : Vec) : Array Value := Array.foldl (fun cs x => cs.setIfInBounds (k + x.2) x.1) Z (cells v).zipIdx 0 16
theorem foldl16 {α β : Type} (f : β → α → β) (Z : β) (xs : Array α) (h : xs.size = 16) : Array.foldl f Z xs 0 16 = xs.toList.foldl f Z := by
  rw [Array.foldl_toList, h]
theorem lay_spec (Z : Array Value) (k : Nat) (v : Vec) (h : k + 16 ≤ Z.size) : (lay Z k v).size = Z.size ∧ ∀ j, (lay Z k v)[j]? = if k ≤ j ∧ j < k + 16 then (cells v)[j - k]? else Z[j]? := by
  have := fold_set (cells v).toList Z k 0 (by simpa using h)
  unfold lay
  rw [foldl16 _ _ _ (by simp), Array.toList_zipIdx]
  simpa using this
theorem range_lay {w : World} {B : Nat} {Z : Array Value} {t : TypeId} (k : Nat) (v : Vec) (h : k + 16 ≤ Z.size) (hb : ∃ Y : Array Value, w.heap[B]? = some (.cells Y t (0, 0)) ∧ ∀ j, k ≤ j → j < k + 16 → Y[j]? = (lay Z k v)[j]?) : w.rangeAt B k (cells v).toList := fun j x hx => by
  obtain ⟨Y, hY, hj⟩ := hb
  have hl : j < 16 := by
    have := (List.getElem?_eq_some_iff.1 hx).1
    simpa using this
  rw [cell_of_row w B (k + j) _ _ _ hY, hj _ (by omega) (by omega), (lay_spec Z k v h).2, if_pos (by omega), show k + j - k = j by omega]
  simpa using hx
theorem newRow_run {P : Program} (e : TypeId) (cs : Array Value) (w : World) : (newRow e cs).run P w = .ok ⟨w.heap.size, 0, none⟩ (w.alloc (.cells cs e)) := by first | rfl | kernel_rfl | simp [newRow, go_sem]
theorem fill_one (z : Array Value) (i : Nat) (v : Vec) (rest : List (Nat × Value)) (h : i * 16 + 16 ≤ z.size) : Instr.fill (fun i => some (i * 16, 16)) z ((i, .agg (cells v)) :: rest) = Instr.fill (fun i => some (i * 16, 16)) (lay z (i * 16) v) rest := by
  have hs : (Value.agg (cells v)).cells = cells v := rfl
  rw [Instr.fill]
  simp only [hs, size_cells, ne_eq, not_true_eq_false, decide_false, Bool.false_or]
  rw [if_neg (by simp; omega)]
  congr 1
@[simp] theorem lay_size' (Z : Array Value) (k : Nat) (v : Vec) : (lay Z k v).size = Z.size := by
  unfold lay
  rw [foldl16 _ _ _ (by simp)]
  generalize (cells v).zipIdx.toList = l
  induction l generalizing Z with
  | nil => rfl
  | cons x l ih => rw [List.foldl_cons, ih]; simp
theorem lay_size (Z : Array Value) (k : Nat) (v : Vec) : (lay Z k v).size = Z.size := lay_size' Z k v

set_option maxRecDepth 100000 in
theorem run_build2 (u v : Vec) (w : World) : (Instr.buildSlice 66 2 #[(0, .agg (cells u)), (1, .agg (cells v))]).run Try.prog w = .ok (.slice (some ⟨w.heap.size, 0, none⟩) 2 2) (w.alloc (.cells (lay (lay #[.int .u8 0, .int .u8 0, .int .u8 0, .int .u8 0, .int .u8 0, .int .u8 0, .int .u8 0, .int .u8 0, .int .u8 0, .int .u8 0, .int .u8 0, .int .u8 0, .int .u8 0, .int .u8 0, .int .u8 0, .int .u8 0, .int .u8 0, .int .u8 0, .int .u8 0, .int .u8 0, .int .u8 0, .int .u8 0, .int .u8 0, .int .u8 0, .int .u8 0, .int .u8 0, .int .u8 0, .int .u8 0, .int .u8 0, .int .u8 0, .int .u8 0, .int .u8 0] (0 * 16) u) (1 * 16) v) 45)) := by
  have hu : (underlying 66).run Try.prog w = .ok (.slice 45) w := by kernel_rfl
  have hz : (Go.sizeOf 45).run Try.prog w = .ok 16 w := by kernel_rfl
  have h0 : (zeroValue 45).run Try.prog w = .ok (.agg #[.int .u8 0, .int .u8 0, .int .u8 0, .int .u8 0, .int .u8 0, .int .u8 0, .int .u8 0, .int .u8 0, .int .u8 0, .int .u8 0, .int .u8 0, .int .u8 0, .int .u8 0, .int .u8 0, .int .u8 0, .int .u8 0]) w := by kernel_rfl
  have hm : (Array.range (2 * 16)).map (fun i => (#[.int .u8 0, .int .u8 0, .int .u8 0, .int .u8 0, .int .u8 0, .int .u8 0, .int .u8 0, .int .u8 0, .int .u8 0, .int .u8 0, .int .u8 0, .int .u8 0, .int .u8 0, .int .u8 0, .int .u8 0, .int .u8 0] : Array Value)[i % (#[.int .u8 0, .int .u8 0, .int .u8 0, .int .u8 0, .int .u8 0, .int .u8 0, .int .u8 0, .int .u8 0, .int .u8 0, .int .u8 0, .int .u8 0, .int .u8 0, .int .u8 0, .int .u8 0, .int .u8 0, .int .u8 0] : Array Value).size]!) = #[.int .u8 0, .int .u8 0, .int .u8 0, .int .u8 0, .int .u8 0, .int .u8 0, .int .u8 0, .int .u8 0, .int .u8 0, .int .u8 0, .int .u8 0, .int .u8 0, .int .u8 0, .int .u8 0, .int .u8 0, .int .u8 0, .int .u8 0, .int .u8 0, .int .u8 0, .int .u8 0, .int .u8 0, .int .u8 0, .int .u8 0, .int .u8 0, .int .u8 0, .int .u8 0, .int .u8 0, .int .u8 0, .int .u8 0, .int .u8 0, .int .u8 0, .int .u8 0] := by kernel_rfl
  have hf : Instr.fill (fun i => some (i * 16, 16)) #[.int .u8 0, .int .u8 0, .int .u8 0, .int .u8 0, .int .u8 0, .int .u8 0, .int .u8 0, .int .u8 0, .int .u8 0, .int .u8 0, .int .u8 0, .int .u8 0, .int .u8 0, .int .u8 0, .int .u8 0, .int .u8 0, .int .u8 0, .int .u8 0, .int .u8 0, .int .u8 0, .int .u8 0, .int .u8 0, .int .u8 0, .int .u8 0, .int .u8 0, .int .u8 0, .int .u8 0, .int .u8 0, .int .u8 0, .int .u8 0, .int .u8 0, .int .u8 0] [(0, .agg (cells u)), (1, .agg (cells v))] = some (lay (lay #[.int .u8 0, .int .u8 0, .int .u8 0, .int .u8 0, .int .u8 0, .int .u8 0, .int .u8 0, .int .u8 0, .int .u8 0, .int .u8 0, .int .u8 0, .int .u8 0, .int .u8 0, .int .u8 0, .int .u8 0, .int .u8 0, .int .u8 0, .int .u8 0, .int .u8 0, .int .u8 0, .int .u8 0, .int .u8 0, .int .u8 0, .int .u8 0, .int .u8 0, .int .u8 0, .int .u8 0, .int .u8 0, .int .u8 0, .int .u8 0, .int .u8 0, .int .u8 0] (0 * 16) u) (1 * 16) v) := by
    rw [fill_one _ _ _ _ (by simp [lay_size]), fill_one _ _ _ _ (by simp [lay_size])]
    rfl
  unfold Instr.buildSlice
  simp only [Sem.run_bind, hu, hz, h0, Result.andThen_ok, Sem.run_pure]
  rw [if_neg (by decide), if_neg (by decide)]
  simp only [Sem.run_bind, h0, Result.andThen_ok, Sem.run_pure, Value.cells, hm]
  rw [hf]
  simp only [Sem.run_bind, newRow_run, Result.andThen_ok, Sem.run_pure]
structure Bd2 (w : World) (u v : Vec) (W : World) : Prop where
  bel : Below w.heap.size w W
  lt : w.heap.size < W.heap.size
  r0 : W.rangeAt w.heap.size 0 (cells u).toList
  r1 : W.rangeAt w.heap.size 16 (cells v).toList
theorem bd2 (u v : Vec) (w : World) : Bd2 w u v (w.alloc (.cells (lay (lay #[.int .u8 0, .int .u8 0, .int .u8 0, .int .u8 0, .int .u8 0, .int .u8 0, .int .u8 0, .int .u8 0, .int .u8 0, .int .u8 0, .int .u8 0, .int .u8 0, .int .u8 0, .int .u8 0, .int .u8 0, .int .u8 0, .int .u8 0, .int .u8 0, .int .u8 0, .int .u8 0, .int .u8 0, .int .u8 0, .int .u8 0, .int .u8 0, .int .u8 0, .int .u8 0, .int .u8 0, .int .u8 0, .int .u8 0, .int .u8 0, .int .u8 0, .int .u8 0] (0 * 16) u) (1 * 16) v) 45)) := by
  refine ⟨(Below.refl _ _).alloc (Nat.le_refl _) _, by simp, ?_, ?_⟩
  · refine range_lay (Z := #[.int .u8 0, .int .u8 0, .int .u8 0, .int .u8 0, .int .u8 0, .int .u8 0, .int .u8 0, .int .u8 0, .int .u8 0, .int .u8 0, .int .u8 0, .int .u8 0, .int .u8 0, .int .u8 0, .int .u8 0, .int .u8 0, .int .u8 0, .int .u8 0, .int .u8 0, .int .u8 0, .int .u8 0, .int .u8 0, .int .u8 0, .int .u8 0, .int .u8 0, .int .u8 0, .int .u8 0, .int .u8 0, .int .u8 0, .int .u8 0, .int .u8 0, .int .u8 0]) 0 u (by simp [lay_size]) ⟨_, heap_alloc_new _ _, fun j h1 h2 => ?_⟩
    rw [(lay_spec (lay #[.int .u8 0, .int .u8 0, .int .u8 0, .int .u8 0, .int .u8 0, .int .u8 0, .int .u8 0, .int .u8 0, .int .u8 0, .int .u8 0, .int .u8 0, .int .u8 0, .int .u8 0, .int .u8 0, .int .u8 0, .int .u8 0, .int .u8 0, .int .u8 0, .int .u8 0, .int .u8 0, .int .u8 0, .int .u8 0, .int .u8 0, .int .u8 0, .int .u8 0, .int .u8 0, .int .u8 0, .int .u8 0, .int .u8 0, .int .u8 0, .int .u8 0, .int .u8 0] (0 * 16) u) (1 * 16) v (by simp [lay_size])).2, if_neg (by omega)]
  · refine range_lay (Z := (lay #[.int .u8 0, .int .u8 0, .int .u8 0, .int .u8 0, .int .u8 0, .int .u8 0, .int .u8 0, .int .u8 0, .int .u8 0, .int .u8 0, .int .u8 0, .int .u8 0, .int .u8 0, .int .u8 0, .int .u8 0, .int .u8 0, .int .u8 0, .int .u8 0, .int .u8 0, .int .u8 0, .int .u8 0, .int .u8 0, .int .u8 0, .int .u8 0, .int .u8 0, .int .u8 0, .int .u8 0, .int .u8 0, .int .u8 0, .int .u8 0, .int .u8 0, .int .u8 0] (0 * 16) u)) 16 v (by simp [lay_size]) ⟨_, heap_alloc_new _ _, fun j h1 h2 => ?_⟩
    rfl
theorem build2 {ops : Array Oper} {rest : List Oper} {o : Oper} {a : Act} {w : World} {Q : Exit → Act → World → Prop} (hgd : o.guard = none) (p q : Operand) (ho : o.op = .buildSlice 66 2 #[(0, p), (1, q)]) (u v : Vec)
    (hp : a.eval p = .agg (cells u)) (hq : a.eval q = .agg (cells v))
    (h : ∀ W, Bd2 w u v W → wpList Try.prog ops Q rest (a.put o.dst (.slice (some ⟨w.heap.size, 0, none⟩) 2 2)) W) : wpList Try.prog ops Q (o :: rest) a w := by
  refine wpList_plain hgd fun _ hK => ?_
  unfold Oper.wp execOp
  have hp : (#[(0, p), (1, q)] : Array (Nat × Operand)).map (fun (i, x) => (i, a.eval x)) = #[(0, .agg (cells u)), (1, .agg (cells v))] := by
    simp [hp, hq]
  simp only [ho]
  rw [hp, Sem.run_bind, run_build2]
  exact hK _ _ (h _ (bd2 u v w))
theorem bd2_vsl {w W : World} {u v : Vec} (h : Bd2 w u v W) : VSl W (.slice (some ⟨w.heap.size, 0, none⟩) 2 2) [u, v] :=
  ⟨w.heap.size, 2, rfl, h.lt, fun i x hx => match i, hx with
    | 0, hx => by injection hx with hx; subst hx; exact h.r0
    | 1, hx => by injection hx with hx; subst hx; exact h.r1
    | i + 2, hx => by cases hx⟩
theorem one_vsl {w : World} {b : Nat} {u : Vec} (h : w.heap[b]? = some (.cells (cells u) 45 (0, 0))) : VSl w (.slice (some ⟨b, 0, none⟩) 1 1) [u] :=
  ⟨b, 1, rfl, block_lt h, fun i x hx => match i, hx with
    | 0, hx => by injection hx with hx; subst hx; intro j y hj; rw [Nat.mul_zero, Nat.zero_add, cell_of_row w b j _ _ _ h]; simpa using hj
    | i + 1, hx => by cases hx⟩
end Go.Proofs.Ytcpfabkokgiepaa
namespace Pl
open Go

section
variable {σ : Type} {P : Program} {ops : Array Oper} {md : Region.Mode} {S : σ → World → Prop} {step : Nat → σ → σ → Prop} {val : Nat → σ → Value}
/-- Special operation i (a builtin that makes memory, or a call of a function) takes state D to one of its next states. -/
def NewE (P : Program) (ops : Array Oper) (S : σ → World → Prop) (step : Nat → σ → σ → Prop) (val : Nat → σ → Value) (i : Nat) (D : σ) (o : Oper) (a : Act) : Prop :=
  Region.wanted o (yielded ops a.tmps) = true ∧ ∀ w, S D w → ∃ w1, (∃ D', step i D D' ∧ S D' w1 ∧
    ((execOp a.eval o).run P w = .ok (.value (val i D')) w1 ∨ ((execOp a.eval o).run P w = .ok .skip w1 ∧ val i D' = undef))) ∨
    ∃ f args, (execOp a.eval o).run P w = .ok (.enter f args) w1 ∧ Calls P f args w1 (fun e w2 => ∃ D', step i D D' ∧ S D' w2 ∧ e = .returned (val i D'))
theorem NewE.same {i : Nat} {D : σ} {o : Oper} {a b : Act} (h : NewE P ops S step val i D o a) (he : execOp b.eval o = execOp a.eval o)
    (hw : Region.wanted o (yielded ops b.tmps) = Region.wanted o (yielded ops a.tmps)) : NewE P ops S step val i D o b := by
  unfold NewE at *
  rw [he, hw]
  exact h
def newOpE (P : Program) (ops : Array Oper) (S : σ → World → Prop) (step : Nat → σ → σ → Prop) (val : Nat → σ → Value) (i : Nat) (D : σ) (K : σ → Act → Prop) (a : Act) : Prop :=
  ∃ o, ops[i]? = some o ∧ NewE P ops S step val i D o a ∧ ∀ D', step i D D' → K D' (a.put o.dst (val i D'))

theorem newOpE_mono {i : Nat} {D : σ} {a : Act} {K K' : σ → Act → Prop} (h : ∀ x a, K x a → K' x a) (hh : newOpE P ops S step val i D K a) : newOpE P ops S step val i D K' a := by
  obtain ⟨o, h1, h2, h3⟩ := hh
  exact ⟨o, h1, h2, fun x hx => h x _ (h3 x hx)⟩

theorem newOpE_put {j : Nat} {D : σ} {oi oj : Oper} {v : Value} (hj : ops[j]? = some oj) (hap : oi.apart ops oj = true)
    (hsi : ∀ cs b, oi.op ≠ .select cs b) (hsj : ∀ cs b, oj.op ≠ .select cs b) {K : σ → Act → Prop} {a : Act}
    (hy : DoesA P ops S oi v a) (h : newOpE P ops S step val j D K (a.put oi.dst v)) :
    newOpE P ops S step val j D (fun x b => DoesA P ops S oi v b ∧ K x (b.put oi.dst v)) a := by
  obtain ⟨h1, h2, h3⟩ := Oper.apart_spec hap
  obtain ⟨o, ho, hN, hK⟩ := h
  have : o = oj := Option.some.inj (ho.symm.trans hj)
  subst this
  refine ⟨o, ho, hN.same (execOp_put o hsj a oi.dst v h1).symm (wanted_put o a oi.dst v h1).symm, fun x hx => ⟨hy.same (execOp_put oi hsi a o.dst (val j x) h3) (wanted_put oi a o.dst (val j x) h3), ?_⟩⟩
  rw [← Act.put_comm a v (val j x) h2]
  exact hK x hx

/-- The head, in whatever order its edges allow; L is reached when it is done. -/
def wpHeadE (P : Program) (md : Region.Mode) (ops : Array Oper) (S : σ → World → Prop) (step : Nat → σ → σ → Prop) (val : Nat → σ → Value) (ps : List Nat) (n : Nat) (L : σ → Array Bool → Act → Prop) : Nat → σ → Array Bool → Act → Prop
  | 0, D, listed, a => L D listed a
  | f + 1, D, listed, a => Region.ready md ops listed ≠ [] ∧ ∀ i ∈ Region.ready md ops listed, i < n ∧
      ((i ∈ ps ∧ newOpE P ops S step val i D (fun D' => wpHeadE P md ops S step val ps n L f D' (listed.setIfInBounds i true)) a) ∨
       (i ∉ ps ∧ doOpA P ops S i (wpHeadE P md ops S step val ps n L f D (listed.setIfInBounds i true)) a))

theorem any_of_headE {ps : List Nat} {n g : Nat} {L : σ → Array Bool → Act → Prop} {Q : Exit → Act → World → Prop}
    (hL : ∀ D listed a, L D listed a → ∀ w, S D w → wpAny P md ops Q g listed a w) :
    ∀ (f : Nat) (D : σ) (listed : Array Bool) (a : Act), wpHeadE P md ops S step val ps n L f D listed a → ∀ w, S D w → wpAny P md ops Q (f + g) listed a w
  | 0, D, listed, a, h, w, hw => by rw [Nat.zero_add]; exact hL _ _ _ h w hw
  | f + 1, D, listed, a, h, w, hw => by
    rw [show f + 1 + g = (f + g) + 1 by omega]
    refine ⟨fun h0 => absurd h0 h.1, fun i hi => ?_⟩
    obtain ⟨_, ⟨hip, o, ho, hN, hk⟩ | ⟨hip, o, v, ho, hd, hk⟩⟩ := h.2 i hi
    · obtain ⟨hw1, hr⟩ := hN
      unfold wpOp
      simp only [ho]
      rw [if_pos hw1]
      refine .inl ?_
      unfold Oper.wp
      obtain ⟨w1, ⟨D', hst, hS1, hrun⟩ | ⟨f2, args, hrun, hcall⟩⟩ := hr w hw
      · rcases hrun with hrun | ⟨hrun, hv⟩
        · rw [hrun]
          exact any_of_headE hL f _ _ _ (hk D' hst) _ hS1
        · rw [hrun]
          have := any_of_headE hL f _ _ _ (hk D' hst) _ hS1
          rw [hv] at this
          exact this
      · rw [hrun]
        exact hcall.mono fun e w2 ⟨D', hst, hS1, he⟩ => by subst he; exact any_of_headE hL f _ _ _ (hk D' hst) _ hS1
    · exact (hd D).op ho hw fun w2 hS2 => any_of_headE hL f _ _ _ hk w2 hS2

theorem head_firstE {ps : List Nat} {n i : Nat} {oi : Oper} {v : Value} {L : σ → Array Bool → Act → Prop} (hi : ops[i]? = some oi) (hip : i ∉ ps) (hsel : ∀ (j : Nat) (o : Oper) cs b, ops[j]? = some o → o.op ≠ .select cs b)
    (hs : Region.sinkB md ops n = true) (hc : Region.chainB md ops n = true) (hn : n < ops.size) (hin : i < n)
    (hdone : ∀ D listed a, L D listed a → ∀ j ∈ Region.ready md ops listed, n ≤ j) :
    ∀ (f : Nat) (D : σ) (listed : Array Bool) (a : Act), HeadInv md ops n listed →
      (∀ j oj, ops[j]? = some oj → j ≠ i → listed.getD j true = false → (∀ e ∈ oj.after, Region.binds md e = true → e.on ≠ i) → oi.apart ops oj = true) →
      i ∈ Region.ready md ops listed → DoesA P ops S oi v a →
      wpHeadE P md ops S step val ps n L f D (listed.setIfInBounds i true) (a.put oi.dst v) → wpHeadE P md ops S step val ps n L (f + 1) D listed a := by
  intro f
  induction f with
  | zero =>
    intro D listed a inv _ hr hy H
    have hun := (mem_ready.1 hr).1
    refine ⟨fun h => (by rw [h] at hr; cases hr), fun j hj => ?_⟩
    have hjn : j < n := by
      rcases Nat.lt_or_ge j n with h | h
      · exact h
      · exact absurd hj (tail_waits hs hc hn inv _ i rfl hin hun j h)
    refine ⟨hjn, ?_⟩
    by_cases hji : j = i
    · subst hji; exact .inr ⟨hip, oi, v, hi, hy, H⟩
    · have := hdone _ _ _ H j (ready_mono hj hji)
      omega
  | succ f ih =>
    intro D listed a inv hfree hr hy H
    have hun := (mem_ready.1 hr).1
    refine ⟨fun h => (by rw [h] at hr; cases hr), fun j hj => ?_⟩
    have hjn : j < n := by
      rcases Nat.lt_or_ge j n with h | h
      · exact h
      · exact absurd hj (tail_waits hs hc hn inv _ i rfl hin hun j h)
    refine ⟨hjn, ?_⟩
    by_cases hji : j = i
    · subst hji; exact .inr ⟨hip, oi, v, hi, hy, H⟩
    · obtain ⟨hjun, oj, hoj, hall⟩ := mem_ready.1 hj
      have hnot : ∀ e ∈ oj.after, Region.binds md e = true → e.on ≠ i := fun e he hb heq => by
        have h1 := hall e he hb
        rw [heq, getD_both hun] at h1
        cases h1
      have hap := hfree j oj hoj hji hjun hnot
      have hfree' : ∀ k ok, ops[k]? = some ok → k ≠ i → (listed.setIfInBounds j true).getD k true = false →
          (∀ e ∈ ok.after, Region.binds md e = true → e.on ≠ i) → oi.apart ops ok = true := fun k ok hk hki hun hno => by
        refine hfree k ok hk hki ?_ hno
        by_cases hjk : j = k
        · subst hjk; exact hjun
        · rw [getD_set_ne true hjk] at hun; exact hun
      rcases (H.2 j (ready_mono hj hji)).2 with ⟨hjp, h1⟩ | ⟨hjp, h1⟩
      · have h2 := newOpE_put hoj hap (fun cs b => hsel i oi cs b hi) (fun cs b => hsel j oj cs b hoj) hy h1
        refine .inl ⟨hjp, newOpE_mono (fun x b h3 => ih x (listed.setIfInBounds j true) b (inv.set hj hjn) hfree' (ready_mono hr (Ne.symm hji)) h3.1 ?_) h2⟩
        rw [Array.setIfInBounds_comm _ _ hji]
        exact h3.2
      · have h2 := doOpA_put hoj hap (fun cs b => hsel i oi cs b hi) (fun cs b => hsel j oj cs b hoj) hy h1
        refine .inr ⟨hjp, doOpA_mono (fun b h3 => ih D (listed.setIfInBounds j true) b (inv.set hj hjn) hfree' (ready_mono hr (Ne.symm hji)) h3.1 ?_) h2⟩
        rw [Array.setIfInBounds_comm _ _ hji]
        exact h3.2

theorem head_takesE {ps : List Nat} {n f : Nat} {l : List Oper} {L : σ → Array Bool → Act → Prop} {D : σ} (hl : l.toArray = ops) (hsel : Region.noSelect ops = true) (hs : Region.sinkB md ops n = true) (hc : Region.chainB md ops n = true) (hn : n < ops.size)
    (hdone : ∀ D listed a, L D listed a → ∀ j ∈ Region.ready md ops listed, n ≤ j) :
    ∀ (order : List Nat) (listed : Array Bool) (a : Act), HeadInv md ops n listed → takes md ops ps n order listed = true →
      wpDA P ops S (fun a' => HeadInv md ops n (marks listed order) → wpHeadE P md ops S step val ps n L f D (marks listed order) a') (opsAt l order) a → wpHeadE P md ops S step val ps n L (order.length + f) D listed a
  | [], listed, a, inv, _, h => by rw [show ([] : List Nat).length + f = f by simp]; exact h inv
  | k :: order, listed, a, inv, hB, h => by
    simp only [takes, Bool.and_eq_true, decide_eq_true_eq, Bool.not_eq_true'] at hB
    obtain ⟨⟨⟨⟨hr, hf⟩, hk⟩, hp⟩, hB'⟩ := hB
    have hr' : k ∈ Region.ready md ops listed := by simpa using hr
    obtain ⟨_, o, ho, _⟩ := mem_ready.1 hr'
    have hlo : l[k]? = some o := by rw [← hl] at ho; simpa using ho
    simp only [opsAt, hlo] at h
    obtain ⟨v, hy, hK⟩ := h
    have hpk : k ∉ ps := by simpa using hp
    rw [show (k :: order).length + f = (order.length + f) + 1 by simp only [List.length_cons]; omega]
    exact head_firstE ho hpk (Region.noSelect_spec hsel) hs hc hn hk hdone (order.length + f) D listed a inv (Region.free_spec ho hf) hr' hy
      (head_takesE hl hsel hs hc hn hdone order _ _ (inv.set hr' hk) hB' hK)

end

section
variable {P : Program} {md : Region.Mode}
def checkE (ops : Array Oper) (n p : Nat) (order1 order2 : List Nat) : Bool :=
  Region.noSelect ops && decide (n < ops.size) && Region.sinkB .any ops n && Region.chainB .any ops n && takes .any ops [p] n order1 (Array.replicate ops.size false) &&
  (Region.ready .any ops (marks (Array.replicate ops.size false) order1) == [p]) && decide (p < n) && takes .any ops [p] n order2 ((marks (Array.replicate ops.size false) order1).setIfInBounds p true) &&
  decide (order1.length + (order2.length + 1) = n) && Region.seqB .any ops (ops.size - n) n (marks ((marks (Array.replicate ops.size false) order1).setIfInBounds p true) order2)
theorem wpDA_mono {σ : Type} {ops : Array Oper} {S : σ → World → Prop} : ∀ (os : List Oper) (a : Act) (K K' : Act → Prop), (∀ a, K a → K' a) → wpDA P ops S K os a → wpDA P ops S K' os a := by
  intro os
  induction os with
  | nil => intro a K K' hk h; exact hk _ h
  | cons o os ih => intro a K K' hk ⟨v, h1, h2⟩; exact ⟨v, h1, ih _ _ _ hk h2⟩
/-- A region that draws its order, in which operation p is a call that leaves some value. -/
theorem region_call {id : Nat} {Q : Exit → Act → World → Prop} {a : Act} {w : World} {l : List Oper} (S : Option Value → World → Prop) (C : Value → Prop) (n p : Nat) (order1 order2 : List Nat) (hm : P.follows .mixedOrders = true) (hB : checkE l.toArray n p order1 order2 = true)
    {op : Oper} (hop : l[p]? = some op) (hpn : op.guard = none) (hS : S none w.drew)
    (h : wpDA P l.toArray S (fun a1 => ∃ f args, (∀ w, (execOp a1.eval op).run P w = .ok (.enter f args) w) ∧ (∀ w, S none w → Calls P f args w (fun e w2 => ∃ v, C v ∧ S (some v) w2 ∧ e = .returned v)) ∧
      ∀ v, C v → wpDA P l.toArray S (fun a2 => ∀ w', S (some v) w' → wpList P l.toArray Q (l.drop n) a2 w') (opsAt l order2) (a1.put op.dst v)) (opsAt l order1) a) : (Code.region id l.toArray true).wp P Q a w := by
  simp only [checkE, Bool.and_eq_true, decide_eq_true_eq, beq_iff_eq] at hB
  obtain ⟨⟨⟨⟨⟨⟨⟨⟨⟨hsel, hn⟩, hs⟩, hc⟩, ht1⟩, hrd⟩, hp⟩, ht2⟩, hlen⟩, hseq⟩ := hB
  have hn' : n < l.length := by simpa using hn
  have hdl : (l.drop n).length = l.toArray.size - n := by simp
  have inv0 : HeadInv .any l.toArray n (Array.replicate l.toArray.size false) :=
    ⟨by simp, fun j oj _ hl => (by rw [getD_replicate_false] at hl; cases hl), fun t _ ht => getD_in (by simpa using ht) (getD_replicate_false _ _)⟩
  have hpr : p ∈ Region.ready .any l.toArray (marks (Array.replicate l.toArray.size false) order1) := by rw [hrd]; simp
  refine wp_region_any hm ?_
  have H := head_takesE (f := order2.length + 1) (step := fun i D D' => i = p ∧ D = none ∧ ∃ v, C v ∧ D' = some v) (val := fun _ D => D.getD undef) (D := none) (L := fun D listed a' => Region.seqB .any l.toArray (l.toArray.size - n) n listed = true ∧ ∀ w', S D w' → wpList P l.toArray Q (l.drop n) a' w') rfl hsel hs hc hn (fun D listed a hL => seqB_ready hL.1) order1 _ a inv0 ht1
    (wpDA_mono _ _ _ _ (fun a1 h1 inv => by
      obtain ⟨f, args, he, hcall, h2⟩ := h1
      refine ⟨by rw [hrd]; simp, fun j hj => ?_⟩
      rw [hrd] at hj
      have : j = p := by simpa using hj
      subst this
      refine ⟨hp, .inl ⟨by simp, op, by simpa using hop, ⟨by unfold Region.wanted; rw [hpn], fun w hw => ⟨w, .inr ⟨f, args, he w, (hcall w hw).mono fun e w2 ⟨v, hcv, hv, hev⟩ => ⟨some v, ⟨rfl, rfl, v, hcv, rfl⟩, hv, by rw [hev]; rfl⟩⟩⟩⟩, ?_⟩⟩
      rintro D' ⟨_, _, v, hcv, rfl⟩
      have inv2 := inv.set hpr hp
      have := head_takesE (f := 0) (step := fun i D D' => i = j ∧ D = none ∧ ∃ v, C v ∧ D' = some v) (val := fun _ D => D.getD undef) (D := some v) (L := fun D listed a' => Region.seqB .any l.toArray (l.toArray.size - n) n listed = true ∧ ∀ w', S D w' → wpList P l.toArray Q (l.drop n) a' w') rfl hsel hs hc hn (fun D listed a hL => seqB_ready hL.1) order2 _ (a1.put op.dst v) inv2 ht2
        (wpDA_mono _ _ _ _ (fun a2 h2 inv => ⟨hseq, h2⟩) (h2 v hcv))
      simpa using this) h)
  have := any_of_headE (Q := Q) (g := l.toArray.size - n) (fun D listed a' hL w' hS' => by
      have := wpAny_of_seq (md := .any) (Q' := Q) (l.drop n) n listed a' w' (fun j => by simp [List.getElem?_drop]) (by rw [hdl]; exact hL.1) (hL.2 w' hS')
      rwa [hdl] at this) _ _ _ _ H w.drew hS
  rw [hlen, show n + (l.toArray.size - n) = l.toArray.size by omega] at this
  exact this
end
section
variable {P : Program}
/-- Operations in given orders between special ones, each of which is the only one ready when it comes. -/
def planE {σ : Type} (P : Program) (ops : Array Oper) (S : σ → World → Prop) (step : Nat → σ → σ → Prop) (val : Nat → σ → Value) (l : List Oper) (L : σ → Act → Prop) (last : List Nat) : List (List Nat × Nat) → σ → Act → Prop
  | [], D, a => wpDA P ops S (L D) (opsAt l last) a
  | (ord, p) :: rest, D, a => wpDA P ops S (fun a1 => ∃ op, l[p]? = some op ∧ NewE P ops S step val p D op a1 ∧ ∀ D', step p D D' → planE P ops S step val l L last rest D' (a1.put op.dst (val p D'))) (opsAt l ord) a
def planB (ops : Array Oper) (n : Nat) (ps : List Nat) (last : List Nat) : List (List Nat × Nat) → Array Bool → Bool
  | [], listed => takes .any ops ps n last listed && Region.seqB .any ops (ops.size - n) n (marks listed last)
  | (ord, p) :: rest, listed => takes .any ops ps n ord listed && (Region.ready .any ops (marks listed ord) == [p]) && decide (p < n) && ps.contains p && planB ops n ps last rest ((marks listed ord).setIfInBounds p true)
def planN (last : List Nat) : List (List Nat × Nat) → Nat
  | [] => last.length
  | (ord, _) :: rest => ord.length + (planN last rest + 1)
theorem marks_inv {md : Region.Mode} {ops : Array Oper} {n : Nat} {ps : List Nat} : ∀ (ord : List Nat) (listed : Array Bool), HeadInv md ops n listed → takes md ops ps n ord listed = true → HeadInv md ops n (marks listed ord)
  | [], listed, inv, _ => inv
  | k :: ord, listed, inv, h => by
    simp only [takes, Bool.and_eq_true, decide_eq_true_eq] at h
    obtain ⟨⟨⟨⟨hr, _⟩, hk⟩, _⟩, h2⟩ := h
    exact marks_inv ord _ (inv.set (by simpa using hr) hk) h2
theorem head_plan {σ : Type} {Q : Exit → Act → World → Prop} {l : List Oper} {S : σ → World → Prop} {step : Nat → σ → σ → Prop} {val : Nat → σ → Value} {n : Nat} {ps last : List Nat} (hsel : Region.noSelect l.toArray = true) (hs : Region.sinkB .any l.toArray n = true) (hc : Region.chainB .any l.toArray n = true) (hn : n < l.toArray.size) :
    ∀ (segs : List (List Nat × Nat)) (D : σ) (listed : Array Bool) (a : Act), HeadInv .any l.toArray n listed → planB l.toArray n ps last segs listed = true →
      planE P l.toArray S step val l (fun D a' => ∀ w', S D w' → wpList P l.toArray Q (l.drop n) a' w') last segs D a →
      wpHeadE P .any l.toArray S step val ps n (fun D listed a' => Region.seqB .any l.toArray (l.toArray.size - n) n listed = true ∧ ∀ w', S D w' → wpList P l.toArray Q (l.drop n) a' w') (planN last segs) D listed a
  | [], D, listed, a, inv, hB, h => by
    simp only [planB, Bool.and_eq_true] at hB
    have := head_takesE (f := 0) (ps := ps) (step := step) (val := val) (D := D) (L := fun D listed a' => Region.seqB .any l.toArray (l.toArray.size - n) n listed = true ∧ ∀ w', S D w' → wpList P l.toArray Q (l.drop n) a' w') rfl hsel hs hc hn (fun D listed a hL => seqB_ready hL.1) last listed a inv hB.1 (wpDA_mono _ _ _ _ (fun a2 h2 inv => ⟨hB.2, h2⟩) h)
    simpa [planN] using this
  | (ord, p) :: rest, D, listed, a, inv, hB, h => by
    simp only [planB, Bool.and_eq_true, decide_eq_true_eq, beq_iff_eq] at hB
    obtain ⟨⟨⟨⟨ht, hrd⟩, hp⟩, hpp⟩, hB2⟩ := hB
    have hpr : p ∈ Region.ready .any l.toArray (marks listed ord) := by rw [hrd]; simp
    have inv2 := (marks_inv ord listed inv ht).set hpr hp
    exact head_takesE (f := planN last rest + 1) (ps := ps) (step := step) (val := val) (D := D) rfl hsel hs hc hn (fun D listed a hL => seqB_ready hL.1) ord listed a inv ht
      (wpDA_mono _ _ _ _ (fun a1 h1 _ => by
        obtain ⟨op, hop, hN, h2⟩ := h1
        refine ⟨by rw [hrd]; simp, fun j hj => ?_⟩
        rw [hrd] at hj
        have : j = p := by simpa using hj
        subst this
        exact ⟨hp, .inl ⟨by simpa using hpp, op, by simpa using hop, hN, fun D' hD => head_plan hsel hs hc hn rest D' _ _ inv2 hB2 (h2 D' hD)⟩⟩) h)
def checkP (ops : Array Oper) (n : Nat) (ps last : List Nat) (segs : List (List Nat × Nat)) : Bool :=
  Region.noSelect ops && decide (n < ops.size) && Region.sinkB .any ops n && Region.chainB .any ops n && planB ops n ps last segs (Array.replicate ops.size false) && decide (planN last segs = n)
theorem region_plan {σ : Type} {id : Nat} {Q : Exit → Act → World → Prop} {a : Act} {w : World} {l : List Oper} (S : σ → World → Prop) (step : Nat → σ → σ → Prop) (val : Nat → σ → Value) (D0 : σ) (n : Nat) (ps last : List Nat) (segs : List (List Nat × Nat)) (hm : P.follows .mixedOrders = true) (hB : checkP l.toArray n ps last segs = true)
    (hS : S D0 w.drew) (h : planE P l.toArray S step val l (fun D a' => ∀ w', S D w' → wpList P l.toArray Q (l.drop n) a' w') last segs D0 a) : (Code.region id l.toArray true).wp P Q a w := by
  simp only [checkP, Bool.and_eq_true, decide_eq_true_eq] at hB
  obtain ⟨⟨⟨⟨⟨hsel, hn⟩, hs⟩, hc⟩, hpl⟩, hlen⟩ := hB
  have hn' : n < l.length := by simpa using hn
  have hdl : (l.drop n).length = l.toArray.size - n := by simp
  have inv0 : HeadInv .any l.toArray n (Array.replicate l.toArray.size false) :=
    ⟨by simp, fun j oj _ hl => (by rw [getD_replicate_false] at hl; cases hl), fun t _ ht => getD_in (by simpa using ht) (getD_replicate_false _ _)⟩
  refine wp_region_any hm ?_
  have H := head_plan (P := P) (Q := Q) (ps := ps) (step := step) (val := val) hsel hs hc hn segs D0 _ a inv0 hpl h
  have := any_of_headE (Q := Q) (g := l.toArray.size - n) (fun D listed a' hL w' hS' => by
      have := wpAny_of_seq (md := .any) (Q' := Q) (l.drop n) n listed a' w' (fun j => by simp [List.getElem?_drop]) (by rw [hdl]; exact hL.1) (hL.2 w' hS')
      rwa [hdl] at this) _ _ _ _ H w.drew hS
  rw [hlen, show n + (l.toArray.size - n) = l.toArray.size by omega] at this
  exact this
variable {σ : Type} {ops : Array Oper} {S : σ → World → Prop}
theorem wpDA_skip {L : Act → Prop} {o : Oper} {rest : List Oper} {a : Act} (hg : Region.wanted o (yielded ops a.tmps) = false)
    (hr : wpDA P ops S L rest (a.put o.dst undef)) : wpDA P ops S L (o :: rest) a := ⟨undef, fun _ => .inr ⟨hg, rfl⟩, hr⟩
theorem wpDA_pureg {L : Act → Prop} {o : Oper} {rest : List Oper} {v : Value} {a : Act} (hg : Region.wanted o (yielded ops a.tmps) = true) (h : ∀ w, (execOp a.eval o).run P w = .ok (.value v) w)
    (hr : wpDA P ops S L rest (a.put o.dst v)) : wpDA P ops S L (o :: rest) a :=
  ⟨v, fun D => .inl ⟨hg, fun w hS => ⟨w, .inl ⟨h w, hS⟩⟩⟩, hr⟩
theorem wpDA_hereg {L : Act → Prop} {o : Oper} {rest : List Oper} {v : Value} {a : Act} (hg : Region.wanted o (yielded ops a.tmps) = true) (h : ∀ D w, S D w → (execOp a.eval o).run P w = .ok (.value v) w)
    (hr : wpDA P ops S L rest (a.put o.dst v)) : wpDA P ops S L (o :: rest) a :=
  ⟨v, fun D => .inl ⟨hg, fun w hS => ⟨w, .inl ⟨h D w hS, hS⟩⟩⟩, hr⟩
theorem wpDA_callg {L : Act → Prop} {o : Oper} {rest : List Oper} {v : Value} {a : Act} (hg : Region.wanted o (yielded ops a.tmps) = true) (f : FuncId) (args : Array Value)
    (h : ∀ w, (execOp a.eval o).run P w = .ok (.enter f args) w) (hc : ∀ D w, S D w → Calls P f args w (fun e w2 => e = .returned v ∧ S D w2))
    (hr : wpDA P ops S L rest (a.put o.dst v)) : wpDA P ops S L (o :: rest) a :=
  ⟨v, fun D => .inl ⟨hg, fun w hS => ⟨w, .inr (.inr ⟨f, args, h w, hc D w hS⟩)⟩⟩, hr⟩
end
end Pl
namespace Go.Proofs.Ytcpfabkokgiepaa
open Go.RowKit Pl

theorem load_vec_w {ops : Array Oper} {rest : List Oper} {o : Oper} {a : Act} {w : World} {Q : Exit → Act → World → Prop} (hw : Region.wanted o (yielded ops a.tmps) = true) (x : Operand) (ho : o.op = .load 45 x) (g : Nat) (hx : a.eval x = .pointer (some ⟨g, 0, none⟩)) (v : Vec)
    (hg : w.heap[g]? = some (.cells (cells v) 45 (0, 0))) (h : wpList Try.prog ops Q rest (a.put o.dst (.agg (cells v))) w) : wpList Try.prog ops Q (o :: rest) a w := by
  refine wpList_step fun K hK => ?_
  rw [if_pos hw]
  unfold Oper.wp execOp
  simp only [ho, hx, Instr.loadAt, Instr.sureAddr, Sem.run_bind, Sem.run_pure, Result.andThen_ok, run_loadVar_row w g 45 45 (cells v) (0, 0) _ hg vunder rfl (vsize v)]
  exact hK _ _ h
/-- Do where it answers. -/
theorem do_val (op A : Int) (lo hi : Nat) (lv : Value) (hs : List Nat) (l : List Nat) (E : Int) (w : World) (ho : -9223372036854775808 ≤ op ∧ op ≤ 9223372036854775807) (hH : LView .u64 w lv (hs.map Nat.cast)) (hl : ∀ x ∈ hs, x < 18446744073709551616) (hR : doV op A lo hi hs = (l, E)) :
    Calls Try.prog 10 #[.agg #[.int .i64 op, .int .i64 A, .int .i64 0, .int .u64 (lo : Nat), .int .u64 (hi : Nat), .slice none 0 0], lv] w fun e w' => (∃ rv, e = .returned (.tuple #[rv, .int .i64 E]) ∧ LView .u64 w' rv (l.map Nat.cast)) ∧ Below w.heap.size w w' := by
  refine (do_k op A 0 lo hi (.slice none 0 0) lv hs w ho hH hl).mono fun e w' h => ⟨?_, h.2⟩
  have := h.1.view
  rw [hR] at this
  exact this
set_option maxRecDepth 100000 in
set_option maxHeartbeats 40000000 in
theorem halves_k (v : Vec) (op A : Int) (lo hi : Nat) (lv : Value) (hs : List Nat) (w : World) (ho : -9223372036854775808 ≤ op ∧ op ≤ 9223372036854775807) (hH : LView .u64 w lv (hs.map Nat.cast)) (hl : ∀ x ∈ hs, x < 18446744073709551616) (hR : doV op A lo hi hs = hal v) :
    Calls Try.prog 20 #[.agg (cells v), .agg #[.int .i64 op, .int .i64 A, .int .i64 0, .int .u64 (lo : Nat), .int .u64 (hi : Nat), .slice none 0 0], lv] w fun e w' => e = .returned (.bool true) ∧ Below w.heap.size w w' := by
  have HD := Lib.hid (fun W hW => do_val op A lo hi lv hs _ _ W ho (hH.below hW) hl hR)
  clear hH hl hR ho
  go_enter Try.func20, Try.ntmps20
  go_wp2_with (first | (go_at_call 10; refine (HD.out _ (((Below.refl _ _).alloc (Nat.le_refl _) _).alloc (by simp) _)).mono ?_; rintro e u1 ⟨⟨rv, rfl, hv1⟩, hb1⟩; replace hv1 : LView .u64 u1 rv [((getN v 64 0 : Nat) : Int), ((getN v 64 1 : Nat) : Int)] := hv1; have hV := blk_keep (heap_alloc2_old w (.cells (cells v) 45) (.cells #[.int .i64 op, .int .i64 A, .int .i64 0, .int .u64 (lo : Nat), .int .u64 (hi : Nat), .slice none 0 0] 25)) hb1; have hZ := below_alloc2 w _ _ hb1; clear hb1) | (with_reducible refine load_vec rfl _ rfl _ rfl _ hV ?_) | (go_at_call 16; refine (split_k v _).mono ?_; rintro e u2 ⟨rfl, hb2⟩; replace hv1 := hv1.below hb2; replace hZ := hZ.trans (hb2.mono hZ.size); clear hb2 hV) | (go_at_call 12; (with_reducible refine (same_two rv _ _ _ _ (hv1.below (((Below.refl _ _).alloc (Nat.le_refl _) _).alloc (by simp) _)) (heap_alloc2_new _ _ _)).mono ?_); rintro e u3 ⟨rfl, hb3⟩; replace hZ := ((hZ.alloc hZ.size _).alloc (by have := hZ.size; simp; omega) _).trans (hb3.mono (by have := hZ.size; simp; omega))))
  skip
  go_ret
  exact ⟨rfl, hZ⟩
/-- What stays throughout the walk: the two vectors and their halves. -/
structure PZ (w0 : World) (BX BY : Nat) (a b : Vec) (u : World) : Prop where
  bel : Below w0.heap.size w0 u
  ha : u.heap[w0.heap.size]? = some (.cells (cells a) 45 (0, 0))
  hb : u.heap[w0.heap.size + 1]? = some (.cells (cells b) 45 (0, 0))
  hx : u.heap[BX]? = some (.cells #[.int .u64 (getN a 64 0), .int .u64 (getN a 64 1)] 47 (0, 0))
  hy : u.heap[BY]? = some (.cells #[.int .u64 (getN b 64 0), .int .u64 (getN b 64 1)] 47 (0, 0))
theorem PZ.below {w0 u u1 : World} {BX BY : Nat} {a b : Vec} (h : PZ w0 BX BY a b u) (hb : Below u.heap.size u u1) : PZ w0 BX BY a b u1 :=
  ⟨h.bel.trans (hb.mono h.bel.size), blk_keep h.ha hb, blk_keep h.hb hb, blk_keep h.hx hb, blk_keep h.hy hb⟩
theorem PZ.alloc {w0 u : World} {BX BY : Nat} {a b : Vec} (h : PZ w0 BX BY a b u) (x : Obj) : PZ w0 BX BY a b (u.alloc x) := h.below ((Below.refl _ _).alloc (Nat.le_refl _) x)
theorem PZ.sets {w0 u u1 : World} {BX BY g : Nat} {a b v : Vec} (h : PZ w0 BX BY a b u) (hs : Sets u g v u1) (h0 : w0.heap.size ≤ g) (h1 : g ≠ w0.heap.size) (h2 : g ≠ w0.heap.size + 1) (h3 : g ≠ BX) (h4 : g ≠ BY) : PZ w0 BX BY a b u1 :=
  ⟨h.bel.trans (hs.below.mono h0), (hs.other _ (Ne.symm h1)).trans h.ha, (hs.other _ (Ne.symm h2)).trans h.hb, (hs.other _ (Ne.symm h3)).trans h.hx, (hs.other _ (Ne.symm h4)).trans h.hy⟩
theorem PZ.lt {w0 u : World} {BX BY : Nat} {a b : Vec} (h : PZ w0 BX BY a b u) : w0.heap.size + 1 < u.heap.size ∧ BX < u.heap.size ∧ BY < u.heap.size := ⟨block_lt h.hb, block_lt h.hx, block_lt h.hy⟩
theorem hal_lit2 {w : World} {b : Nat} (x y : Nat) (h : w.heap[b]? = some (.cells #[.int .u64 (x : Int), .int .u64 (y : Int)] 22 (0, 0))) : LView .u64 w (.slice (some ⟨b, 0, none⟩) 2 2) ([x, y].map Nat.cast) := lv_lit [(x : Int), (y : Int)] h
theorem hal_lit1 {w : World} {b : Nat} (x : Nat) (h : w.heap[b]? = some (.cells #[.int .u64 (x : Int)] 22 (0, 0))) : LView .u64 w (.slice (some ⟨b, 0, none⟩) 1 1) ([x].map Nat.cast) := lv_lit [(x : Int)] h
theorem hal_lit3 {w : World} {b : Nat} (x y z : Nat) (h : w.heap[b]? = some (.cells #[.int .u64 (x : Int), .int .u64 (y : Int), .int .u64 (z : Int)] 22 (0, 0))) : LView .u64 w (.slice (some ⟨b, 0, none⟩) 3 3) ([x, y, z].map Nat.cast) := lv_lit [(x : Int), (y : Int), (z : Int)] h
theorem hal_lit4 {w : World} {b : Nat} (x y z t : Nat) (h : w.heap[b]? = some (.cells #[.int .u64 (x : Int), .int .u64 (y : Int), .int .u64 (z : Int), .int .u64 (t : Int)] 22 (0, 0))) : LView .u64 w (.slice (some ⟨b, 0, none⟩) 4 4) ([x, y, z, t].map Nat.cast) := lv_lit [(x : Int), (y : Int), (z : Int), (t : Int)] h
structure PQ (w0 : World) (BX BY BV : Nat) (a b v : Vec) (u : World) : Prop where
  pz : PZ w0 BX BY a b u
  hv : u.heap[BV]? = some (.cells (cells v) 45 (0, 0))
  lt : w0.heap.size + 1 < BV ∧ BX < BV ∧ BY < BV
theorem PQ.below {w0 u u1 : World} {BX BY BV : Nat} {a b v : Vec} (h : PQ w0 BX BY BV a b v u) (hb : Below u.heap.size u u1) : PQ w0 BX BY BV a b v u1 := ⟨h.pz.below hb, blk_keep h.hv hb, h.lt⟩
theorem PQ.alloc {w0 u : World} {BX BY BV : Nat} {a b v : Vec} (h : PQ w0 BX BY BV a b v u) (x : Obj) : PQ w0 BX BY BV a b v (u.alloc x) := h.below ((Below.refl _ _).alloc (Nat.le_refl _) x)
theorem PQ.sets {w0 u u1 : World} {BX BY BV : Nat} {a b v v' : Vec} (h : PQ w0 BX BY BV a b v u) (hs : Sets u BV v' u1) : PQ w0 BX BY BV a b v' u1 :=
  ⟨h.pz.sets hs (by have := h.lt; omega) (by have := h.lt; omega) (by have := h.lt; omega) (by have := h.lt; omega) (by have := h.lt; omega), hs.this, h.lt⟩
theorem PQ.start {w0 u u1 : World} {BX BY : Nat} {a b v : Vec} {x : Obj} (h : PZ w0 BX BY a b u) (hs : Sets (u.alloc x) u.heap.size v u1) : PQ w0 BX BY u.heap.size a b v u1 :=
  ⟨(h.alloc x).sets hs (by have := h.lt; omega) (by have := h.lt; omega) (by have := h.lt; omega) (by have := h.lt; omega) (by have := h.lt; omega), hs.this, h.lt⟩
theorem PZ.drew {w0 u : World} {BX BY : Nat} {a b : Vec} (h : PZ w0 BX BY a b u) : PZ w0 BX BY a b u.drew := ⟨h.bel.drew, h.ha, h.hb, h.hx, h.hy⟩
theorem run_lv {o : Oper} {a : Act} {w : World} (x : Operand) (ho : o.op = .load 45 x) (g : Nat) (hx : a.eval x = .pointer (some ⟨g, 0, none⟩)) (v : Vec) (h : w.heap[g]? = some (.cells (cells v) 45 (0, 0))) :
    (execOp a.eval o).run Try.prog w = .ok (.value (.agg (cells v))) w := by
  unfold execOp
  simp only [ho, hx, Instr.loadAt, Instr.sureAddr, Sem.run_bind, Sem.run_pure, Result.andThen_ok, run_loadVar_row w g 45 45 (cells v) (0, 0) _ h vunder rfl (vsize v)]
theorem run_bu2 (x y : Int) (w : World) : (Instr.buildSlice 26 2 #[(0, .int .u64 x), (1, .int .u64 y)]).run Try.prog w = .ok (.slice (some ⟨w.heap.size, 0, none⟩) 2 2) (w.alloc (.cells #[.int .u64 x, .int .u64 y] 22)) := by kernel_rfl
theorem run_bu4 (x y z t : Int) (w : World) : (Instr.buildSlice 26 4 #[(0, .int .u64 x), (1, .int .u64 y), (2, .int .u64 z), (3, .int .u64 t)]).run Try.prog w = .ok (.slice (some ⟨w.heap.size, 0, none⟩) 4 4) (w.alloc (.cells #[.int .u64 x, .int .u64 y, .int .u64 z, .int .u64 t] 22)) := by kernel_rfl
theorem op_bu2 {o : Oper} {a : Act} {w : World} (p q : Operand) (ho : o.op = .buildSlice 26 2 #[(0, p), (1, q)]) (x y : Int) (hp : a.eval p = .int .u64 x) (hq : a.eval q = .int .u64 y) :
    (execOp a.eval o).run Try.prog w = .ok (.value (.slice (some ⟨w.heap.size, 0, none⟩) 2 2)) (w.alloc (.cells #[.int .u64 x, .int .u64 y] 22)) := by
  unfold execOp
  have hp : (#[(0, p), (1, q)] : Array (Nat × Operand)).map (fun (i, x) => (i, a.eval x)) = #[(0, .int .u64 x), (1, .int .u64 y)] := by simp [hp, hq]
  simp only [ho]
  rw [hp, Sem.run_bind, run_bu2]
  rfl
theorem op_bu4 {o : Oper} {a : Act} {w : World} (p q r s : Operand) (ho : o.op = .buildSlice 26 4 #[(0, p), (1, q), (2, r), (3, s)]) (x y z t : Int) (hp : a.eval p = .int .u64 x) (hq : a.eval q = .int .u64 y) (hr : a.eval r = .int .u64 z) (hs : a.eval s = .int .u64 t) :
    (execOp a.eval o).run Try.prog w = .ok (.value (.slice (some ⟨w.heap.size, 0, none⟩) 4 4)) (w.alloc (.cells #[.int .u64 x, .int .u64 y, .int .u64 z, .int .u64 t] 22)) := by
  unfold execOp
  have hp : (#[(0, p), (1, q), (2, r), (3, s)] : Array (Nat × Operand)).map (fun (i, x) => (i, a.eval x)) = #[(0, .int .u64 x), (1, .int .u64 y), (2, .int .u64 z), (3, .int .u64 t)] := by simp [hp, hq, hr, hs]
  simp only [ho]
  rw [hp, Sem.run_bind, run_bu4]
  rfl
/-- The states of the last statement: which slice has been built last. -/
structure SZ (w0 : World) (BX BY : Nat) (a b : Vec) (BZ : Nat) (Z : Vec) (rv : Value) (l : List Int) (D : Option (Nat × List Int)) (u : World) : Prop where
  pz : PZ w0 BX BY a b u
  hz : u.heap[BZ]? = some (.cells #[.int .u64 (getN Z 64 0), .int .u64 (getN Z 64 1)] 47 (0, 0))
  hr : LView .u64 u rv l
  hd : ∀ b0 xs, D = some (b0, xs) → LView .u64 u (.slice (some ⟨b0, 0, none⟩) xs.length xs.length) xs
theorem SZ.below {w0 u u1 : World} {BX BY BZ : Nat} {a b Z : Vec} {rv : Value} {l : List Int} {D : Option (Nat × List Int)} (h : SZ w0 BX BY a b BZ Z rv l D u) (hb : Below u.heap.size u u1) : SZ w0 BX BY a b BZ Z rv l D u1 :=
  ⟨h.pz.below hb, blk_keep h.hz hb, h.hr.below hb, fun b0 xs e => (h.hd b0 xs e).below hb⟩
theorem SZ.made {w0 u : World} {BX BY BZ : Nat} {a b Z : Vec} {rv : Value} {l : List Int} {D : Option (Nat × List Int)} (h : SZ w0 BX BY a b BZ Z rv l D u) (xs : List Int) (cs : Array Value) (hc : cs = (xs.map (Value.int .u64)).toArray) : SZ w0 BX BY a b BZ Z rv l (some (u.heap.size, xs)) (u.alloc (.cells cs 22)) := by
  subst hc
  have h1 := h.below ((Below.refl u.heap.size u).alloc (Nat.le_refl _) (.cells (xs.map (Value.int .u64)).toArray 22))
  refine ⟨h1.pz, h1.hz, h1.hr, fun b0 xs' e => ?_⟩
  injection e with e
  injection e with e1 e2
  subst e1 e2
  exact lv_lit xs (heap_alloc_new _ _)
def stepZ (l1 l2 : List Int) (i : Nat) (D D' : Option (Nat × List Int)) : Prop := (i = 8 ∧ ∃ b0, D' = some (b0, l1)) ∨ (i = 24 ∧ ∃ b0, D' = some (b0, l2)) ∨ ((i = 9 ∨ i = 25) ∧ D' = D)
def valZ (i : Nat) (D : Option (Nat × List Int)) : Value := if i = 8 ∨ i = 24 then (match D with | some (b0, xs) => .slice (some ⟨b0, 0, none⟩) xs.length xs.length | none => undef) else .bool true
theorem valZ_8 (b0 : Nat) (xs : List Int) : valZ 8 (some (b0, xs)) = .slice (some ⟨b0, 0, none⟩) xs.length xs.length := rfl
theorem valZ_24 (b0 : Nat) (xs : List Int) : valZ 24 (some (b0, xs)) = .slice (some ⟨b0, 0, none⟩) xs.length xs.length := rfl
theorem valZ_9 (D : Option (Nat × List Int)) : valZ 9 D = .bool true := rfl
theorem valZ_25 (D : Option (Nat × List Int)) : valZ 25 D = .bool true := rfl
theorem stepZ_8 {l1 l2 : List Int} {D D' : Option (Nat × List Int)} (h : stepZ l1 l2 8 D D') : ∃ b0, D' = some (b0, l1) := by
  rcases h with ⟨_, h⟩ | ⟨h, _⟩ | ⟨h, _⟩
  · exact h
  · exact absurd h (by decide)
  · exact absurd h (by decide)
theorem stepZ_24 {l1 l2 : List Int} {D D' : Option (Nat × List Int)} (h : stepZ l1 l2 24 D D') : ∃ b0, D' = some (b0, l2) := by
  rcases h with ⟨h, _⟩ | ⟨_, h⟩ | ⟨h, _⟩
  · exact absurd h (by decide)
  · exact h
  · exact absurd h (by decide)
theorem stepZ_9 {l1 l2 : List Int} {D D' : Option (Nat × List Int)} (h : stepZ l1 l2 9 D D') : D' = D := by
  rcases h with ⟨h, _⟩ | ⟨h, _⟩ | ⟨_, h⟩
  · exact absurd h (by decide)
  · exact absurd h (by decide)
  · exact h
theorem stepZ_25 {l1 l2 : List Int} {D D' : Option (Nat × List Int)} (h : stepZ l1 l2 25 D D') : D' = D := by
  rcases h with ⟨h, _⟩ | ⟨h, _⟩ | ⟨_, h⟩
  · exact absurd h (by decide)
  · exact absurd h (by decide)
  · exact h
set_option maxRecDepth 100000 in
set_option maxHeartbeats 40000000 in
theorem parts_k (Vu Vw Vb1 Vn Vwb Vc Vb2 Vs Vsp Vr Vsf Vsz : Vec) (Eu Ew Eb1 En Ewb Ec Eb2 Es Esp Er Ex Et Esf Eg : Int) (nx mt : Nat) (lg lsf : List Nat) (op : Int) (U κ : Nat) (a b : Vec) (w : World) (hU : IntKind.u64.wrap op = (U : Int)) (hκ : U % 256 = κ) (HUN : ∀ W, Calls Try.prog 17 #[.int .i64 (64768 + (κ : Int)), .agg (cells a)] W fun e w' => e = .returned (.tuple #[.agg (cells Vu), .int .i64 Eu]) ∧ Below W.heap.size W w') (HWU : ∀ W, Calls Try.prog 18 #[.int .i64 (64768 + (κ : Int)), .agg (cells a)] W fun e w' => e = .returned (.tuple #[.agg (cells Vw), .int .i64 Ew]) ∧ Below W.heap.size W w') (HB1 : ∀ (W : World) (v : Value), VSl W v [a] → Calls Try.prog 19 #[.int .i64 (64768 + (κ : Int)), v] W fun e w' => e = .returned (.tuple #[.agg (cells Vb1), .int .i64 Eb1]) ∧ Below W.heap.size W w') (HBI : ∀ W, Calls Try.prog 21 #[.int .i64 (64768 + (κ : Int)), .agg (cells a), .agg (cells b)] W fun e w' => e = .returned (.tuple #[.agg (cells Vn), .int .i64 En]) ∧ Below W.heap.size W w') (HWB : ∀ W, Calls Try.prog 22 #[.int .i64 (64768 + (κ : Int)), .agg (cells a), .agg (cells b)] W fun e w' => e = .returned (.tuple #[.agg (cells Vwb), .int .i64 Ewb]) ∧ Below W.heap.size W w') (HCM : ∀ W, Calls Try.prog 23 #[.int .i64 (64768 + (κ : Int)), .agg (cells a), .agg (cells b)] W fun e w' => e = .returned (.tuple #[.agg (cells Vc), .int .i64 Ec]) ∧ Below W.heap.size W w') (HB2 : ∀ (W : World) (v : Value), VSl W v [a, b] → Calls Try.prog 19 #[.int .i64 (64768 + (κ : Int)), v] W fun e w' => e = .returned (.tuple #[.agg (cells Vb2), .int .i64 Eb2]) ∧ Below W.heap.size W w') (HSH : ∀ W, Calls Try.prog 24 #[.int .i64 (64768 + (κ : Int)), .agg (cells a), .int .u32 ((getN b 64 0 : Int) % 4294967296)] W fun e w' => e = .returned (.tuple #[.agg (cells Vs), .int .i64 Es]) ∧ Below W.heap.size W w') (HSP : ∀ W, Calls Try.prog 25 #[.int .i64 (64768 + (κ : Int)), .int .u64 (getN b 64 1 : Nat)] W fun e w' => e = .returned (.tuple #[.agg (cells Vsp), .int .i64 Esp]) ∧ Below W.heap.size W w') (HRE : ∀ W, Calls Try.prog 26 #[.int .i64 (64768 + (κ : Int)), .int .i64 1, .agg (cells a), .int .u64 (getN b 64 0 : Nat)] W fun e w' => e = .returned (.tuple #[.agg (cells Vr), .int .i64 Er]) ∧ Below W.heap.size W w') (HEX : ∀ W, Calls Try.prog 27 #[.int .i64 (64768 + (κ : Int)), .int .i64 1, .agg (cells a)] W fun e w' => e = .returned (.tuple #[.int .u64 (nx : Nat), .int .i64 Ex]) ∧ Below W.heap.size W w') (HTE : ∀ W, Calls Try.prog 28 #[.int .i64 (64768 + (κ : Int)), .agg (cells a)] W fun e w' => e = .returned (.tuple #[.int .u32 (mt : Nat), .int .i64 Et]) ∧ Below W.heap.size W w') (HSF : ∀ W, Calls Try.prog 29 #[.agg (cells b), .agg (cells a), .agg (cells b)] W fun e w' => e = .returned (.tuple #[.agg (cells Vsf), .int .i64 Esf]) ∧ Below W.heap.size W w') (HSZ : ∀ W, Calls Try.prog 30 #[.agg (cells a), .agg (cells b)] W fun e w' => e = .returned (.agg (cells Vsz)) ∧ Below W.heap.size W w') (HH1 : ∀ (W : World) (lv : Value) (V : Vec), orV (orV (Vu, Eu) (Vw, Ew)) (Vb1, Eb1) = (V, 0) → LView .u64 W lv ([getN a 64 0, getN a 64 1].map Nat.cast) → Calls Try.prog 20 #[.agg (cells V), .agg #[.int .i64 (64768 + (κ : Int)), .int .i64 0, .int .i64 0, .int .u64 0, .int .u64 0, .slice none 0 0], lv] W fun e w' => e = .returned (.bool true) ∧ Below W.heap.size W w') (HH2 : ∀ (W : World) (lv : Value) (V : Vec), orV (orV (orV (Vn, En) (Vwb, Ewb)) (Vc, Ec)) (Vb2, Eb2) = (V, 0) → LView .u64 W lv ([getN a 64 0, getN a 64 1, getN b 64 0, getN b 64 1].map Nat.cast) → Calls Try.prog 20 #[.agg (cells V), .agg #[.int .i64 (64768 + (κ : Int)), .int .i64 0, .int .i64 0, .int .u64 0, .int .u64 0, .slice none 0 0], lv] W fun e w' => e = .returned (.bool true) ∧ Below W.heap.size W w') (HH3 : ∀ (W : World) (lv : Value) (V : Vec), (Vs, Es) = (V, 0) → LView .u64 W lv ([getN a 64 0, getN a 64 1, getN b 64 0].map Nat.cast) → Calls Try.prog 20 #[.agg (cells V), .agg #[.int .i64 (64768 + (κ : Int)), .int .i64 0, .int .i64 0, .int .u64 0, .int .u64 0, .slice none 0 0], lv] W fun e w' => e = .returned (.bool true) ∧ Below W.heap.size W w') (HH4 : ∀ (W : World) (lv : Value) (V : Vec), (Vsp, Esp) = (V, 0) → LView .u64 W lv ([getN b 64 1].map Nat.cast) → Calls Try.prog 20 #[.agg (cells V), .agg #[.int .i64 (64768 + (κ : Int)), .int .i64 0, .int .i64 0, .int .u64 0, .int .u64 0, .slice none 0 0], lv] W fun e w' => e = .returned (.bool true) ∧ Below W.heap.size W w') (HH5 : ∀ (W : World) (lv : Value) (V : Vec), (Vr, Er) = (V, 0) → LView .u64 W lv ([getN a 64 0, getN a 64 1, getN b 64 0].map Nat.cast) → Calls Try.prog 20 #[.agg (cells V), .agg #[.int .i64 (64768 + (κ : Int)), .int .i64 1, .int .i64 0, .int .u64 0, .int .u64 0, .slice none 0 0], lv] W fun e w' => e = .returned (.bool true) ∧ Below W.heap.size W w') (HH6 : ∀ (W : World) (lv : Value) (V : Vec), (Vsz, (0 : Int)) = (V, 0) → LView .u64 W lv ([getN a 64 0, getN a 64 1, getN b 64 0, getN b 64 1].map Nat.cast) → Calls Try.prog 20 #[.agg (cells V), .agg #[.int .i64 64782, .int .i64 0, .int .i64 0, .int .u64 0, .int .u64 0, .slice none 0 0], lv] W fun e w' => e = .returned (.bool true) ∧ Below W.heap.size W w') (HD1 : ∀ (W : World) (lv : Value), LView .u64 W lv ([getN a 64 0, getN a 64 1].map Nat.cast) → Calls Try.prog 10 #[.agg #[.int .i64 (64768 + (κ : Int)), .int .i64 1, .int .i64 0, .int .u64 0, .int .u64 0, .slice none 0 0], lv] W fun e w' => (∃ rv, e = .returned (.tuple #[rv, .int .i64 Eg]) ∧ LView .u64 w' rv (lg.map Nat.cast)) ∧ Below W.heap.size W w') (HD2 : ∀ (W : World) (lv : Value), LView .u64 W lv ([getN a 64 0, getN a 64 1, getN b 64 0, getN b 64 1].map Nat.cast) → Calls Try.prog 10 #[.agg #[.int .i64 64781, .int .i64 0, .int .i64 0, .int .u64 (getN b 64 0 : Nat), .int .u64 (getN b 64 1 : Nat), .slice none 0 0], lv] W fun e w' => (∃ rv, e = .returned (.tuple #[rv, .int .i64 Esf]) ∧ LView .u64 w' rv (lsf.map Nat.cast)) ∧ Below W.heap.size W w') (hmt0 : mt < 4294967296) (HEG : Ex = 0 ∨ Et = 0 → Eg = 0 ∧ lg = [if Et = 0 then mt else nx]) (HLS : Esf = 0 → lsf = [getN Vsf 64 0, getN Vsf 64 1]) :
    Calls Try.prog 6 #[.int .i64 op, .agg (cells a), .agg (cells b)] w fun e w' => e = .returned (.bool true) ∧ Below w.heap.size w w' := by
  replace HUN := Lib.hid HUN
  replace HWU := Lib.hid HWU
  replace HB1 := Lib.hid HB1
  replace HBI := Lib.hid HBI
  replace HWB := Lib.hid HWB
  replace HCM := Lib.hid HCM
  replace HB2 := Lib.hid HB2
  replace HSH := Lib.hid HSH
  replace HSP := Lib.hid HSP
  replace HRE := Lib.hid HRE
  replace HEX := Lib.hid HEX
  replace HTE := Lib.hid HTE
  replace HSF := Lib.hid HSF
  replace HSZ := Lib.hid HSZ
  replace HH1 := Lib.hid HH1
  replace HH2 := Lib.hid HH2
  replace HH3 := Lib.hid HH3
  replace HH4 := Lib.hid HH4
  replace HH5 := Lib.hid HH5
  replace HH6 := Lib.hid HH6
  replace HD1 := Lib.hid HD1
  replace HD2 := Lib.hid HD2
  replace hmt0 := Lib.hid hmt0
  replace HEG := Lib.hid HEG
  replace HLS := Lib.hid HLS
  have hmt := hmt0.out
  have hk2 : κ < 256 := by omega
  have hkk : (U : Int) % 256 = (κ : Int) := by omega
  have hkt : (U : Int).tmod 256 = (κ : Int) := by rw [Int.tmod_eq_emod_of_nonneg (Int.natCast_nonneg _)]; exact hkk
  have h1 : IntKind.i64.wrap (κ : Int) = κ := IntWalk.i64_in _ (by omega)
  have h2 : IntKind.i64.wrap (64768 + (κ : Int)) = 64768 + (κ : Int) := IntWalk.i64_in _ (by omega)
  have h3 : IntKind.u64.wrap (κ : Int) = κ := IntWalk.u64_in _ (by omega)
  go_enter Try.func6, Try.ntmps6
  go_upto_region 6 with (first | (go_at_call 9; refine (awake_k _).mono ?_; rintro e u0 ⟨rfl, hb0⟩; have hA := blk_keep (heap_alloc2_old w (.cells (cells a) 45) (.cells (cells b) 45)) hb0; have hB := blk_keep (heap_alloc2_new w (.cells (cells a) 45) (.cells (cells b) 45)) hb0; have hZ := below_alloc2 w _ _ hb0; clear hb0) | (with_reducible refine load_vec rfl _ rfl _ rfl _ hA ?_) | (with_reducible refine load_vec rfl _ rfl _ rfl _ (blk_alloc hB _) ?_) | (go_at_call 16; (with_reducible refine (split_k a _).mono ?_); rintro e u1 ⟨rfl, hb1⟩; replace hA := blk_keep hA hb1; replace hB := blk_keep hB hb1; replace hZ := hZ.trans (hb1.mono hZ.size); clear hb1) | (go_at_call 16; (with_reducible refine (split_k b _).mono ?_); rintro e u2 ⟨rfl, hb2⟩; have hX := blk_keep (heap_alloc_new u1 (.cells #[.int .u64 (getN a 64 0), .int .u64 (getN a 64 1)] 47)) hb2; replace hA := blk_keep (blk_alloc hA _) hb2; replace hB := blk_keep (blk_alloc hB _) hb2; replace hZ := (hZ.alloc hZ.size _).trans (hb2.mono (by have := hZ.size; simp; omega)); clear hb2))
  obtain ⟨W, hW⟩ : ∃ W, W = u2.alloc (.cells #[.int .u64 (getN b 64 0), .int .u64 (getN b 64 1)] 47) := ⟨_, rfl⟩
  have pz : PZ w u1.heap.size u2.heap.size a b W := hW ▸ ⟨hZ.alloc hZ.size _, blk_alloc hA _, blk_alloc hB _, blk_alloc hX _, heap_alloc_new _ _⟩
  rw [← hW]
  clear hW hZ hA hB hX
  generalize u1.heap.size = BX at pz ⊢
  generalize u2.heap.size = BY at pz ⊢
  go_upto_if 36 with (first | (with_reducible refine load_vec rfl _ rfl _ rfl _ pz.ha ?_) | (go_at_call 17; refine (HUN.out _).mono ?_; rintro e u6 ⟨rfl, hb6⟩; replace pz := pz.below hb6; clear hb6) | (with_reducible refine store_vec rfl _ _ rfl u6.heap.size _ rfl rfl 0 (heap_new_zero _) ?_; intro u7 g7; have pq := PQ.start pz g7; clear g7 pz))
  generalize u6.heap.size = BV at pq ⊢
  go_upto_if 36 with fail
  go_cut [10] from 18 (fun s10 wx => ∃ (V : Vec) (E : Int), orV (Vu, Eu) (Vw, Ew) = (V, E) ∧ s10 = .int .i64 E ∧ PQ w BX BY BV a b V wx)
  case first =>
    by_cases hE : Eu = 0
    · have q : (Eu != 0) = false := by simp [hE]
      have HE := Lib.hid hE
      clear hE
      as_aux_lemma =>
      go_wp2_with fail
      go_meet
      exact ⟨Vu, Eu, orV_0 HE.out, rfl, pq⟩
    · have q : (Eu != 0) = true := by simp [hE]
      have HE := Lib.hid hE
      clear hE
      as_aux_lemma =>
      go_wp2_with (first | (with_reducible refine load_vec rfl _ rfl _ rfl _ pq.pz.ha ?_) | (with_reducible refine load_vec rfl _ rfl _ rfl _ pq.pz.hb ?_) | ((with_reducible refine load_w ?_ 22 isAgg_u64 _ rfl _ _ rfl _ _ pq.pz.hx _ rfl ?_); (focus rfl)) | ((with_reducible refine load_w ?_ 22 isAgg_u64 _ rfl _ _ rfl _ _ pq.pz.hy _ rfl ?_); (focus rfl)) | (go_at_call 18; refine (HWU.out _).mono ?_; rintro e u6 ⟨rfl, hb6⟩; replace pq := pq.below hb6; clear hb6) | (with_reducible refine store_vec rfl _ _ rfl BV _ rfl rfl _ pq.hv ?_; intro u7 g7; replace pq := pq.sets g7; clear g7))
      go_meet
      exact ⟨Vw, Ew, orV_1 HE.out, rfl, pq⟩
  case rest =>
  obtain ⟨V1, E1, ho1, rfl, pq⟩ := hcut
  have HO1 := Lib.hid ho1
  clear ho1
  as_aux_lemma =>
  go_upto_if 44 with fail
  go_cut [10] from 18 (fun s10 wx => ∃ (V : Vec) (E : Int), orV (V1, E1) (Vb1, Eb1) = (V, E) ∧ s10 = .int .i64 E ∧ PQ w BX BY BV a b V wx)
  case first =>
    by_cases hE : E1 = 0
    · have q : (E1 != 0) = false := by simp [hE]
      have HE := Lib.hid hE
      clear hE
      as_aux_lemma =>
      go_wp2_with fail
      go_meet
      exact ⟨V1, E1, orV_0 HE.out, rfl, pq⟩
    · have q : (E1 != 0) = true := by simp [hE]
      have HE := Lib.hid hE
      clear hE
      as_aux_lemma =>
      go_wp2_with (first | (with_reducible refine load_vec rfl _ rfl _ rfl _ pq.pz.ha ?_) | (with_reducible refine load_vec rfl _ rfl _ rfl _ pq.pz.hb ?_) | ((with_reducible refine load_w ?_ 22 isAgg_u64 _ rfl _ _ rfl _ _ pq.pz.hx _ rfl ?_); (focus rfl)) | ((with_reducible refine load_w ?_ 22 isAgg_u64 _ rfl _ _ rfl _ _ pq.pz.hy _ rfl ?_); (focus rfl)) | (go_at_call 19; rw [lay_one]; refine (HB1.out _ _ (one_vsl (heap_alloc_new _ _))).mono ?_; rintro e u6 ⟨rfl, hb6⟩; replace pq := (pq.alloc _).below hb6; clear hb6) | (with_reducible refine store_vec rfl _ _ rfl BV _ rfl rfl _ pq.hv ?_; intro u7 g7; replace pq := pq.sets g7; clear g7))
      go_meet
      exact ⟨Vb1, Eb1, orV_1 HE.out, rfl, pq⟩
  case rest =>
  obtain ⟨V2, E2, ho2, rfl, pq⟩ := hcut
  rw [← HO1.out] at ho2
  have HO2 := Lib.hid ho2
  clear ho2
  as_aux_lemma =>
  go_upto_region 11 with fail
  go_cut [65] from 18 (fun s wx => s = .bool false ∧ ∃ V : Vec, PQ w BX BY BV a b V wx)
  case first =>
    by_cases hE : E2 = 0
    · have q : (E2 == 0) = true := by simp [hE]
      have HE : Hid (orV (orV (Vu, Eu) (Vw, Ew)) (Vb1, Eb1) = (V2, 0)) := Lib.hid (by rw [HO2.out, hE])
      clear hE
      as_aux_lemma =>
      go_wp2_with (first | ((with_reducible refine load_vec_w ?_ _ rfl _ rfl _ pq.hv ?_); (focus rfl)) | ((with_reducible refine load_w ?_ 22 isAgg_u64 _ rfl _ _ rfl _ _ pq.pz.hx _ rfl ?_); (focus rfl)) | ((with_reducible refine load_w ?_ 22 isAgg_u64 _ rfl _ _ rfl _ _ pq.pz.hy _ rfl ?_); (focus rfl)) | (go_at_call 20; refine (HH1.out _ _ _ HE.out (hal_lit2 _ _ (heap_alloc_new _ _))).mono ?_; rintro e u6 ⟨rfl, hb6⟩; replace pq := (pq.alloc _).below hb6; clear hb6))
      go_meet
      exact ⟨rfl, _, pq⟩
    · have q : (E2 == 0) = false := by simp [hE]
      clear hE
      as_aux_lemma =>
      go_wp2_with fail
      go_meet
      exact ⟨rfl, _, pq⟩
  case rest =>
  obtain ⟨rfl, V0, pq⟩ := hcut
  as_aux_lemma =>
  go_upto_if 74 with (first | (with_reducible refine load_vec rfl _ rfl _ rfl _ pq.pz.ha ?_) | (with_reducible refine load_vec rfl _ rfl _ rfl _ pq.pz.hb ?_) | ((with_reducible refine load_w ?_ 22 isAgg_u64 _ rfl _ _ rfl _ _ pq.pz.hx _ rfl ?_); (focus rfl)) | ((with_reducible refine load_w ?_ 22 isAgg_u64 _ rfl _ _ rfl _ _ pq.pz.hy _ rfl ?_); (focus rfl)) | (go_at_call 21; refine (HBI.out _).mono ?_; rintro e u6 ⟨rfl, hb6⟩; replace pq := pq.below hb6; clear hb6) | (with_reducible refine store_vec rfl _ _ rfl BV _ rfl rfl _ pq.hv ?_; intro u7 g7; replace pq := pq.sets g7; clear g7))
  go_upto_if 74 with fail
  go_cut [10] from 18 (fun s10 wx => ∃ (V : Vec) (E : Int), orV (Vn, En) (Vwb, Ewb) = (V, E) ∧ s10 = .int .i64 E ∧ PQ w BX BY BV a b V wx)
  case first =>
    by_cases hE : En = 0
    · have q : (En != 0) = false := by simp [hE]
      have HE := Lib.hid hE
      clear hE
      as_aux_lemma =>
      go_wp2_with fail
      go_meet
      exact ⟨Vn, En, orV_0 HE.out, rfl, pq⟩
    · have q : (En != 0) = true := by simp [hE]
      have HE := Lib.hid hE
      clear hE
      as_aux_lemma =>
      go_wp2_with (first | (with_reducible refine load_vec rfl _ rfl _ rfl _ pq.pz.ha ?_) | (with_reducible refine load_vec rfl _ rfl _ rfl _ pq.pz.hb ?_) | ((with_reducible refine load_w ?_ 22 isAgg_u64 _ rfl _ _ rfl _ _ pq.pz.hx _ rfl ?_); (focus rfl)) | ((with_reducible refine load_w ?_ 22 isAgg_u64 _ rfl _ _ rfl _ _ pq.pz.hy _ rfl ?_); (focus rfl)) | (go_at_call 22; refine (HWB.out _).mono ?_; rintro e u6 ⟨rfl, hb6⟩; replace pq := pq.below hb6; clear hb6) | (with_reducible refine store_vec rfl _ _ rfl BV _ rfl rfl _ pq.hv ?_; intro u7 g7; replace pq := pq.sets g7; clear g7))
      go_meet
      exact ⟨Vwb, Ewb, orV_1 HE.out, rfl, pq⟩
  case rest =>
  obtain ⟨V3, E3, ho3, rfl, pq⟩ := hcut
  have HO3 := Lib.hid ho3
  clear ho3
  as_aux_lemma =>
  go_upto_if 83 with fail
  go_cut [10] from 18 (fun s10 wx => ∃ (V : Vec) (E : Int), orV (V3, E3) (Vc, Ec) = (V, E) ∧ s10 = .int .i64 E ∧ PQ w BX BY BV a b V wx)
  case first =>
    by_cases hE : E3 = 0
    · have q : (E3 != 0) = false := by simp [hE]
      have HE := Lib.hid hE
      clear hE
      as_aux_lemma =>
      go_wp2_with fail
      go_meet
      exact ⟨V3, E3, orV_0 HE.out, rfl, pq⟩
    · have q : (E3 != 0) = true := by simp [hE]
      have HE := Lib.hid hE
      clear hE
      as_aux_lemma =>
      go_wp2_with (first | (with_reducible refine load_vec rfl _ rfl _ rfl _ pq.pz.ha ?_) | (with_reducible refine load_vec rfl _ rfl _ rfl _ pq.pz.hb ?_) | ((with_reducible refine load_w ?_ 22 isAgg_u64 _ rfl _ _ rfl _ _ pq.pz.hx _ rfl ?_); (focus rfl)) | ((with_reducible refine load_w ?_ 22 isAgg_u64 _ rfl _ _ rfl _ _ pq.pz.hy _ rfl ?_); (focus rfl)) | (go_at_call 23; refine (HCM.out _).mono ?_; rintro e u6 ⟨rfl, hb6⟩; replace pq := pq.below hb6; clear hb6) | (with_reducible refine store_vec rfl _ _ rfl BV _ rfl rfl _ pq.hv ?_; intro u7 g7; replace pq := pq.sets g7; clear g7))
      go_meet
      exact ⟨Vc, Ec, orV_1 HE.out, rfl, pq⟩
  case rest =>
  obtain ⟨V4, E4, ho4, rfl, pq⟩ := hcut
  rw [← HO3.out] at ho4
  have HO4 := Lib.hid ho4
  clear ho4
  as_aux_lemma =>
  go_upto_if 92 with fail
  go_cut [10] from 18 (fun s10 wx => ∃ (V : Vec) (E : Int), orV (V4, E4) (Vb2, Eb2) = (V, E) ∧ s10 = .int .i64 E ∧ PQ w BX BY BV a b V wx)
  case first =>
    by_cases hE : E4 = 0
    · have q : (E4 != 0) = false := by simp [hE]
      have HE := Lib.hid hE
      clear hE
      as_aux_lemma =>
      go_wp2_with fail
      go_meet
      exact ⟨V4, E4, orV_0 HE.out, rfl, pq⟩
    · have q : (E4 != 0) = true := by simp [hE]
      have HE := Lib.hid hE
      clear hE
      as_aux_lemma =>
      go_wp2_with (first | (with_reducible refine load_vec rfl _ rfl _ rfl _ pq.pz.ha ?_) | (with_reducible refine load_vec rfl _ rfl _ rfl _ pq.pz.hb ?_) | ((with_reducible refine load_w ?_ 22 isAgg_u64 _ rfl _ _ rfl _ _ pq.pz.hx _ rfl ?_); (focus rfl)) | ((with_reducible refine load_w ?_ 22 isAgg_u64 _ rfl _ _ rfl _ _ pq.pz.hy _ rfl ?_); (focus rfl)) | ((with_reducible refine build2 rfl _ _ rfl _ _ rfl rfl ?_); intro W2 hW2; replace pq := pq.below hW2.bel; have hvs := bd2_vsl hW2; clear hW2) | (go_at_call 19; refine (HB2.out _ _ hvs).mono ?_; rintro e u6 ⟨rfl, hb6⟩; replace pq := pq.below hb6; clear hb6 hvs) | (with_reducible refine store_vec rfl _ _ rfl BV _ rfl rfl _ pq.hv ?_; intro u7 g7; replace pq := pq.sets g7; clear g7))
      go_meet
      exact ⟨Vb2, Eb2, orV_1 HE.out, rfl, pq⟩
  case rest =>
  obtain ⟨V5, E5, ho5, rfl, pq⟩ := hcut
  rw [← HO4.out] at ho5
  have HO5 := Lib.hid ho5
  clear ho5
  as_aux_lemma =>
  go_upto_region 20 with fail
  go_cut [118] from 18 (fun s wx => s = .bool false ∧ ∃ V : Vec, PQ w BX BY BV a b V wx)
  case first =>
    by_cases hE : E5 = 0
    · have q : (E5 == 0) = true := by simp [hE]
      have HE : Hid (orV (orV (orV (Vn, En) (Vwb, Ewb)) (Vc, Ec)) (Vb2, Eb2) = (V5, 0)) := Lib.hid (by rw [HO5.out, hE])
      clear hE
      as_aux_lemma =>
      go_wp2_with (first | ((with_reducible refine load_vec_w ?_ _ rfl _ rfl _ pq.hv ?_); (focus rfl)) | ((with_reducible refine load_w ?_ 22 isAgg_u64 _ rfl _ _ rfl _ _ pq.pz.hx _ rfl ?_); (focus rfl)) | ((with_reducible refine load_w ?_ 22 isAgg_u64 _ rfl _ _ rfl _ _ pq.pz.hy _ rfl ?_); (focus rfl)) | (go_at_call 20; refine (HH2.out _ _ _ HE.out (hal_lit4 _ _ _ _ (heap_alloc_new _ _))).mono ?_; rintro e u6 ⟨rfl, hb6⟩; replace pq := (pq.alloc _).below hb6; clear hb6))
      go_meet
      exact ⟨rfl, _, pq⟩
    · have q : (E5 == 0) = false := by simp [hE]
      clear hE
      as_aux_lemma =>
      go_wp2_with fail
      go_meet
      exact ⟨rfl, _, pq⟩
  case rest =>
  obtain ⟨rfl, V0, pq⟩ := hcut
  as_aux_lemma =>
  go_upto_region 23 with (first | (with_reducible refine load_vec rfl _ rfl _ rfl _ pq.pz.ha ?_) | (with_reducible refine load_vec rfl _ rfl _ rfl _ pq.pz.hb ?_) | ((with_reducible refine load_w ?_ 22 isAgg_u64 _ rfl _ _ rfl _ _ pq.pz.hx _ rfl ?_); (focus rfl)) | ((with_reducible refine load_w ?_ 22 isAgg_u64 _ rfl _ _ rfl _ _ pq.pz.hy _ rfl ?_); (focus rfl)) | (go_at_call 24; refine (HSH.out _).mono ?_; rintro e u6 ⟨rfl, hb6⟩; replace pq := pq.below hb6; clear hb6) | (with_reducible refine store_vec rfl _ _ rfl BV _ rfl rfl _ pq.hv ?_; intro u7 g7; replace pq := pq.sets g7; clear g7))
  go_upto_region 23 with fail
  go_cut [143] from 18 (fun s wx => s = .bool false ∧ ∃ V : Vec, PQ w BX BY BV a b V wx)
  case first =>
    by_cases hE : Es = 0
    · have q : (Es == 0) = true := by simp [hE]
      have HE : Hid ((Vs, Es) = (Vs, 0)) := Lib.hid (by rw [hE])
      clear hE
      as_aux_lemma =>
      go_wp2_with (first | ((with_reducible refine load_vec_w ?_ _ rfl _ rfl _ pq.hv ?_); (focus rfl)) | ((with_reducible refine load_w ?_ 22 isAgg_u64 _ rfl _ _ rfl _ _ pq.pz.hx _ rfl ?_); (focus rfl)) | ((with_reducible refine load_w ?_ 22 isAgg_u64 _ rfl _ _ rfl _ _ pq.pz.hy _ rfl ?_); (focus rfl)) | (go_at_call 20; refine (HH3.out _ _ _ HE.out (hal_lit3 _ _ _ (heap_alloc_new _ _))).mono ?_; rintro e u6 ⟨rfl, hb6⟩; replace pq := (pq.alloc _).below hb6; clear hb6))
      go_meet
      exact ⟨rfl, _, pq⟩
    · have q : (Es == 0) = false := by simp [hE]
      clear hE
      as_aux_lemma =>
      go_wp2_with fail
      go_meet
      exact ⟨rfl, _, pq⟩
  case rest =>
  obtain ⟨rfl, V0, pq⟩ := hcut
  as_aux_lemma =>
  go_upto_region 26 with (first | (with_reducible refine load_vec rfl _ rfl _ rfl _ pq.pz.ha ?_) | (with_reducible refine load_vec rfl _ rfl _ rfl _ pq.pz.hb ?_) | ((with_reducible refine load_w ?_ 22 isAgg_u64 _ rfl _ _ rfl _ _ pq.pz.hx _ rfl ?_); (focus rfl)) | ((with_reducible refine load_w ?_ 22 isAgg_u64 _ rfl _ _ rfl _ _ pq.pz.hy _ rfl ?_); (focus rfl)) | (go_at_call 25; refine (HSP.out _).mono ?_; rintro e u6 ⟨rfl, hb6⟩; replace pq := pq.below hb6; clear hb6) | (with_reducible refine store_vec rfl _ _ rfl BV _ rfl rfl _ pq.hv ?_; intro u7 g7; replace pq := pq.sets g7; clear g7))
  go_upto_region 26 with fail
  go_cut [162] from 18 (fun s wx => s = .bool false ∧ ∃ V : Vec, PQ w BX BY BV a b V wx)
  case first =>
    by_cases hE : Esp = 0
    · have q : (Esp == 0) = true := by simp [hE]
      have HE : Hid ((Vsp, Esp) = (Vsp, 0)) := Lib.hid (by rw [hE])
      clear hE
      as_aux_lemma =>
      go_wp2_with (first | ((with_reducible refine load_vec_w ?_ _ rfl _ rfl _ pq.hv ?_); (focus rfl)) | ((with_reducible refine load_w ?_ 22 isAgg_u64 _ rfl _ _ rfl _ _ pq.pz.hx _ rfl ?_); (focus rfl)) | ((with_reducible refine load_w ?_ 22 isAgg_u64 _ rfl _ _ rfl _ _ pq.pz.hy _ rfl ?_); (focus rfl)) | (go_at_call 20; refine (HH4.out _ _ _ HE.out (hal_lit1 _ (heap_alloc_new _ _))).mono ?_; rintro e u6 ⟨rfl, hb6⟩; replace pq := (pq.alloc _).below hb6; clear hb6))
      go_meet
      exact ⟨rfl, _, pq⟩
    · have q : (Esp == 0) = false := by simp [hE]
      clear hE
      as_aux_lemma =>
      go_wp2_with fail
      go_meet
      exact ⟨rfl, _, pq⟩
  case rest =>
  obtain ⟨rfl, V0, pq⟩ := hcut
  as_aux_lemma =>
  go_upto_region 29 with (first | (with_reducible refine load_vec rfl _ rfl _ rfl _ pq.pz.ha ?_) | (with_reducible refine load_vec rfl _ rfl _ rfl _ pq.pz.hb ?_) | ((with_reducible refine load_w ?_ 22 isAgg_u64 _ rfl _ _ rfl _ _ pq.pz.hx _ rfl ?_); (focus rfl)) | ((with_reducible refine load_w ?_ 22 isAgg_u64 _ rfl _ _ rfl _ _ pq.pz.hy _ rfl ?_); (focus rfl)) | (go_at_call 26; refine (HRE.out _).mono ?_; rintro e u6 ⟨rfl, hb6⟩; replace pq := pq.below hb6; clear hb6) | (with_reducible refine store_vec rfl _ _ rfl BV _ rfl rfl _ pq.hv ?_; intro u7 g7; replace pq := pq.sets g7; clear g7))
  go_upto_region 29 with fail
  go_cut [186] from 18 (fun s wx => s = .bool false ∧ ∃ V : Vec, PQ w BX BY BV a b V wx)
  case first =>
    by_cases hE : Er = 0
    · have q : (Er == 0) = true := by simp [hE]
      have HE : Hid ((Vr, Er) = (Vr, 0)) := Lib.hid (by rw [hE])
      clear hE
      as_aux_lemma =>
      go_wp2_with (first | ((with_reducible refine load_vec_w ?_ _ rfl _ rfl _ pq.hv ?_); (focus rfl)) | ((with_reducible refine load_w ?_ 22 isAgg_u64 _ rfl _ _ rfl _ _ pq.pz.hx _ rfl ?_); (focus rfl)) | ((with_reducible refine load_w ?_ 22 isAgg_u64 _ rfl _ _ rfl _ _ pq.pz.hy _ rfl ?_); (focus rfl)) | (go_at_call 20; refine (HH5.out _ _ _ HE.out (hal_lit3 _ _ _ (heap_alloc_new _ _))).mono ?_; rintro e u6 ⟨rfl, hb6⟩; replace pq := (pq.alloc _).below hb6; clear hb6))
      go_meet
      exact ⟨rfl, _, pq⟩
    · have q : (Er == 0) = false := by simp [hE]
      clear hE
      as_aux_lemma =>
      go_wp2_with fail
      go_meet
      exact ⟨rfl, _, pq⟩
  case rest =>
  obtain ⟨rfl, V0, pq⟩ := hcut
  as_aux_lemma =>
  go_upto_if 200 with (first | (with_reducible refine load_vec rfl _ rfl _ rfl _ pq.pz.ha ?_) | (with_reducible refine load_vec rfl _ rfl _ rfl _ pq.pz.hb ?_) | ((with_reducible refine load_w ?_ 22 isAgg_u64 _ rfl _ _ rfl _ _ pq.pz.hx _ rfl ?_); (focus rfl)) | ((with_reducible refine load_w ?_ 22 isAgg_u64 _ rfl _ _ rfl _ _ pq.pz.hy _ rfl ?_); (focus rfl)) | (go_at_call 27; refine (HEX.out _).mono ?_; rintro e u6 ⟨rfl, hb6⟩; replace pq := pq.below hb6; clear hb6) | (go_at_call 28; refine (HTE.out _).mono ?_; rintro e u6 ⟨rfl, hb6⟩; replace pq := pq.below hb6; clear hb6))
  go_cut [11] from 18 (fun s wx => ∃ N : Nat, Hid (N = if Et = 0 then mt else nx) ∧ s = .int .u64 (N : Nat) ∧ ∃ V : Vec, PQ w BX BY BV a b V wx)
  case first =>
    by_cases hE : Et = 0
    · have q : (Et == 0) = true := by simp [hE]
      have HE := Lib.hid hE
      clear hE
      as_aux_lemma =>
      go_wp2_with fail
      go_meet
      exact ⟨mt, Lib.hid (by rw [if_pos HE.out]), rfl, _, pq⟩
    · have q : (Et == 0) = false := by simp [hE]
      have HE := Lib.hid hE
      clear hE
      as_aux_lemma =>
      go_wp2_with fail
      go_meet
      exact ⟨nx, Lib.hid (by rw [if_neg HE.out]), rfl, _, pq⟩
  case rest =>
  obtain ⟨N, HN, rfl, V0, pq⟩ := hcut
  as_aux_lemma =>
  go_upto_region 36 with (first | (with_reducible refine load_vec rfl _ rfl _ rfl _ pq.pz.ha ?_) | (with_reducible refine load_vec rfl _ rfl _ rfl _ pq.pz.hb ?_) | ((with_reducible refine load_w ?_ 22 isAgg_u64 _ rfl _ _ rfl _ _ pq.pz.hx _ rfl ?_); (focus rfl)) | ((with_reducible refine load_w ?_ 22 isAgg_u64 _ rfl _ _ rfl _ _ pq.pz.hy _ rfl ?_); (focus rfl)) | (go_at_call 10; refine (HD1.out _ _ (hal_lit2 _ _ (heap_alloc_new _ _))).mono ?_; rintro e u6 ⟨⟨rv, rfl, hrv⟩, hb6⟩; replace pq := (pq.alloc _).below hb6; clear hb6))
  go_cut [230] from 18 (fun s wx => s = .bool false ∧ ∃ V : Vec, PQ w BX BY BV a b V wx)
  case first =>
    by_cases hE : Ex = 0
    · obtain ⟨hg, hl⟩ := HEG.out (.inl hE)
      have q1 : (Ex == 0) = true := by simp [hE]
      have q3 : (Eg != 0) = false := by simp [hg]
      rw [hl, ← HN.out] at hrv
      replace hrv : LView .u64 u6 rv [(N : Int)] := hrv
      clear hE hg hl
      as_aux_lemma =>
      go_wp2_with (first | (go_at_call 12; refine (same_tt _ _ [(N : Int)] _ (hrv.below ((Below.refl _ _).alloc (Nat.le_refl _) _)) (lv_lit [(N : Int)] (heap_alloc_new _ _)) (by simp)).mono ?_; rintro e u7 ⟨rfl, hb7⟩; replace pq := (pq.alloc _).below hb7; clear hb7))
      go_meet
      exact ⟨rfl, _, pq⟩
    · have q1 : (Ex == 0) = false := by simp [hE]
      clear hE
      by_cases hT : Et = 0
      · obtain ⟨hg, hl⟩ := HEG.out (.inr hT)
        have q2 : (Et == 0) = true := by simp [hT]
        have q3 : (Eg != 0) = false := by simp [hg]
        rw [hl, ← HN.out] at hrv
        replace hrv : LView .u64 u6 rv [(N : Int)] := hrv
        clear hT hg hl
        as_aux_lemma =>
        go_wp2_with (first | (go_at_call 12; refine (same_tt _ _ [(N : Int)] _ (hrv.below ((Below.refl _ _).alloc (Nat.le_refl _) _)) (lv_lit [(N : Int)] (heap_alloc_new _ _)) (by simp)).mono ?_; rintro e u7 ⟨rfl, hb7⟩; replace pq := (pq.alloc _).below hb7; clear hb7))
        go_meet
        exact ⟨rfl, _, pq⟩
      · have q2 : (Et == 0) = false := by simp [hT]
        clear hT
        as_aux_lemma =>
        go_wp2_with fail
        go_meet
        exact ⟨rfl, _, pq⟩
  case rest =>
  clear hrv
  obtain ⟨rfl, V1, pq⟩ := hcut
  have pz := pq.pz
  clear pq
  as_aux_lemma =>
  have hee : (Esf != Esf) = false := by simp
  go_upto_region 39 with (first | (with_reducible refine load_vec rfl _ rfl _ rfl _ pz.ha ?_) | (with_reducible refine load_vec rfl _ rfl _ rfl _ pz.hb ?_) | ((with_reducible refine load_w ?_ 22 isAgg_u64 _ rfl _ _ rfl _ _ pz.hx _ rfl ?_); (focus rfl)) | ((with_reducible refine load_w ?_ 22 isAgg_u64 _ rfl _ _ rfl _ _ pz.hy _ rfl ?_); (focus rfl)) | (go_at_call 29; refine (HSF.out _).mono ?_; rintro e u6 ⟨rfl, hb6⟩; replace pz := pz.below hb6; clear hb6) | (with_reducible refine store_vec rfl _ _ rfl u6.heap.size _ rfl rfl 0 (heap_new_zero _) ?_; intro u7 g7; have pq := PQ.start pz g7; clear g7 pz))
  generalize u6.heap.size = BW at pq ⊢
  go_upto_region 42 with (first | ((with_reducible refine load_w ?_ 22 isAgg_u64 _ rfl _ _ rfl _ _ pq.pz.hx _ rfl ?_); (focus rfl)) | ((with_reducible refine load_w ?_ 22 isAgg_u64 _ rfl _ _ rfl _ _ pq.pz.hy _ rfl ?_); (focus rfl)) | (go_at_call 10; refine (HD2.out _ _ (hal_lit4 _ _ _ _ (heap_alloc_new _ _))).mono ?_; rintro e u8 ⟨⟨rv, rfl, hrv⟩, hb8⟩; replace pq := (pq.alloc _).below hb8; clear hb8))
  go_upto_region 43 with (first | (with_reducible refine load_vec rfl _ rfl _ rfl _ pq.hv ?_) | (go_at_call 16; (with_reducible refine (split_k Vsf _).mono ?_); rintro e u9 ⟨rfl, hb9⟩; replace pq := pq.below hb9; replace hrv := hrv.below hb9; clear hb9))
  obtain ⟨W2, hW2⟩ : ∃ W, W = u9.alloc (.cells #[.int .u64 (getN Vsf 64 0), .int .u64 (getN Vsf 64 1)] 47) := ⟨_, rfl⟩
  have sz : SZ w BX BY a b u9.heap.size Vsf rv (lsf.map Nat.cast) none W2 := hW2 ▸ ⟨(pq.alloc _).pz, heap_alloc_new _ _, hrv.below ((Below.refl _ _).alloc (Nat.le_refl _) _), fun b0 xs e => by cases e⟩
  rw [← hW2]
  clear hW2 hrv pq
  generalize u9.heap.size = BZ at sz ⊢
  by_cases hE : Esf = 0
  · have q : (Esf != 0) = false := by simp [hE]
    have sz1 : SZ w BX BY a b BZ Vsf rv [((getN Vsf 64 0 : Nat) : Int), ((getN Vsf 64 1 : Nat) : Int)] none W2 := by
      have h := sz
      rw [HLS.out hE] at h
      exact h
    clear hE sz
    as_aux_lemma =>
    refine region_plan (SZ w BX BY a b BZ Vsf rv [((getN Vsf 64 0 : Nat) : Int), ((getN Vsf 64 1 : Nat) : Int)]) (stepZ [((getN Vsf 64 0 : Nat) : Int), ((getN Vsf 64 1 : Nat) : Int)] [((getN a 64 0 : Nat) : Int), ((getN a 64 1 : Nat) : Int), ((getN b 64 0 : Nat) : Int), ((getN b 64 1 : Nat) : Int)]) valZ none 27 [8, 9, 24, 25] [26] [([0, 1, 2, 3, 4, 5, 6, 7], 8), ([], 9), ([10, 11, 12, 13, 14, 15, 16, 17, 18, 19, 20, 21, 22, 23], 24), ([], 25)] (by kernel_rfl) (by kernel_rfl) ⟨sz1.pz.drew, sz1.hz, sz1.hr.below (Below.refl _ _).drew, fun b0 xs e => by cases e⟩ ?_
    simp only [planE, opsAt, List.getElem?_cons_zero, List.getElem?_cons_succ]
    repeat (first | (refine wpDA_hereg rfl (fun D u hS => run_lv _ rfl _ rfl _ (hS.pz.ha)) ?_; simp only [Act.put, List.setIfInBounds_toArray, List.set_cons_zero, List.set_cons_succ]) | (refine wpDA_hereg rfl (fun D u hS => run_lv _ rfl _ rfl _ (hS.pz.hb)) ?_; simp only [Act.put, List.setIfInBounds_toArray, List.set_cons_zero, List.set_cons_succ]) | (refine wpDA_hereg rfl (fun D u hS => run_ldc 22 isAgg_u64 _ rfl _ 0 rfl _ (fcell (hS.hz) 0 rfl)) ?_; simp only [Act.put, List.setIfInBounds_toArray, List.set_cons_zero, List.set_cons_succ]) | (refine wpDA_hereg rfl (fun D u hS => run_ldc 22 isAgg_u64 _ rfl _ 1 rfl _ (fcell (hS.hz) 1 rfl)) ?_; simp only [Act.put, List.setIfInBounds_toArray, List.set_cons_zero, List.set_cons_succ]) | (refine wpDA_hereg rfl (fun D u hS => run_ldc 22 isAgg_u64 _ rfl _ 0 rfl _ (fcell (hS.pz.hx) 0 rfl)) ?_; simp only [Act.put, List.setIfInBounds_toArray, List.set_cons_zero, List.set_cons_succ]) | (refine wpDA_hereg rfl (fun D u hS => run_ldc 22 isAgg_u64 _ rfl _ 1 rfl _ (fcell (hS.pz.hx) 1 rfl)) ?_; simp only [Act.put, List.setIfInBounds_toArray, List.set_cons_zero, List.set_cons_succ]) | (refine wpDA_hereg rfl (fun D u hS => run_ldc 22 isAgg_u64 _ rfl _ 0 rfl _ (fcell (hS.pz.hy) 0 rfl)) ?_; simp only [Act.put, List.setIfInBounds_toArray, List.set_cons_zero, List.set_cons_succ]) | (refine wpDA_hereg rfl (fun D u hS => run_ldc 22 isAgg_u64 _ rfl _ 1 rfl _ (fcell (hS.pz.hy) 1 rfl)) ?_; simp only [Act.put, List.setIfInBounds_toArray, List.set_cons_zero, List.set_cons_succ]) | (refine wpDA_callg (v := .agg (cells Vsz)) rfl 30 ?_ (fun u => ?_) (fun D u hS => ?_) ?_; rotate_left 1; (focus (go_simp; (try with_reducible rfl); done)); (focus (refine (HSZ.out _).mono ?_; rintro e u2 ⟨rfl, hb⟩; exact ⟨rfl, hS.below hb⟩)); simp only [Act.put, List.setIfInBounds_toArray, List.set_cons_zero, List.set_cons_succ]) | (refine wpDA_pure (v := ?_) rfl (fun u => ?_) ?_; rotate_left; (focus (go_simp; (try with_reducible rfl); done)); simp only [Act.put, List.setIfInBounds_toArray, List.set_cons_zero, List.set_cons_succ]) | (refine wpDA_pureg (v := ?_) rfl (fun u => ?_) ?_; rotate_left; (focus (go_simp; (try with_reducible rfl); done)); simp only [Act.put, List.setIfInBounds_toArray, List.set_cons_zero, List.set_cons_succ]) | (refine wpDA_skip rfl ?_; simp only [Act.put, List.setIfInBounds_toArray, List.set_cons_zero, List.set_cons_succ]))
    refine wpDA_nil ⟨_, rfl, ⟨rfl, fun u hS => ?_⟩, ?_⟩
    · exact ⟨_, .inl ⟨some (u.heap.size, [((getN Vsf 64 0 : Nat) : Int), ((getN Vsf 64 1 : Nat) : Int)]), .inl ⟨rfl, _, rfl⟩, hS.made [((getN Vsf 64 0 : Nat) : Int), ((getN Vsf 64 1 : Nat) : Int)] _ rfl, .inl (op_bu2 _ _ rfl _ _ rfl rfl)⟩⟩
    intro D' hst
    obtain ⟨b8, rfl⟩ := stepZ_8 hst
    clear hst
    simp only [Act.put, List.setIfInBounds_toArray, List.set_cons_zero, List.set_cons_succ]
    (try simp only [valZ_8, valZ_9, valZ_24, valZ_25])
    (try simp only [planE, opsAt, List.getElem?_cons_zero, List.getElem?_cons_succ])
    refine wpDA_nil ⟨_, rfl, ⟨rfl, fun u hS => ⟨u, .inr ⟨12, ?_, ?_, ?_⟩⟩⟩, ?_⟩
    rotate_left 1
    focus (go_simp; (try with_reducible rfl); done)
    · refine (same_tt _ _ [((getN Vsf 64 0 : Nat) : Int), ((getN Vsf 64 1 : Nat) : Int)] u hS.hr (hS.hd _ _ rfl) (by simp)).mono ?_
      rintro e u2 ⟨rfl, hb⟩
      exact ⟨_, .inr (.inr ⟨by decide, rfl⟩), hS.below hb, rfl⟩
    intro D' hst
    obtain rfl := stepZ_9 hst
    clear hst
    simp only [Act.put, List.setIfInBounds_toArray, List.set_cons_zero, List.set_cons_succ]
    (try simp only [valZ_8, valZ_9, valZ_24, valZ_25])
    (try simp only [planE, opsAt, List.getElem?_cons_zero, List.getElem?_cons_succ])
    repeat (first | (refine wpDA_hereg rfl (fun D u hS => run_lv _ rfl _ rfl _ (hS.pz.ha)) ?_; simp only [Act.put, List.setIfInBounds_toArray, List.set_cons_zero, List.set_cons_succ]) | (refine wpDA_hereg rfl (fun D u hS => run_lv _ rfl _ rfl _ (hS.pz.hb)) ?_; simp only [Act.put, List.setIfInBounds_toArray, List.set_cons_zero, List.set_cons_succ]) | (refine wpDA_hereg rfl (fun D u hS => run_ldc 22 isAgg_u64 _ rfl _ 0 rfl _ (fcell (hS.hz) 0 rfl)) ?_; simp only [Act.put, List.setIfInBounds_toArray, List.set_cons_zero, List.set_cons_succ]) | (refine wpDA_hereg rfl (fun D u hS => run_ldc 22 isAgg_u64 _ rfl _ 1 rfl _ (fcell (hS.hz) 1 rfl)) ?_; simp only [Act.put, List.setIfInBounds_toArray, List.set_cons_zero, List.set_cons_succ]) | (refine wpDA_hereg rfl (fun D u hS => run_ldc 22 isAgg_u64 _ rfl _ 0 rfl _ (fcell (hS.pz.hx) 0 rfl)) ?_; simp only [Act.put, List.setIfInBounds_toArray, List.set_cons_zero, List.set_cons_succ]) | (refine wpDA_hereg rfl (fun D u hS => run_ldc 22 isAgg_u64 _ rfl _ 1 rfl _ (fcell (hS.pz.hx) 1 rfl)) ?_; simp only [Act.put, List.setIfInBounds_toArray, List.set_cons_zero, List.set_cons_succ]) | (refine wpDA_hereg rfl (fun D u hS => run_ldc 22 isAgg_u64 _ rfl _ 0 rfl _ (fcell (hS.pz.hy) 0 rfl)) ?_; simp only [Act.put, List.setIfInBounds_toArray, List.set_cons_zero, List.set_cons_succ]) | (refine wpDA_hereg rfl (fun D u hS => run_ldc 22 isAgg_u64 _ rfl _ 1 rfl _ (fcell (hS.pz.hy) 1 rfl)) ?_; simp only [Act.put, List.setIfInBounds_toArray, List.set_cons_zero, List.set_cons_succ]) | (refine wpDA_callg (v := .agg (cells Vsz)) rfl 30 ?_ (fun u => ?_) (fun D u hS => ?_) ?_; rotate_left 1; (focus (go_simp; (try with_reducible rfl); done)); (focus (refine (HSZ.out _).mono ?_; rintro e u2 ⟨rfl, hb⟩; exact ⟨rfl, hS.below hb⟩)); simp only [Act.put, List.setIfInBounds_toArray, List.set_cons_zero, List.set_cons_succ]) | (refine wpDA_pure (v := ?_) rfl (fun u => ?_) ?_; rotate_left; (focus (go_simp; (try with_reducible rfl); done)); simp only [Act.put, List.setIfInBounds_toArray, List.set_cons_zero, List.set_cons_succ]) | (refine wpDA_pureg (v := ?_) rfl (fun u => ?_) ?_; rotate_left; (focus (go_simp; (try with_reducible rfl); done)); simp only [Act.put, List.setIfInBounds_toArray, List.set_cons_zero, List.set_cons_succ]) | (refine wpDA_skip rfl ?_; simp only [Act.put, List.setIfInBounds_toArray, List.set_cons_zero, List.set_cons_succ]))
    refine wpDA_nil ⟨_, rfl, ⟨rfl, fun u hS => ?_⟩, ?_⟩
    · exact ⟨_, .inl ⟨some (u.heap.size, [((getN a 64 0 : Nat) : Int), ((getN a 64 1 : Nat) : Int), ((getN b 64 0 : Nat) : Int), ((getN b 64 1 : Nat) : Int)]), .inr (.inl ⟨rfl, _, rfl⟩), hS.made [((getN a 64 0 : Nat) : Int), ((getN a 64 1 : Nat) : Int), ((getN b 64 0 : Nat) : Int), ((getN b 64 1 : Nat) : Int)] _ rfl, .inl (op_bu4 _ _ _ _ rfl _ _ _ _ rfl rfl rfl rfl)⟩⟩
    intro D' hst
    obtain ⟨b24, rfl⟩ := stepZ_24 hst
    clear hst
    simp only [Act.put, List.setIfInBounds_toArray, List.set_cons_zero, List.set_cons_succ]
    (try simp only [valZ_8, valZ_9, valZ_24, valZ_25])
    (try simp only [planE, opsAt, List.getElem?_cons_zero, List.getElem?_cons_succ])
    refine wpDA_nil ⟨_, rfl, ⟨rfl, fun u hS => ⟨u, .inr ⟨20, ?_, ?_, ?_⟩⟩⟩, ?_⟩
    rotate_left 1
    focus (go_simp; (try with_reducible rfl); done)
    · refine (HH6.out u _ Vsz rfl (hS.hd _ _ rfl)).mono ?_
      rintro e u2 ⟨rfl, hb⟩
      exact ⟨_, .inr (.inr ⟨by decide, rfl⟩), hS.below hb, rfl⟩
    intro D' hst
    obtain rfl := stepZ_25 hst
    clear hst
    simp only [Act.put, List.setIfInBounds_toArray, List.set_cons_zero, List.set_cons_succ]
    (try simp only [valZ_8, valZ_9, valZ_24, valZ_25])
    (try simp only [planE, opsAt, List.getElem?_cons_zero, List.getElem?_cons_succ])
    repeat (first | (refine wpDA_hereg rfl (fun D u hS => run_lv _ rfl _ rfl _ (hS.pz.ha)) ?_; simp only [Act.put, List.setIfInBounds_toArray, List.set_cons_zero, List.set_cons_succ]) | (refine wpDA_hereg rfl (fun D u hS => run_lv _ rfl _ rfl _ (hS.pz.hb)) ?_; simp only [Act.put, List.setIfInBounds_toArray, List.set_cons_zero, List.set_cons_succ]) | (refine wpDA_hereg rfl (fun D u hS => run_ldc 22 isAgg_u64 _ rfl _ 0 rfl _ (fcell (hS.hz) 0 rfl)) ?_; simp only [Act.put, List.setIfInBounds_toArray, List.set_cons_zero, List.set_cons_succ]) | (refine wpDA_hereg rfl (fun D u hS => run_ldc 22 isAgg_u64 _ rfl _ 1 rfl _ (fcell (hS.hz) 1 rfl)) ?_; simp only [Act.put, List.setIfInBounds_toArray, List.set_cons_zero, List.set_cons_succ]) | (refine wpDA_hereg rfl (fun D u hS => run_ldc 22 isAgg_u64 _ rfl _ 0 rfl _ (fcell (hS.pz.hx) 0 rfl)) ?_; simp only [Act.put, List.setIfInBounds_toArray, List.set_cons_zero, List.set_cons_succ]) | (refine wpDA_hereg rfl (fun D u hS => run_ldc 22 isAgg_u64 _ rfl _ 1 rfl _ (fcell (hS.pz.hx) 1 rfl)) ?_; simp only [Act.put, List.setIfInBounds_toArray, List.set_cons_zero, List.set_cons_succ]) | (refine wpDA_hereg rfl (fun D u hS => run_ldc 22 isAgg_u64 _ rfl _ 0 rfl _ (fcell (hS.pz.hy) 0 rfl)) ?_; simp only [Act.put, List.setIfInBounds_toArray, List.set_cons_zero, List.set_cons_succ]) | (refine wpDA_hereg rfl (fun D u hS => run_ldc 22 isAgg_u64 _ rfl _ 1 rfl _ (fcell (hS.pz.hy) 1 rfl)) ?_; simp only [Act.put, List.setIfInBounds_toArray, List.set_cons_zero, List.set_cons_succ]) | (refine wpDA_callg (v := .agg (cells Vsz)) rfl 30 ?_ (fun u => ?_) (fun D u hS => ?_) ?_; rotate_left 1; (focus (go_simp; (try with_reducible rfl); done)); (focus (refine (HSZ.out _).mono ?_; rintro e u2 ⟨rfl, hb⟩; exact ⟨rfl, hS.below hb⟩)); simp only [Act.put, List.setIfInBounds_toArray, List.set_cons_zero, List.set_cons_succ]) | (refine wpDA_pure (v := ?_) rfl (fun u => ?_) ?_; rotate_left; (focus (go_simp; (try with_reducible rfl); done)); simp only [Act.put, List.setIfInBounds_toArray, List.set_cons_zero, List.set_cons_succ]) | (refine wpDA_pureg (v := ?_) rfl (fun u => ?_) ?_; rotate_left; (focus (go_simp; (try with_reducible rfl); done)); simp only [Act.put, List.setIfInBounds_toArray, List.set_cons_zero, List.set_cons_succ]) | (refine wpDA_skip rfl ?_; simp only [Act.put, List.setIfInBounds_toArray, List.set_cons_zero, List.set_cons_succ]))
    refine wpDA_nil (fun u5 hS5 => ?_)
    have hfin := hS5.pz.bel
    clear hS5
    go_wp2_with fail
    go_ret
    exact ⟨rfl, hfin⟩
  · have q : (Esf != 0) = true := by simp [hE]
    clear hE
    as_aux_lemma =>
    refine region_plan (SZ w BX BY a b BZ Vsf rv (lsf.map Nat.cast)) (stepZ [((getN Vsf 64 0 : Nat) : Int), ((getN Vsf 64 1 : Nat) : Int)] [((getN a 64 0 : Nat) : Int), ((getN a 64 1 : Nat) : Int), ((getN b 64 0 : Nat) : Int), ((getN b 64 1 : Nat) : Int)]) valZ none 27 [24, 25] [26] [([0, 1, 2, 3, 4, 5, 6, 7, 8, 9, 10, 11, 12, 13, 14, 15, 16, 17, 18, 19, 20, 21, 22, 23], 24), ([], 25)] (by kernel_rfl) (by kernel_rfl) ⟨sz.pz.drew, sz.hz, sz.hr.below (Below.refl _ _).drew, fun b0 xs e => by cases e⟩ ?_
    simp only [planE, opsAt, List.getElem?_cons_zero, List.getElem?_cons_succ]
    repeat (first | (refine wpDA_hereg rfl (fun D u hS => run_lv _ rfl _ rfl _ (hS.pz.ha)) ?_; simp only [Act.put, List.setIfInBounds_toArray, List.set_cons_zero, List.set_cons_succ]) | (refine wpDA_hereg rfl (fun D u hS => run_lv _ rfl _ rfl _ (hS.pz.hb)) ?_; simp only [Act.put, List.setIfInBounds_toArray, List.set_cons_zero, List.set_cons_succ]) | (refine wpDA_hereg rfl (fun D u hS => run_ldc 22 isAgg_u64 _ rfl _ 0 rfl _ (fcell (hS.hz) 0 rfl)) ?_; simp only [Act.put, List.setIfInBounds_toArray, List.set_cons_zero, List.set_cons_succ]) | (refine wpDA_hereg rfl (fun D u hS => run_ldc 22 isAgg_u64 _ rfl _ 1 rfl _ (fcell (hS.hz) 1 rfl)) ?_; simp only [Act.put, List.setIfInBounds_toArray, List.set_cons_zero, List.set_cons_succ]) | (refine wpDA_hereg rfl (fun D u hS => run_ldc 22 isAgg_u64 _ rfl _ 0 rfl _ (fcell (hS.pz.hx) 0 rfl)) ?_; simp only [Act.put, List.setIfInBounds_toArray, List.set_cons_zero, List.set_cons_succ]) | (refine wpDA_hereg rfl (fun D u hS => run_ldc 22 isAgg_u64 _ rfl _ 1 rfl _ (fcell (hS.pz.hx) 1 rfl)) ?_; simp only [Act.put, List.setIfInBounds_toArray, List.set_cons_zero, List.set_cons_succ]) | (refine wpDA_hereg rfl (fun D u hS => run_ldc 22 isAgg_u64 _ rfl _ 0 rfl _ (fcell (hS.pz.hy) 0 rfl)) ?_; simp only [Act.put, List.setIfInBounds_toArray, List.set_cons_zero, List.set_cons_succ]) | (refine wpDA_hereg rfl (fun D u hS => run_ldc 22 isAgg_u64 _ rfl _ 1 rfl _ (fcell (hS.pz.hy) 1 rfl)) ?_; simp only [Act.put, List.setIfInBounds_toArray, List.set_cons_zero, List.set_cons_succ]) | (refine wpDA_callg (v := .agg (cells Vsz)) rfl 30 ?_ (fun u => ?_) (fun D u hS => ?_) ?_; rotate_left 1; (focus (go_simp; (try with_reducible rfl); done)); (focus (refine (HSZ.out _).mono ?_; rintro e u2 ⟨rfl, hb⟩; exact ⟨rfl, hS.below hb⟩)); simp only [Act.put, List.setIfInBounds_toArray, List.set_cons_zero, List.set_cons_succ]) | (refine wpDA_pure (v := ?_) rfl (fun u => ?_) ?_; rotate_left; (focus (go_simp; (try with_reducible rfl); done)); simp only [Act.put, List.setIfInBounds_toArray, List.set_cons_zero, List.set_cons_succ]) | (refine wpDA_pureg (v := ?_) rfl (fun u => ?_) ?_; rotate_left; (focus (go_simp; (try with_reducible rfl); done)); simp only [Act.put, List.setIfInBounds_toArray, List.set_cons_zero, List.set_cons_succ]) | (refine wpDA_skip rfl ?_; simp only [Act.put, List.setIfInBounds_toArray, List.set_cons_zero, List.set_cons_succ]))
    refine wpDA_nil ⟨_, rfl, ⟨rfl, fun u hS => ?_⟩, ?_⟩
    · exact ⟨_, .inl ⟨some (u.heap.size, [((getN a 64 0 : Nat) : Int), ((getN a 64 1 : Nat) : Int), ((getN b 64 0 : Nat) : Int), ((getN b 64 1 : Nat) : Int)]), .inr (.inl ⟨rfl, _, rfl⟩), hS.made [((getN a 64 0 : Nat) : Int), ((getN a 64 1 : Nat) : Int), ((getN b 64 0 : Nat) : Int), ((getN b 64 1 : Nat) : Int)] _ rfl, .inl (op_bu4 _ _ _ _ rfl _ _ _ _ rfl rfl rfl rfl)⟩⟩
    intro D' hst
    obtain ⟨b24, rfl⟩ := stepZ_24 hst
    clear hst
    simp only [Act.put, List.setIfInBounds_toArray, List.set_cons_zero, List.set_cons_succ]
    (try simp only [valZ_8, valZ_9, valZ_24, valZ_25])
    (try simp only [planE, opsAt, List.getElem?_cons_zero, List.getElem?_cons_succ])
    refine wpDA_nil ⟨_, rfl, ⟨rfl, fun u hS => ⟨u, .inr ⟨20, ?_, ?_, ?_⟩⟩⟩, ?_⟩
    rotate_left 1
    focus (go_simp; (try with_reducible rfl); done)
    · refine (HH6.out u _ Vsz rfl (hS.hd _ _ rfl)).mono ?_
      rintro e u2 ⟨rfl, hb⟩
      exact ⟨_, .inr (.inr ⟨by decide, rfl⟩), hS.below hb, rfl⟩
    intro D' hst
    obtain rfl := stepZ_25 hst
    clear hst
    simp only [Act.put, List.setIfInBounds_toArray, List.set_cons_zero, List.set_cons_succ]
    (try simp only [valZ_8, valZ_9, valZ_24, valZ_25])
    (try simp only [planE, opsAt, List.getElem?_cons_zero, List.getElem?_cons_succ])
    repeat (first | (refine wpDA_hereg rfl (fun D u hS => run_lv _ rfl _ rfl _ (hS.pz.ha)) ?_; simp only [Act.put, List.setIfInBounds_toArray, List.set_cons_zero, List.set_cons_succ]) | (refine wpDA_hereg rfl (fun D u hS => run_lv _ rfl _ rfl _ (hS.pz.hb)) ?_; simp only [Act.put, List.setIfInBounds_toArray, List.set_cons_zero, List.set_cons_succ]) | (refine wpDA_hereg rfl (fun D u hS => run_ldc 22 isAgg_u64 _ rfl _ 0 rfl _ (fcell (hS.hz) 0 rfl)) ?_; simp only [Act.put, List.setIfInBounds_toArray, List.set_cons_zero, List.set_cons_succ]) | (refine wpDA_hereg rfl (fun D u hS => run_ldc 22 isAgg_u64 _ rfl _ 1 rfl _ (fcell (hS.hz) 1 rfl)) ?_; simp only [Act.put, List.setIfInBounds_toArray, List.set_cons_zero, List.set_cons_succ]) | (refine wpDA_hereg rfl (fun D u hS => run_ldc 22 isAgg_u64 _ rfl _ 0 rfl _ (fcell (hS.pz.hx) 0 rfl)) ?_; simp only [Act.put, List.setIfInBounds_toArray, List.set_cons_zero, List.set_cons_succ]) | (refine wpDA_hereg rfl (fun D u hS => run_ldc 22 isAgg_u64 _ rfl _ 1 rfl _ (fcell (hS.pz.hx) 1 rfl)) ?_; simp only [Act.put, List.setIfInBounds_toArray, List.set_cons_zero, List.set_cons_succ]) | (refine wpDA_hereg rfl (fun D u hS => run_ldc 22 isAgg_u64 _ rfl _ 0 rfl _ (fcell (hS.pz.hy) 0 rfl)) ?_; simp only [Act.put, List.setIfInBounds_toArray, List.set_cons_zero, List.set_cons_succ]) | (refine wpDA_hereg rfl (fun D u hS => run_ldc 22 isAgg_u64 _ rfl _ 1 rfl _ (fcell (hS.pz.hy) 1 rfl)) ?_; simp only [Act.put, List.setIfInBounds_toArray, List.set_cons_zero, List.set_cons_succ]) | (refine wpDA_callg (v := .agg (cells Vsz)) rfl 30 ?_ (fun u => ?_) (fun D u hS => ?_) ?_; rotate_left 1; (focus (go_simp; (try with_reducible rfl); done)); (focus (refine (HSZ.out _).mono ?_; rintro e u2 ⟨rfl, hb⟩; exact ⟨rfl, hS.below hb⟩)); simp only [Act.put, List.setIfInBounds_toArray, List.set_cons_zero, List.set_cons_succ]) | (refine wpDA_pure (v := ?_) rfl (fun u => ?_) ?_; rotate_left; (focus (go_simp; (try with_reducible rfl); done)); simp only [Act.put, List.setIfInBounds_toArray, List.set_cons_zero, List.set_cons_succ]) | (refine wpDA_pureg (v := ?_) rfl (fun u => ?_) ?_; rotate_left; (focus (go_simp; (try with_reducible rfl); done)); simp only [Act.put, List.setIfInBounds_toArray, List.set_cons_zero, List.set_cons_succ]) | (refine wpDA_skip rfl ?_; simp only [Act.put, List.setIfInBounds_toArray, List.set_cons_zero, List.set_cons_succ]))
    refine wpDA_nil (fun u5 hS5 => ?_)
    have hfin := hS5.pz.bel
    clear hS5
    go_wp2_with fail
    go_ret
    exact ⟨rfl, hfin⟩
end Go.Proofs.Ytcpfabkokgiepaa
