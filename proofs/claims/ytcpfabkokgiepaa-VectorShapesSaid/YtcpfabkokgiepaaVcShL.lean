/-
  Plain laws of VectorShapes: every instruction answers.
-/
import Derived.Test.YtcpfabkokgiepaaVqCuts
set_option linter.unusedSimpArgs false
set_option linter.unusedVariables false
namespace Go.Proofs.Ytcpfabkokgiepaa
open Go.RowKit Pl

end Go.Proofs.Ytcpfabkokgiepaa
namespace Pl
open Go
open Go.Proofs.Ytcpfabkokgiepaa
def needOf : List Int → Nat
  | [] => 0
  | t :: ts => (if t = 123 then 2 else 1) + needOf ts
theorem needOf_append : ∀ (a b : List Int), needOf (a ++ b) = needOf a + needOf b
  | [], b => by simp [needOf]
  | t :: a, b => by rw [List.cons_append, needOf, needOf, needOf_append a b, Nat.add_assoc]
theorem needOf_step (ti : List Int) (i : Nat) (t : Int) (h : ti[i]? = some t) : needOf (ti.take (i + 1)) = needOf (ti.take i) + (if t = 123 then 2 else 1) := by
  rw [List.take_add_one, h, needOf_append]
  simp [needOf]
theorem takeV_none : ∀ (ts : List Int) (hs : List Nat), hs.length ≠ needOf ts → takeV ts hs = none
  | [], [], h => absurd rfl h
  | [], _ :: _, _ => rfl
  | t :: ts, hs, h => by
    unfold needOf at h
    unfold takeV
    by_cases h1 : t = 123
    · rw [if_pos h1]
      rw [if_pos h1] at h
      match hs, h with
      | [], _ => rfl
      | [x], _ => rfl
      | lo :: hi :: r, h =>
        dsimp only
        rw [takeV_none ts r (by simp at h; omega)]
        rfl
    · rw [if_neg h1]
      rw [if_neg h1] at h
      by_cases h2 : t = 127 ∨ t = 126
      · rw [if_pos h2]
        match hs, h with
        | [], _ => rfl
        | lo :: r, h =>
          dsimp only
          rw [takeV_none ts r (by simp at h; omega)]
          rfl
      · rw [if_neg h2]
def toAt (κ : Nat) : List Int := match vrowAt (64768 + (κ : Int)) with | none => [] | some r => tyOut r
set_option maxRecDepth 100000 in
theorem sh_cls : ∀ κ : Fin 256, isB (64768 + (κ.val : Int)) = true → (tyAt κ.val = [] ∧ toAt κ.val = [123] ∧ κ.val ∈ [12]) ∨ (tyAt κ.val = [123] ∧ toAt κ.val = [123] ∧ κ.val ∈ [77, 96, 97, 98, 124, 125, 126, 127, 128, 129, 135, 136, 137, 138, 160, 161, 167, 168, 169, 170, 192, 193, 199, 200, 201, 202]) ∨ (tyAt κ.val = [123] ∧ toAt κ.val = [126] ∧ κ.val ∈ [29]) ∨ (tyAt κ.val = [123] ∧ toAt κ.val = [127] ∧ κ.val ∈ [21, 22, 24, 25, 27, 83, 99, 100, 131, 132, 163, 164, 195, 196]) ∨ (tyAt κ.val = [123, 123] ∧ toAt κ.val = [123] ∧ κ.val ∈ [13, 14, 35, 36, 37, 38, 39, 40, 41, 42, 43, 44, 45, 46, 47, 48, 49, 50, 51, 52, 53, 54, 55, 56, 57, 58, 59, 60, 61, 62, 63, 64, 78, 79, 80, 81, 101, 102, 110, 111, 112, 113, 114, 115, 118, 119, 120, 121, 123, 130, 133, 134, 142, 143, 144, 145, 146, 147, 149, 150, 151, 152, 153, 155, 156, 157, 158, 159, 174, 177, 181, 182, 183, 184, 185, 186, 188, 189, 190, 191, 206, 209, 213, 214, 215, 216, 217, 218, 219, 220, 221, 222, 223]) ∨ (tyAt κ.val = [123, 123, 123] ∧ toAt κ.val = [123] ∧ κ.val ∈ [82]) ∨ (tyAt κ.val = [123, 126] ∧ toAt κ.val = [123] ∧ κ.val ∈ [30]) ∨ (tyAt κ.val = [123, 127] ∧ toAt κ.val = [123] ∧ κ.val ∈ [23, 26, 28, 107, 108, 109, 139, 140, 141, 171, 172, 173, 203, 204, 205]) ∨ (tyAt κ.val = [126] ∧ toAt κ.val = [123] ∧ κ.val ∈ [18]) ∨ (tyAt κ.val = [127] ∧ toAt κ.val = [123] ∧ κ.val ∈ [15, 16, 17]) := by decide +kernel
def shL0 : List Nat := [12]
theorem sh_ok0 : shL0.all (fun κ => decide ((doV (64768 + (κ : Int)) 1 0 0 []).2 = 0) && decide ((doV (64768 + (κ : Int)) 1 0 0 []).1.length = 2)) = true := by kernel_rfl
def shL1 : List Nat := [77, 96, 97, 98, 124, 125, 126, 127, 128, 129, 135, 136, 137, 138, 160, 161, 167, 168, 169, 170, 192, 193, 199, 200, 201, 202]
theorem sh_ok1 (x0 x1 : Nat) : shL1.all (fun κ => decide ((doV (64768 + (κ : Int)) 1 0 0 [x0, x1]).2 = 0) && decide ((doV (64768 + (κ : Int)) 1 0 0 [x0, x1]).1.length = 2)) = true := by kernel_rfl
def shL2 : List Nat := [29]
theorem sh_ok2 (x0 x1 : Nat) : shL2.all (fun κ => decide ((doV (64768 + (κ : Int)) 1 0 0 [x0, x1]).2 = 0) && decide ((doV (64768 + (κ : Int)) 1 0 0 [x0, x1]).1.length = 1)) = true := by kernel_rfl
def shL3 : List Nat := [21, 22, 24, 25, 27, 83, 99, 100, 131, 132, 163, 164, 195, 196]
theorem sh_ok3 (x0 x1 : Nat) : shL3.all (fun κ => decide ((doV (64768 + (κ : Int)) 1 0 0 [x0, x1]).2 = 0) && decide ((doV (64768 + (κ : Int)) 1 0 0 [x0, x1]).1.length = 1)) = true := by kernel_rfl
def shL4 : List Nat := [13, 14, 35, 36, 37, 38, 39, 40, 41, 42, 43, 44, 45, 46, 47, 48, 49, 50, 51, 52, 53, 54, 55, 56, 57, 58, 59, 60, 61, 62, 63, 64, 78, 79, 80, 81, 101, 102, 110, 111, 112, 113, 114, 115, 118, 119, 120, 121, 123, 130, 133, 134, 142, 143, 144, 145, 146, 147, 149, 150, 151, 152, 153, 155, 156, 157, 158, 159, 174, 177, 181, 182, 183, 184, 185, 186, 188, 189, 190, 191, 206, 209, 213, 214, 215, 216, 217, 218, 219, 220, 221, 222, 223]
theorem sh_ok4 (x0 x1 x2 x3 : Nat) : shL4.all (fun κ => decide ((doV (64768 + (κ : Int)) 1 0 0 [x0, x1, x2, x3]).2 = 0) && decide ((doV (64768 + (κ : Int)) 1 0 0 [x0, x1, x2, x3]).1.length = 2)) = true := by kernel_rfl
def shL5 : List Nat := [82]
theorem sh_ok5 (x0 x1 x2 x3 x4 x5 : Nat) : shL5.all (fun κ => decide ((doV (64768 + (κ : Int)) 1 0 0 [x0, x1, x2, x3, x4, x5]).2 = 0) && decide ((doV (64768 + (κ : Int)) 1 0 0 [x0, x1, x2, x3, x4, x5]).1.length = 2)) = true := by kernel_rfl
def shL6 : List Nat := [30]
theorem sh_ok6 (x0 x1 x2 : Nat) : shL6.all (fun κ => decide ((doV (64768 + (κ : Int)) 1 0 0 [x0, x1, x2]).2 = 0) && decide ((doV (64768 + (κ : Int)) 1 0 0 [x0, x1, x2]).1.length = 2)) = true := by kernel_rfl
def shL7 : List Nat := [23, 26, 28, 107, 108, 109, 139, 140, 141, 171, 172, 173, 203, 204, 205]
theorem sh_ok7 (x0 x1 x2 : Nat) : shL7.all (fun κ => decide ((doV (64768 + (κ : Int)) 1 0 0 [x0, x1, x2]).2 = 0) && decide ((doV (64768 + (κ : Int)) 1 0 0 [x0, x1, x2]).1.length = 2)) = true := by kernel_rfl
def shL8 : List Nat := [18]
theorem sh_ok8 (x0 : Nat) : shL8.all (fun κ => decide ((doV (64768 + (κ : Int)) 1 0 0 [x0]).2 = 0) && decide ((doV (64768 + (κ : Int)) 1 0 0 [x0]).1.length = 2)) = true := by kernel_rfl
def shL9 : List Nat := [15, 16, 17]
theorem sh_ok9 (x0 : Nat) : shL9.all (fun κ => decide ((doV (64768 + (κ : Int)) 1 0 0 [x0]).2 = 0) && decide ((doV (64768 + (κ : Int)) 1 0 0 [x0]).1.length = 2)) = true := by kernel_rfl
theorem extV_lt (κ i : Int) (v : Vec) (h : κ ≠ 29) : (extV κ i v).1 < 4294967296 := by
  unfold extV
  split
  · exact (by decide : (0 : Nat) < 4294967296)
  · next hn =>
    split
    · show (_ : Int).toNat < _
      have := Int.emod_lt_of_pos (sgn (laneW κ).1 (getN v (laneW κ).1 i.toNat)) (show (0 : Int) < 4294967296 by decide)
      omega
    · show getN v (laneW κ).1 i.toNat < _
      refine Nat.lt_of_lt_of_le (getN_lt _ _ _) ?_
      suffices h5 : (laneW κ).1 ≤ 32 from Nat.pow_le_pow_right (by decide) h5
      have h2 : (laneW κ).2 ≠ true := fun e => hn (.inr (.inl e))
      revert h2
      unfold laneW
      repeat' split
      all_goals first | decide | (intro hx; exact absurd rfl hx) | (intro _; omega)
theorem numV_lt (κ : Nat) (A : Int) (v : Vec) (h : κ ≠ 29) : (numV (64768 + (κ : Int)) A v).1 < 4294967296 := by
  unfold numV
  split
  · exact (testV_range _ _).2
  · show ((extV _ A v).1 : Int) < 4294967296
    have := extV_lt (64768 + (κ : Int) - 64768) A v (by omega)
    omega
theorem doV_num (κ : Nat) (A : Int) (hs : List Nat) (h : κ ≠ 29) (ht : toAt κ = [127]) : ∀ z ∈ (doV (64768 + (κ : Int)) A 0 0 hs).1, z < 4294967296 := by
  intro z hz
  unfold toAt at ht
  unfold doV at hz
  cases hr : vrowAt (64768 + (κ : Int)) with
  | none => rw [hr] at hz; simp at hz
  | some r =>
    rw [hr] at hz ht
    dsimp only at hz ht
    split at hz
    · unfold doR at hz
      rw [ht] at hz
      split at hz
      · simp at hz
      · rw [if_neg (by decide)] at hz
        unfold doN at hz
        split at hz
        · have := numV_lt κ A ((‹List Vec›).getD 0 0) h
          simp only [List.mem_cons, List.not_mem_nil, or_false] at hz
          omega
        · simp at hz
    · simp at hz

theorem shape_ok (κ : Nat) (hκ : κ < 256) (hb : isB (64768 + (κ : Int)) = true) (hs : List Nat) (hl : hs.length = needOf (tyAt κ)) :
    (doV (64768 + (κ : Int)) 1 0 0 hs).2 = 0 ∧ (doV (64768 + (κ : Int)) 1 0 0 hs).1.length = (if toAt κ = [123] then 2 else 1) ∧ (toAt κ = [127] → ∀ z ∈ (doV (64768 + (κ : Int)) 1 0 0 hs).1, z < 4294967296) := by
  rcases sh_cls ⟨κ, hκ⟩ hb with ⟨c1, c2, c3⟩ | ⟨c1, c2, c3⟩ | ⟨c1, c2, c3⟩ | ⟨c1, c2, c3⟩ | ⟨c1, c2, c3⟩ | ⟨c1, c2, c3⟩ | ⟨c1, c2, c3⟩ | ⟨c1, c2, c3⟩ | ⟨c1, c2, c3⟩ | ⟨c1, c2, c3⟩
  · rw [c1] at hl
    replace hl : hs.length = 0 := hl
    replace c3 : κ ∈ shL0 := c3
    rw [c2]
    match hs, hl with
    | [], _ =>
      have := List.all_eq_true.1 (sh_ok0) κ c3
      simp only [Bool.and_eq_true, decide_eq_true_eq] at this
      exact ⟨this.1, this.2, fun e => absurd e (by decide)⟩
    | _ :: _, hl => simp at hl
  · rw [c1] at hl
    replace hl : hs.length = 2 := hl
    replace c3 : κ ∈ shL1 := c3
    rw [c2]
    match hs, hl with
    | [x0, x1], _ =>
      have := List.all_eq_true.1 (sh_ok1 x0 x1) κ c3
      simp only [Bool.and_eq_true, decide_eq_true_eq] at this
      exact ⟨this.1, this.2, fun e => absurd e (by decide)⟩
    | [], hl => simp at hl
    | [x0], hl => simp at hl
    | _ :: _ :: _ :: _, hl => simp at hl
  · rw [c1] at hl
    replace hl : hs.length = 2 := hl
    replace c3 : κ ∈ shL2 := c3
    rw [c2]
    match hs, hl with
    | [x0, x1], _ =>
      have := List.all_eq_true.1 (sh_ok2 x0 x1) κ c3
      simp only [Bool.and_eq_true, decide_eq_true_eq] at this
      exact ⟨this.1, this.2, fun e => absurd e (by decide)⟩
    | [], hl => simp at hl
    | [x0], hl => simp at hl
    | _ :: _ :: _ :: _, hl => simp at hl
  · rw [c1] at hl
    replace hl : hs.length = 2 := hl
    replace c3 : κ ∈ shL3 := c3
    rw [c2]
    match hs, hl with
    | [x0, x1], _ =>
      have := List.all_eq_true.1 (sh_ok3 x0 x1) κ c3
      simp only [Bool.and_eq_true, decide_eq_true_eq] at this
      exact ⟨this.1, this.2, fun _ => doV_num κ 1 _ (fun e => by subst e; revert c3; decide) c2⟩
    | [], hl => simp at hl
    | [x0], hl => simp at hl
    | _ :: _ :: _ :: _, hl => simp at hl
  · rw [c1] at hl
    replace hl : hs.length = 4 := hl
    replace c3 : κ ∈ shL4 := c3
    rw [c2]
    match hs, hl with
    | [x0, x1, x2, x3], _ =>
      have := List.all_eq_true.1 (sh_ok4 x0 x1 x2 x3) κ c3
      simp only [Bool.and_eq_true, decide_eq_true_eq] at this
      exact ⟨this.1, this.2, fun e => absurd e (by decide)⟩
    | [], hl => simp at hl
    | [x0], hl => simp at hl
    | [x0, x1], hl => simp at hl
    | [x0, x1, x2], hl => simp at hl
    | _ :: _ :: _ :: _ :: _ :: _, hl => simp at hl
  · rw [c1] at hl
    replace hl : hs.length = 6 := hl
    replace c3 : κ ∈ shL5 := c3
    rw [c2]
    match hs, hl with
    | [x0, x1, x2, x3, x4, x5], _ =>
      have := List.all_eq_true.1 (sh_ok5 x0 x1 x2 x3 x4 x5) κ c3
      simp only [Bool.and_eq_true, decide_eq_true_eq] at this
      exact ⟨this.1, this.2, fun e => absurd e (by decide)⟩
    | [], hl => simp at hl
    | [x0], hl => simp at hl
    | [x0, x1], hl => simp at hl
    | [x0, x1, x2], hl => simp at hl
    | [x0, x1, x2, x3], hl => simp at hl
    | [x0, x1, x2, x3, x4], hl => simp at hl
    | _ :: _ :: _ :: _ :: _ :: _ :: _ :: _, hl => simp at hl
  · rw [c1] at hl
    replace hl : hs.length = 3 := hl
    replace c3 : κ ∈ shL6 := c3
    rw [c2]
    match hs, hl with
    | [x0, x1, x2], _ =>
      have := List.all_eq_true.1 (sh_ok6 x0 x1 x2) κ c3
      simp only [Bool.and_eq_true, decide_eq_true_eq] at this
      exact ⟨this.1, this.2, fun e => absurd e (by decide)⟩
    | [], hl => simp at hl
    | [x0], hl => simp at hl
    | [x0, x1], hl => simp at hl
    | _ :: _ :: _ :: _ :: _, hl => simp at hl
  · rw [c1] at hl
    replace hl : hs.length = 3 := hl
    replace c3 : κ ∈ shL7 := c3
    rw [c2]
    match hs, hl with
    | [x0, x1, x2], _ =>
      have := List.all_eq_true.1 (sh_ok7 x0 x1 x2) κ c3
      simp only [Bool.and_eq_true, decide_eq_true_eq] at this
      exact ⟨this.1, this.2, fun e => absurd e (by decide)⟩
    | [], hl => simp at hl
    | [x0], hl => simp at hl
    | [x0, x1], hl => simp at hl
    | _ :: _ :: _ :: _ :: _, hl => simp at hl
  · rw [c1] at hl
    replace hl : hs.length = 1 := hl
    replace c3 : κ ∈ shL8 := c3
    rw [c2]
    match hs, hl with
    | [x0], _ =>
      have := List.all_eq_true.1 (sh_ok8 x0) κ c3
      simp only [Bool.and_eq_true, decide_eq_true_eq] at this
      exact ⟨this.1, this.2, fun e => absurd e (by decide)⟩
    | [], hl => simp at hl
    | _ :: _ :: _, hl => simp at hl
  · rw [c1] at hl
    replace hl : hs.length = 1 := hl
    replace c3 : κ ∈ shL9 := c3
    rw [c2]
    match hs, hl with
    | [x0], _ =>
      have := List.all_eq_true.1 (sh_ok9 x0) κ c3
      simp only [Bool.and_eq_true, decide_eq_true_eq] at this
      exact ⟨this.1, this.2, fun e => absurd e (by decide)⟩
    | [], hl => simp at hl
    | _ :: _ :: _, hl => simp at hl
theorem shape_no (κ : Nat) (hs : List Nat) (h : hs.length ≠ needOf (tyAt κ)) : doV (64768 + (κ : Int)) 1 0 0 hs = ([], 1) := by
  unfold doV
  unfold tyAt at h
  cases hr : vrowAt (64768 + (κ : Int)) with
  | none => rfl
  | some r =>
    rw [hr] at h
    dsimp only at h ⊢
    split
    · unfold doR
      rw [takeV_none _ _ h]
    · rfl
theorem shape_cls (κ : Nat) (hκ : κ < 256) (hb : isB (64768 + (κ : Int)) = true) : needOf (tyAt κ) ≤ 6 ∧ (tyAt κ).length ≤ 3 ∧ (toAt κ = [123] ∨ toAt κ = [127] ∨ toAt κ = [126]) := by
  rcases sh_cls ⟨κ, hκ⟩ hb with ⟨c1, c2, _⟩ | ⟨c1, c2, _⟩ | ⟨c1, c2, _⟩ | ⟨c1, c2, _⟩ | ⟨c1, c2, _⟩ | ⟨c1, c2, _⟩ | ⟨c1, c2, _⟩ | ⟨c1, c2, _⟩ | ⟨c1, c2, _⟩ | ⟨c1, c2, _⟩
  all_goals (replace c1 : tyAt κ = _ := c1; replace c2 : toAt κ = _ := c2; rw [c1, c2]; decide)
theorem rows_len : (rowsV ++ rowsS).all (fun r => decide ((tyIn r).length ≤ 100)) = true := by decide +kernel
theorem row_len {op : Int} {r : Row} (h : vrowAt op = some r) : (tyIn r).length ≤ 100 := by
  have hm := (vrowAt_mem h).1
  have := List.all_eq_true.1 rows_len r (by
    unfold rowsOf at hm
    split at hm
    · exact List.mem_append_left _ hm
    · exact List.mem_append_right _ hm)
  simpa using this
end Pl
namespace Go.Proofs.Ytcpfabkokgiepaa
open Go.RowKit Pl

end Go.Proofs.Ytcpfabkokgiepaa
