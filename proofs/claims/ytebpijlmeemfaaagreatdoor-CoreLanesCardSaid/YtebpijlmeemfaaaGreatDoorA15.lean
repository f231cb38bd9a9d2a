/- A part of the proof that plaittop.CoreLanes returns true. -/
import Derived.Test.YtebpijlmeemfaaaGreatDoorA14
import Derived.Test.YtebpijlmeemfaaaGreatDoorB01
set_option linter.all false
set_option linter.unusedSectionVars false
set_option linter.unusedSimpArgs false
set_option linter.unusedVariables false
section
namespace Pl
open Go
def madeV (op A : Int) (lo hi : Nat) (form : Int) (ty : List Int) (l : List Vec) : Vec × Int :=
 if form = 11 then (joinV lo hi, 0)
 else if form = 12 then shufV (joinV lo hi) (l.getD 0 0) (l.getD 1 0)
 else if form = 13 then replV (op - 64768) A (l.getD 0 0) (getN (l.getD 1 0) 64 0)
 else if op = 64782 then (swizV (l.getD 0 0) (l.getD 1 0), 0)
 else if ty.getD 0 0 ≠ 123 then splatV (op - 64768) (getN (l.getD 0 0) 64 0)
 else if (bitsL op l).2 = 0 then ((bitsL op l).1, 0)
 else if l.length = 1 then (if (unV op (l.getD 0 0)).2 = 0 then ((unV op (l.getD 0 0)).1, 0) else unW op (l.getD 0 0))
 else if ty.getD 1 0 = 127 then shV op (l.getD 0 0) (getN (l.getD 1 0) 32 0)
 else if (binV op (l.getD 0 0) (l.getD 1 0)).2 = 0 then ((binV op (l.getD 0 0) (l.getD 1 0)).1, 0)
 else if (cmpV op (l.getD 0 0) (l.getD 1 0)).2 = 0 then ((cmpV op (l.getD 0 0) (l.getD 1 0)).1, 0)
 else binW op (l.getD 0 0) (l.getD 1 0)
def numV (op A : Int) (v : Vec) : Int × Int := if (testV op v).2 = 0 then ((testV op v).1, 0) else (((extV (op - 64768) A v).1 : Int), (extV (op - 64768) A v).2)
theorem getD_some {α : Type} (l : List α) (i : Nat) (d : α) (h : i < l.length) : l[i]? = some (l.getD i d) := by
 rw [List.getD_eq_getElem?_getD, List.getElem?_eq_getElem h]; rfl
end Pl
namespace Go.Proofs.YtebpijlmeemfaaaGreatDoor
open Go.RowKit Pl
theorem beq_t {a b : Int} (h : a = b) : (a == b) = true := by rw [h]; exact beq_self_eq_true b
theorem beq_f {a b : Int} (h : a ≠ b) : (a == b) = false := beq_eq_false_iff_ne.2 h
end Go.Proofs.YtebpijlmeemfaaaGreatDoor
namespace Pl
open Go
open Go.Proofs.YtebpijlmeemfaaaGreatDoor
def inRow (op : Int) (r : Row) : Bool := decide (r.fr ≤ op ∧ op ≤ r.to)
def vrowAt (op : Int) : Option Row := (rowsOf op).find? (inRow op)
def rowIs (r : Row) : Bool := !(r.form == 7) && !(r.form == 8)
def isB (op : Int) : Bool := match vrowAt op with | none => false | some r => decide (64768 ≤ op) && rowIs r
def tyIn (r : Row) : List Int := (sigOf r.sig).2.1
def tyOut (r : Row) : List Int := (sigOf r.sig).2.2
def doN (n : Int × Int) : List Nat × Int := if n.2 = 0 then ([n.1.toNat], 0) else ([], n.2)
def doM (m : Vec × Int) : List Nat × Int := if m.2 = 0 then ([getN m.1 64 0, getN m.1 64 1], 0) else ([], m.2)
def doR (op A : Int) (lo hi : Nat) (r : Row) (hs : List Nat) : List Nat × Int :=
 match takeV (tyIn r) hs with
 | none => ([], 1)
 | some vs => if (tyOut r).getD 0 0 = 123 then doM (madeV op A lo hi r.form (tyIn r) vs) else doN (numV op A (vs.getD 0 0))
def doV (op A : Int) (lo hi : Nat) (hs : List Nat) : List Nat × Int :=
 match vrowAt op with
 | none => ([], 1)
 | some r => if isB op = true then doR op A lo hi r hs else ([], 1)
theorem find_first {α : Type} (P : α → Bool) : ∀ (l : List α) (i : Nat) (r : α), l[i]? = some r → P r = true → (∀ j, j < i → ∀ q, l[j]? = some q → P q = false) → l.find? P = some r
 | [], i, r, h, _, _ => by cases h
 | x :: l, 0, r, h, hp, _ => by injection h with h; subst h; rw [List.find?_cons, hp]
 | x :: l, i + 1, r, h, hp, hn => by
  have := hn 0 (Nat.succ_pos _) x rfl
  rw [List.find?_cons, this]
  exact find_first P l i r h hp (fun j hj q hq => hn (j + 1) (Nat.succ_lt_succ hj) q hq)
theorem inRow_t {op : Int} {r : Row} : inRow op r = true ↔ r.fr ≤ op ∧ op ≤ r.to := by simp [inRow]
theorem inRow_f {op : Int} {r : Row} : inRow op r = false ↔ ¬ (r.fr ≤ op ∧ op ≤ r.to) := by simp [inRow]
def rowOK (r : Row) : Bool :=
 !rowIs r || (decide (64768 ≤ r.fr ∧ r.to ≤ 65023) && decide ((tyIn r).length ≤ 3) && (tyIn r).all (fun t => decide (t = 123 ∨ t = 127 ∨ t = 126)) && !(tyOut r).isEmpty && decide ((tyOut r).length = 1) &&
  (((tyOut r).getD 0 0 == 123) || !(tyIn r).isEmpty) && (r.form == 11 || !(tyIn r).isEmpty) && (!(r.form == 12) || decide ((tyIn r).length = 2)) && (!(r.form == 13) || !((tyOut r).getD 0 0 == 123) || decide ((tyIn r).length = 2)) &&
  (!inRow 64782 r || decide ((tyIn r).length = 2)))
theorem rows_ok : rowsV.all rowOK = true := by decide +kernel
theorem takeV_len : ∀ (ts : List Int) (hs : List Nat) (vs : List Vec), takeV ts hs = some vs → vs.length = ts.length
 | [], [], vs, h => by injection h with h; subst h; rfl
 | [], _ :: _, vs, h => by cases h
 | t :: ts, hs, vs, h => by
  unfold takeV at h
  split at h
  ·match hs, h with
   | lo :: hi :: r, h =>
    simp only [Option.map_eq_some_iff] at h
    obtain ⟨a, ha, rfl⟩ := h
    simp [takeV_len ts r a ha]
  ·split at h
   ·match hs, h with
    | lo :: r, h =>
     simp only [Option.map_eq_some_iff] at h
     obtain ⟨a, ha, rfl⟩ := h
     simp [takeV_len ts r a ha]
   ·cases h
theorem vrowAt_mem {op : Int} {r : Row} (h : vrowAt op = some r) : r ∈ rowsOf op ∧ r.fr ≤ op ∧ op ≤ r.to := by
 unfold vrowAt at h
 exact ⟨List.mem_of_find?_eq_some h, inRow_t.1 (List.find?_some h)⟩
structure RowFit (op : Int) (r : Row) : Prop where
 range : 64768 ≤ op ∧ op ≤ 65023
 len : (tyIn r).length ≤ 3
 tys : ∀ t ∈ tyIn r, 0 ≤ t ∧ t ≤ 255
 out : (tyOut r).length = 1
 num : (tyOut r).getD 0 0 ≠ 123 → 1 ≤ (tyIn r).length
 some1 : r.form ≠ 11 → 1 ≤ (tyIn r).length
 two : (tyOut r).getD 0 0 = 123 → (r.form = 12 ∨ r.form = 13 ∨ op = 64782) → 2 ≤ (tyIn r).length
theorem rowFit {op : Int} {r : Row} (h : vrowAt op = some r) (hb : isB op = true) : RowFit op r := by
 obtain ⟨hm, h1, h2⟩ := vrowAt_mem h
 unfold isB at hb
 rw [h] at hb
 simp only [Bool.and_eq_true, decide_eq_true_eq] at hb
 obtain ⟨hop, hr⟩ := hb
 unfold rowsOf at hm
 rw [if_pos hop] at hm
 have hk := List.all_eq_true.1 rows_ok r hm
 unfold rowOK at hk
 rw [hr] at hk
 simp only [Bool.not_true, Bool.false_or, Bool.and_eq_true, decide_eq_true_eq, Bool.or_eq_true, Bool.not_eq_true', List.isEmpty_eq_false_iff, beq_iff_eq, beq_eq_false_iff_ne] at hk
 obtain ⟨⟨⟨⟨⟨⟨⟨⟨⟨k1, k2⟩, k3⟩, k4⟩, k5⟩, k6⟩, k7⟩, k8⟩, k9⟩, k10⟩ := hk
 refine ⟨⟨by omega, by omega⟩, k2, fun t ht => ?_, k5, fun hn => ?_, fun hn => ?_, fun ho hn => ?_⟩
 ·have := List.all_eq_true.1 k3 t ht
  simp only [decide_eq_true_eq] at this
  omega
 ·rcases k6 with k | k
  ·exact absurd k hn
  ·exact List.length_pos_iff.2 k
 ·rcases k7 with k | k
  ·exact absurd k hn
  ·exact List.length_pos_iff.2 k
 ·rcases hn with hn | hn | hn
  ·rcases k8 with k | k
   ·exact absurd hn k
   ·omega
  ·rcases k9 with (k | k) | k
   ·exact absurd hn k
   ·exact absurd ho k
   ·omega
  ·rcases k10 with k | k
   ·subst hn; exact absurd ⟨h1, h2⟩ (inRow_f.1 k)
   ·omega
theorem doR_err {op A : Int} {lo hi : Nat} {r : Row} {hs : List Nat} (h : takeV (tyIn r) hs = none) : doR op A lo hi r hs = ([], 1) := by unfold doR; rw [h]
theorem doV_row {op A : Int} {lo hi : Nat} {r : Row} {hs : List Nat} (h : vrowAt op = some r) (hb : isB op = true) : doV op A lo hi hs = doR op A lo hi r hs := by unfold doV; rw [h]; simp [hb]
theorem doV_no {op A : Int} {lo hi : Nat} {hs : List Nat} (hb : isB op = false) : doV op A lo hi hs = ([], 1) := by unfold doV; split <;> simp [hb]
end Pl
namespace Go.Proofs.YtebpijlmeemfaaaGreatDoor
open Go.RowKit Pl
theorem ofis_row {B : Nat} {op : Int} {e : Ending} {w' : World} (h : OfIs B (rowsOf op) op e w') :
  (vrowAt op = none ∧ e = .returned (.tuple #[.agg #[.int .i64 0, .int .i64 0, .bool false, .slice none 0 0, .slice none 0 0], .bool false])) ∨
  ∃ (r : Row) (pl : Bool) (s t : Value), vrowAt op = some r ∧ e = .returned (.tuple #[.agg #[.int .i64 r.form, .int .i64 r.lim, .bool pl, s, t], .bool true]) ∧
   w'.ownsRow B 3 1 s (tyIn r).length ((tyIn r).map (Value.int .i64)) ∧ w'.ownsRow B 3 1 t (tyOut r).length ((tyOut r).map (Value.int .i64)) := by
 obtain ⟨v, k, rfl, hf, ht⟩ := h.ret
 rcases k with _ | _
 ·obtain ⟨rfl, hn⟩ := hf rfl
  left
  refine ⟨?_, rfl⟩
  unfold vrowAt
  rw [List.find?_eq_none]
  intro r hr
  rw [inRow_t]
  exact hn r hr
 ·obtain ⟨i, r, pl, s, t, hi, h1, h2, hno, rfl, hs, ho⟩ := ht rfl
  right
  exact ⟨r, pl, s, t, find_first _ _ i r hi (inRow_t.2 ⟨h1, h2⟩) (fun j hj q hq => inRow_f.2 (hno j hj q hq)), rfl, hs, ho⟩
theorem all5 (a b : Int) (p : Bool) {s t : Value} (hs : s.oneCell' = true) (ht : t.oneCell' = true) : (#[.int .i64 a, .int .i64 b, .bool p, s, t] : Array Value).all (·.oneCell') = true := by
 rw [← Array.all_toList]
 show ([Value.int .i64 a, .int .i64 b, .bool p, s, t].all (·.oneCell')) = true
 rw [List.all_cons, List.all_cons, List.all_cons, List.all_cons, List.all_cons, hs, ht]
 rfl
theorem five_sz (a b c d e a' b' c' d' e' : Value) : #[a, b, c, d, e].size = #[a', b', c', d', e'].size := rfl
end Go.Proofs.YtebpijlmeemfaaaGreatDoor
namespace Go.Proofs.YtebpijlmeemfaaaGreatDoor
open Go.RowKit Pl
theorem is_none (op : Int) (w : World) (HOF : ∀ W, Calls Tryz.prog 22 #[.int .i64 op] W fun e w' => e = .returned (.tuple #[.agg #[.int .i64 0, .int .i64 0, .bool false, .slice none 0 0, .slice none 0 0], .bool false]) ∧ Below W.heap.size W w') :
  Calls Tryz.prog 21 #[.int .i64 op] w fun e w' => e = .returned (.bool false) ∧ Below w.heap.size w w' := by
 replace HOF := Lib.hid HOF
 go_enter Tryz.func21, Tryz.ntmps21
 go_wp2_with (first | (go_at_call 22; refine (HOF.out _).mono ?_; rintro e u1 ⟨rfl, hb1⟩))
 go_ret
 exact ⟨rfl, hb1.alloc hb1.size _⟩
theorem is_some (op form lim : Int) (ti to : List Int) (w : World) (HOF : ∀ W, Calls Tryz.prog 22 #[.int .i64 op] W fun e w' => ∃ (s t : Value) (pl : Bool), e = .returned (.tuple #[.agg #[.int .i64 form, .int .i64 lim, .bool pl, s, t], .bool true]) ∧ w'.ownsRow W.heap.size 3 1 s ti.length (ti.map (Value.int .i64)) ∧ w'.ownsRow W.heap.size 3 1 t to.length (to.map (Value.int .i64)) ∧ Below W.heap.size W w') :
  Calls Tryz.prog 21 #[.int .i64 op] w fun e w' => e = .returned (.bool (decide (64768 ≤ op) && (!(form == 7) && !(form == 8)))) ∧ Below w.heap.size w w' := by
 replace HOF := Lib.hid HOF
 by_cases h0 : 64768 ≤ op
 ·have q0 : decide (64768 ≤ op) = true := by simp [h0]
  by_cases h7 : form = 7
  ·subst h7
   rw [q0]
   clear h0
   go_enter Tryz.func21, Tryz.ntmps21
   go_wp2_with (first | (go_at_call 22; refine (HOF.out _).mono ?_; rintro e u1 ⟨s, t, pl, rfl, hs, ht, hb1⟩) | ((with_reducible refine store_newk rfl 86 _ _ rfl _ _ rfl rfl (infsize _ _ _ _ _) (five_sz _ _ _ _ _ _ _ _ _ _) (all5 _ _ _ (owns_one hs).1 (owns_one ht).1) ?_); intro u2 hb2 hF lF) | ((with_reducible refine load_w ?_ 3 isAgg_int _ rfl _ _ rfl _ _ hF _ rfl ?_); (focus rfl)))
   go_ret
   exact ⟨rfl, hb1.trans (hb2.mono hb1.size)⟩
  ·have q1 : (form == 7) = false := by simp [h7]
   by_cases h8 : form = 8
   ·subst h8
    rw [q0]
    clear h0 q1
    go_enter Tryz.func21, Tryz.ntmps21
    go_wp2_with (first | (go_at_call 22; refine (HOF.out _).mono ?_; rintro e u1 ⟨s, t, pl, rfl, hs, ht, hb1⟩) | ((with_reducible refine store_newk rfl 86 _ _ rfl _ _ rfl rfl (infsize _ _ _ _ _) (five_sz _ _ _ _ _ _ _ _ _ _) (all5 _ _ _ (owns_one hs).1 (owns_one ht).1) ?_); intro u2 hb2 hF lF) | ((with_reducible refine load_w ?_ 3 isAgg_int _ rfl _ _ rfl _ _ hF _ rfl ?_); (focus rfl)))
    go_ret
    exact ⟨rfl, hb1.trans (hb2.mono hb1.size)⟩
   ·have q2 : (form == 8) = false := by simp [h8]
    rw [q0, q1, q2]
    have p1 : (form != 7) = true := by simp [h7]
    have p2 : (form != 8) = true := by simp [h8]
    clear h0 h7 h8 q1 q2
    go_enter Tryz.func21, Tryz.ntmps21
    go_wp2_with (first | (go_at_call 22; refine (HOF.out _).mono ?_; rintro e u1 ⟨s, t, pl, rfl, hs, ht, hb1⟩) | ((with_reducible refine store_newk rfl 86 _ _ rfl _ _ rfl rfl (infsize _ _ _ _ _) (five_sz _ _ _ _ _ _ _ _ _ _) (all5 _ _ _ (owns_one hs).1 (owns_one ht).1) ?_); intro u2 hb2 hF lF) | ((with_reducible refine load_w ?_ 3 isAgg_int _ rfl _ _ rfl _ _ hF _ rfl ?_); (focus rfl)))
    go_ret
    exact ⟨rfl, hb1.trans (hb2.mono hb1.size)⟩
 ·have q0 : decide (64768 ≤ op) = false := by simp; omega
  rw [q0]
  clear h0
  go_enter Tryz.func21, Tryz.ntmps21
  go_wp2_with (first | (go_at_call 22; refine (HOF.out _).mono ?_; rintro e u1 ⟨s, t, pl, rfl, hs, ht, hb1⟩) | ((with_reducible refine store_newk rfl 86 _ _ rfl _ _ rfl rfl (infsize _ _ _ _ _) (five_sz _ _ _ _ _ _ _ _ _ _) (all5 _ _ _ (owns_one hs).1 (owns_one ht).1) ?_); intro u2 hb2 hF lF))
  go_ret
  exact ⟨rfl, hb1.trans (hb2.mono hb1.size)⟩
theorem of_row (op : Int) (r : Row) (w : World) (ho : -9223372036854775808 ≤ op ∧ op ≤ 9223372036854775807) (h : vrowAt op = some r) :
  Calls Tryz.prog 22 #[.int .i64 op] w fun e w' => ∃ (s t : Value) (pl : Bool), e = .returned (.tuple #[.agg #[.int .i64 r.form, .int .i64 r.lim, .bool pl, s, t], .bool true]) ∧ w'.ownsRow w.heap.size 3 1 s (tyIn r).length ((tyIn r).map (Value.int .i64)) ∧ w'.ownsRow w.heap.size 3 1 t (tyOut r).length ((tyOut r).map (Value.int .i64)) ∧ Below w.heap.size w w' := by
 refine (of_any op w ho).mono fun e w' hh => ?_
 obtain ⟨h1, h2⟩ := hh
 rcases ofis_row h1 with ⟨hn, _⟩ | ⟨q, pl, s, t, hq, rfl, hs, ht⟩
 ·rw [hn] at h; cases h
 ·rw [h] at hq; injection hq with hq; subst hq
  exact ⟨s, t, pl, rfl, hs, ht, h2⟩
theorem of_none (op : Int) (w : World) (ho : -9223372036854775808 ≤ op ∧ op ≤ 9223372036854775807) (h : vrowAt op = none) :
  Calls Tryz.prog 22 #[.int .i64 op] w fun e w' => e = .returned (.tuple #[.agg #[.int .i64 0, .int .i64 0, .bool false, .slice none 0 0, .slice none 0 0], .bool false]) ∧ Below w.heap.size w w' := by
 refine (of_any op w ho).mono fun e w' hh => ?_
 obtain ⟨h1, h2⟩ := hh
 rcases ofis_row h1 with ⟨_, rfl⟩ | ⟨q, pl, s, t, hq, _⟩
 ·exact ⟨rfl, h2⟩
 ·rw [h] at hq; cases hq
theorem is_k (op : Int) (w : World) (ho : -9223372036854775808 ≤ op ∧ op ≤ 9223372036854775807) :
  Calls Tryz.prog 21 #[.int .i64 op] w fun e w' => e = .returned (.bool (isB op)) ∧ Below w.heap.size w w' := by
 unfold isB
 cases h : vrowAt op with
 | none => exact is_none op w (fun W => of_none op W ho h)
 | some r => exact is_some op r.form r.lim _ _ w (fun W => of_row op r W ho h)
structure DoIs (B : Nat) (R : List Nat × Int) (e : Ending) (w' : World) : Prop where
 ex : ∃ rv, e = .returned (.tuple #[rv, .int .i64 R.2]) ∧ ((R.1 = [] ∧ rv = .slice none 0 0) ∨ (R.1 ≠ [] ∧ ∃ b, B ≤ b ∧ rv = .slice (some ⟨b, 0, none⟩) R.1.length R.1.length ∧ w'.heap[b]? = some (.cells (R.1.map fun (x : Nat) => Value.int .u64 (x : Int)).toArray 26 (0, 0))))
set_option maxRecDepth 100000 in
theorem do_no (op A B : Int) (lo hi : Nat) (L : Value) (hv : Value) (hs : List Nat) (w : World) (HIS : ∀ W, Calls Tryz.prog 21 #[.int .i64 op] W fun e w' => e = .returned (.bool false) ∧ Below W.heap.size W w') : Calls Tryz.prog 6 #[.agg #[.int .i64 op, .int .i64 A, .int .i64 B, .int .u64 (lo : Nat), .int .u64 (hi : Nat), L], hv] w fun e w' => e = .returned (.tuple #[.slice none 0 0, .int .i64 1]) ∧ Below w.heap.size w w' := by
 replace HIS := Lib.hid HIS
 go_enter Tryz.func6, Tryz.ntmps6
 go_wp2_with (first | (go_at_call 21; refine (HIS.out _).mono ?_; rintro e u0 ⟨rfl, hb0⟩; have hI := blk_keep (heap_alloc_new w (.cells #[.int .i64 op, .int .i64 A, .int .i64 B, .int .u64 (lo : Nat), .int .u64 (hi : Nat), L] 36)) hb0; have hZ := below_new (Below.refl w.heap.size w) (Nat.le_refl _) _ hb0; clear hb0))
 go_ret2
 exact ⟨rfl, hZ⟩
set_option maxRecDepth 100000 in
set_option maxHeartbeats 1000000 in
theorem do_err (op A B : Int) (lo hi : Nat) (L : Value) (hv : Value) (hs : List Nat) (w : World) (form lim : Int) (ti to : List Int) (HIS : ∀ W, Calls Tryz.prog 21 #[.int .i64 op] W fun e w' => e = .returned (.bool true) ∧ Below W.heap.size W w') (HOF : ∀ W, Calls Tryz.prog 22 #[.int .i64 op] W fun e w' => ∃ (s t : Value) (pl : Bool), e = .returned (.tuple #[.agg #[.int .i64 form, .int .i64 lim, .bool pl, s, t], .bool true]) ∧ w'.ownsRow W.heap.size 3 1 s ti.length (ti.map (Value.int .i64)) ∧ w'.ownsRow W.heap.size 3 1 t to.length (to.map (Value.int .i64)) ∧ Below W.heap.size W w') (hH : LView .u64 w hv (hs.map Nat.cast)) (hlt : ∀ x ∈ hs, x < 18446744073709551616) (hti : ti.length ≤ 100) (htr : ∀ t ∈ ti, 0 ≤ t ∧ t ≤ 255) (hTK : takeV ti hs = none) : Calls Tryz.prog 6 #[.agg #[.int .i64 op, .int .i64 A, .int .i64 B, .int .u64 (lo : Nat), .int .u64 (hi : Nat), L], hv] w fun e w' => e = .returned (.tuple #[.slice none 0 0, .int .i64 1]) ∧ Below w.heap.size w w' := by
 replace HIS := Lib.hid HIS
 replace HOF := Lib.hid HOF
 have HH := Lib.hid hH
 have HL := Lib.hid hlt
 have HTR := Lib.hid htr
 have HTK := Lib.hid hTK
 clear hH hlt htr hTK
 go_enter Tryz.func6, Tryz.ntmps6
 go_wp2_with (first | (go_at_call 21; refine (HIS.out _).mono ?_; rintro e u0 ⟨rfl, hb0⟩; have hI := blk_keep (heap_alloc_new w (.cells #[.int .i64 op, .int .i64 A, .int .i64 B, .int .u64 (lo : Nat), .int .u64 (hi : Nat), L] 36)) hb0; have hZ := below_new (Below.refl w.heap.size w) (Nat.le_refl _) _ hb0; clear hb0) | ((with_reducible refine load_w ?_ 3 isAgg_int _ rfl _ _ rfl _ _ hI _ rfl ?_); (focus rfl)) | (go_at_call 22; refine (HOF.out _).mono ?_; rintro e u1 ⟨s, t, pl, rfl, hss, hst, hb1⟩; replace hI := blk_keep hI hb1; replace hZ := hZ.trans (hb1.mono hZ.size); clear hb1) | ((with_reducible refine store_newk rfl 86 _ _ rfl _ _ rfl rfl (infsize _ _ _ _ _) (five_sz _ _ _ _ _ _ _ _ _ _) (all5 _ _ _ (owns_one hss).1 (owns_one hst).1) ?_); intro u2 hb2 hF lF; replace hI := blk_keep hI hb2; replace hZ := hZ.trans (hb2.mono hZ.size); have vT := (LView.of_own hss).below hb2; have vO := (LView.of_own hst).below hb2; clear hb2 hss hst lF) | ((with_reducible refine load_w ?_ 34 isAgg_slint _ rfl _ _ rfl _ _ hF _ rfl ?_); (focus rfl)) | (go_at_call 23; refine (take_k ti s hv hs u2 vT (HH.out.below hZ) HL.out hti HTR.out).mono ?_; rintro e u3 ⟨hb3, hn3, hs3⟩; obtain rfl := hn3 HTK.out; replace hZ := hZ.trans (hb3.mono hZ.size)))
 go_ret2
 exact ⟨rfl, hZ⟩
theorem own_cases {w : World} {B : Nat} {v : Value} {l : List Vec} (h : w.ownsRow B 23 16 v l.length (vcells l)) : l.length = 0 ∨ VSl w v l := by
 by_cases h0 : l.length = 0
 ·exact .inl h0
 ·exact .inr (VSl.of_own h (by omega))
set_option maxRecDepth 100000 in
set_option maxHeartbeats 2000000 in
theorem do_made_ok (op A B : Int) (lo hi : Nat) (L : Value) (hv : Value) (hs : List Nat) (w : World) (form lim : Int) (ti to : List Int) (HIS : ∀ W, Calls Tryz.prog 21 #[.int .i64 op] W fun e w' => e = .returned (.bool true) ∧ Below W.heap.size W w') (HOF : ∀ W, Calls Tryz.prog 22 #[.int .i64 op] W fun e w' => ∃ (s t : Value) (pl : Bool), e = .returned (.tuple #[.agg #[.int .i64 form, .int .i64 lim, .bool pl, s, t], .bool true]) ∧ w'.ownsRow W.heap.size 3 1 s ti.length (ti.map (Value.int .i64)) ∧ w'.ownsRow W.heap.size 3 1 t to.length (to.map (Value.int .i64)) ∧ Below W.heap.size W w') (hH : LView .u64 w hv (hs.map Nat.cast)) (hlt : ∀ x ∈ hs, x < 18446744073709551616) (hti : ti.length ≤ 100) (htr : ∀ t ∈ ti, 0 ≤ t ∧ t ≤ 255) (vs : List Vec) (hTK : takeV ti hs = some vs) (o0 : Int) (ho0 : to[0]? = some o0) (h123 : (o0 == 123) = true) (X : Vec) (E : Int) (HMA : ∀ (W : World) (sI sO vv : Value) (pl : Bool), LView .i64 W sI ti → (vs.length = 0 ∨ VSl W vv vs) → Calls Tryz.prog 25 #[.agg #[.int .i64 op, .int .i64 A, .int .i64 B, .int .u64 (lo : Nat), .int .u64 (hi : Nat), L], .agg #[.int .i64 form, .int .i64 lim, .bool pl, sI, sO], vv] W fun e w' => e = .returned (.tuple #[.agg (cells X), .int .i64 E]) ∧ Below W.heap.size W w') (hE : (E == 0) = true) : Calls Tryz.prog 6 #[.agg #[.int .i64 op, .int .i64 A, .int .i64 B, .int .u64 (lo : Nat), .int .u64 (hi : Nat), L], hv] w fun e w' => DoIs w.heap.size ([getN X 64 0, getN X 64 1], 0) e w' ∧ Below w.heap.size w w' := by
 replace HMA := Lib.hid HMA
 replace HIS := Lib.hid HIS
 replace HOF := Lib.hid HOF
 have HH := Lib.hid hH
 have HL := Lib.hid hlt
 have HTR := Lib.hid htr
 have HTK := Lib.hid hTK
 clear hH hlt htr hTK
 have hto := (List.getElem?_eq_some_iff.1 ho0).1
 have HO0 := Lib.hid ho0
 clear ho0
 go_enter Tryz.func6, Tryz.ntmps6
 go_wp2_with (first | (go_at_call 21; refine (HIS.out _).mono ?_; rintro e u0 ⟨rfl, hb0⟩; have hI := blk_keep (heap_alloc_new w (.cells #[.int .i64 op, .int .i64 A, .int .i64 B, .int .u64 (lo : Nat), .int .u64 (hi : Nat), L] 36)) hb0; have hZ := below_new (Below.refl w.heap.size w) (Nat.le_refl _) _ hb0; clear hb0) | ((with_reducible refine load_w ?_ 3 isAgg_int _ rfl _ _ rfl _ _ hI _ rfl ?_); (focus rfl)) | (go_at_call 22; refine (HOF.out _).mono ?_; rintro e u1 ⟨s, t, pl, rfl, hss, hst, hb1⟩; replace hI := blk_keep hI hb1; replace hZ := hZ.trans (hb1.mono hZ.size); clear hb1) | ((with_reducible refine store_newk rfl 86 _ _ rfl _ _ rfl rfl (infsize _ _ _ _ _) (five_sz _ _ _ _ _ _ _ _ _ _) (all5 _ _ _ (owns_one hss).1 (owns_one hst).1) ?_); intro u2 hb2 hF lF; replace hI := blk_keep hI hb2; replace hZ := hZ.trans (hb2.mono hZ.size); have vT := (LView.of_own hss).below hb2; have vO := (LView.of_own hst).below hb2; clear hb2 hss hst lF) | ((with_reducible refine load_w ?_ 34 isAgg_slint _ rfl _ _ rfl _ _ hF _ rfl ?_); (focus rfl)) | (go_at_call 23; refine (take_k ti s hv hs u2 vT (HH.out.below hZ) HL.out hti HTR.out).mono ?_; rintro e u3 ⟨hb3, hn3, hs3⟩; obtain ⟨vv, rfl, hov⟩ := hs3 vs HTK.out; replace hI := blk_keep hI hb3; replace hF := blk_keep hF hb3; replace vO := vO.below hb3; replace vT := vT.below hb3; replace hZ := hZ.trans (hb3.mono hZ.size); clear hb3 hn3 hs3; obtain ⟨ob, ooff, oc, rfl, hoc, hob, hox⟩ := vO.get 0 hto; have hc0 := hox 0 o0 HO0.out; clear hox) | (with_reducible refine ix1 rfl 34 size_si under_si _ _ rfl ob ooff _ _ rfl _ rfl 0 rfl hto ?_) | (with_reducible refine ld1 rfl 3 isAgg_int _ rfl _ rfl _ hc0 ?_) | (with_reducible refine Great.wpList_readTo rfl _ rfl _ (run_lin _ rfl w.heap.size rfl _ _ _ _ _ _ hI) ?_) | (with_reducible refine load_info rfl _ rfl _ rfl _ _ _ _ _ hF ?_) | (go_at_call 25; refine (HMA.out u3 _ _ _ _ vT (own_cases hov)).mono ?_; rintro e u4 ⟨rfl, hb4⟩; replace hZ := hZ.trans (hb4.mono hZ.size); clear hb4 hI hF vT vO hov) | (with_reducible refine store_vec rfl _ _ rfl u4.heap.size _ rfl rfl 0 (heap_new_zero _) ?_; intro u5 g5; replace hZ := below_store hZ (Nat.le_refl _) g5; have hx5 := g5.this; clear g5) | (with_reducible refine load_vec rfl _ rfl _ rfl _ hx5 ?_) | (go_at_call 5; refine (split_k X _).mono ?_; rintro e u6 ⟨rfl, hb6⟩; replace hZ := hZ.trans (hb6.mono hZ.size); clear hb6))
 go_ret2
 exact ⟨⟨_, rfl, .inr ⟨by simp, u6.heap.size + 1, by have := hZ.size; omega, rfl, by rw [heap_alloc2_new]; rfl⟩⟩, (hZ.alloc hZ.size _).alloc (by have := hZ.size; simp; omega) _⟩
set_option maxRecDepth 100000 in
set_option maxHeartbeats 2000000 in
theorem do_made_err (op A B : Int) (lo hi : Nat) (L : Value) (hv : Value) (hs : List Nat) (w : World) (form lim : Int) (ti to : List Int) (HIS : ∀ W, Calls Tryz.prog 21 #[.int .i64 op] W fun e w' => e = .returned (.bool true) ∧ Below W.heap.size W w') (HOF : ∀ W, Calls Tryz.prog 22 #[.int .i64 op] W fun e w' => ∃ (s t : Value) (pl : Bool), e = .returned (.tuple #[.agg #[.int .i64 form, .int .i64 lim, .bool pl, s, t], .bool true]) ∧ w'.ownsRow W.heap.size 3 1 s ti.length (ti.map (Value.int .i64)) ∧ w'.ownsRow W.heap.size 3 1 t to.length (to.map (Value.int .i64)) ∧ Below W.heap.size W w') (hH : LView .u64 w hv (hs.map Nat.cast)) (hlt : ∀ x ∈ hs, x < 18446744073709551616) (hti : ti.length ≤ 100) (htr : ∀ t ∈ ti, 0 ≤ t ∧ t ≤ 255) (vs : List Vec) (hTK : takeV ti hs = some vs) (o0 : Int) (ho0 : to[0]? = some o0) (h123 : (o0 == 123) = true) (X : Vec) (E : Int) (HMA : ∀ (W : World) (sI sO vv : Value) (pl : Bool), LView .i64 W sI ti → (vs.length = 0 ∨ VSl W vv vs) → Calls Tryz.prog 25 #[.agg #[.int .i64 op, .int .i64 A, .int .i64 B, .int .u64 (lo : Nat), .int .u64 (hi : Nat), L], .agg #[.int .i64 form, .int .i64 lim, .bool pl, sI, sO], vv] W fun e w' => e = .returned (.tuple #[.agg (cells X), .int .i64 E]) ∧ Below W.heap.size W w') (hE : (E == 0) = false) : Calls Tryz.prog 6 #[.agg #[.int .i64 op, .int .i64 A, .int .i64 B, .int .u64 (lo : Nat), .int .u64 (hi : Nat), L], hv] w fun e w' => e = .returned (.tuple #[.slice none 0 0, .int .i64 E]) ∧ Below w.heap.size w w' := by
 replace HMA := Lib.hid HMA
 replace HIS := Lib.hid HIS
 replace HOF := Lib.hid HOF
 have HH := Lib.hid hH
 have HL := Lib.hid hlt
 have HTR := Lib.hid htr
 have HTK := Lib.hid hTK
 clear hH hlt htr hTK
 have hto := (List.getElem?_eq_some_iff.1 ho0).1
 have HO0 := Lib.hid ho0
 clear ho0
 go_enter Tryz.func6, Tryz.ntmps6
 go_wp2_with (first | (go_at_call 21; refine (HIS.out _).mono ?_; rintro e u0 ⟨rfl, hb0⟩; have hI := blk_keep (heap_alloc_new w (.cells #[.int .i64 op, .int .i64 A, .int .i64 B, .int .u64 (lo : Nat), .int .u64 (hi : Nat), L] 36)) hb0; have hZ := below_new (Below.refl w.heap.size w) (Nat.le_refl _) _ hb0; clear hb0) | ((with_reducible refine load_w ?_ 3 isAgg_int _ rfl _ _ rfl _ _ hI _ rfl ?_); (focus rfl)) | (go_at_call 22; refine (HOF.out _).mono ?_; rintro e u1 ⟨s, t, pl, rfl, hss, hst, hb1⟩; replace hI := blk_keep hI hb1; replace hZ := hZ.trans (hb1.mono hZ.size); clear hb1) | ((with_reducible refine store_newk rfl 86 _ _ rfl _ _ rfl rfl (infsize _ _ _ _ _) (five_sz _ _ _ _ _ _ _ _ _ _) (all5 _ _ _ (owns_one hss).1 (owns_one hst).1) ?_); intro u2 hb2 hF lF; replace hI := blk_keep hI hb2; replace hZ := hZ.trans (hb2.mono hZ.size); have vT := (LView.of_own hss).below hb2; have vO := (LView.of_own hst).below hb2; clear hb2 hss hst lF) | ((with_reducible refine load_w ?_ 34 isAgg_slint _ rfl _ _ rfl _ _ hF _ rfl ?_); (focus rfl)) | (go_at_call 23; refine (take_k ti s hv hs u2 vT (HH.out.below hZ) HL.out hti HTR.out).mono ?_; rintro e u3 ⟨hb3, hn3, hs3⟩; obtain ⟨vv, rfl, hov⟩ := hs3 vs HTK.out; replace hI := blk_keep hI hb3; replace hF := blk_keep hF hb3; replace vO := vO.below hb3; replace vT := vT.below hb3; replace hZ := hZ.trans (hb3.mono hZ.size); clear hb3 hn3 hs3; obtain ⟨ob, ooff, oc, rfl, hoc, hob, hox⟩ := vO.get 0 hto; have hc0 := hox 0 o0 HO0.out; clear hox) | (with_reducible refine ix1 rfl 34 size_si under_si _ _ rfl ob ooff _ _ rfl _ rfl 0 rfl hto ?_) | (with_reducible refine ld1 rfl 3 isAgg_int _ rfl _ rfl _ hc0 ?_) | (with_reducible refine Great.wpList_readTo rfl _ rfl _ (run_lin _ rfl w.heap.size rfl _ _ _ _ _ _ hI) ?_) | (with_reducible refine load_info rfl _ rfl _ rfl _ _ _ _ _ hF ?_) | (go_at_call 25; refine (HMA.out u3 _ _ _ _ vT (own_cases hov)).mono ?_; rintro e u4 ⟨rfl, hb4⟩; replace hZ := hZ.trans (hb4.mono hZ.size); clear hb4 hI hF vT vO hov) | (with_reducible refine store_vec rfl _ _ rfl u4.heap.size _ rfl rfl 0 (heap_new_zero _) ?_; intro u5 g5; replace hZ := below_store hZ (Nat.le_refl _) g5; have hx5 := g5.this; clear g5) | (with_reducible refine load_vec rfl _ rfl _ rfl _ hx5 ?_) | (go_at_call 5; refine (split_k X _).mono ?_; rintro e u6 ⟨rfl, hb6⟩; replace hZ := hZ.trans (hb6.mono hZ.size); clear hb6))
 go_ret2
 exact ⟨rfl, hZ⟩
theorem do_isnil {B : Nat} {E : Int} {e : Ending} {w' : World} (h : e = .returned (.tuple #[.slice none 0 0, .int .i64 E])) : DoIs B ([], E) e w' := ⟨_, h, .inl ⟨rfl, rfl⟩⟩
end Go.Proofs.YtebpijlmeemfaaaGreatDoor
end
section
set_option maxRecDepth 100000
namespace Pl
open Go Go.Proofs.YtebpijlmeemfaaaGreatDoor
def nHalves (l : List Int) : Nat := l.foldr (fun t n => (if t = 123 then 2 else 1) + n) 0
def rowTwo (r : Row) : Bool := !rowIs r || !(nHalves (tyIn r) == 4) || ((tyIn r == [123, 123]) && ((tyOut r).getD 0 0 == 123) && !(r.form == 11) && !(r.form == 13))
theorem rows_two : rowsV.all rowTwo = true := by decide +kernel
theorem takeV_halves : ∀ (ts : List Int) (hs : List Nat) (vs : List Vec), takeV ts hs = some vs → hs.length = nHalves ts
 | [], [], vs, h => rfl
 | [], _ :: _, vs, h => by cases h
 | t :: ts, hs, vs, h => by
  have e : nHalves (t :: ts) = (if t = 123 then 2 else 1) + nHalves ts := rfl
  unfold takeV at h
  split at h
  ·rename_i ht
   match hs, h with
   | lo :: hi :: r, h =>
    simp only [Option.map_eq_some_iff] at h
    obtain ⟨a, ha, rfl⟩ := h
    rw [e, if_pos ht, ← takeV_halves ts r a ha]
    simp only [List.length_cons]
    omega
  ·rename_i ht
   split at h
   ·match hs, h with
    | lo :: r, h =>
     simp only [Option.map_eq_some_iff] at h
     obtain ⟨a, ha, rfl⟩ := h
     rw [e, if_neg ht, ← takeV_halves ts r a ha]
     simp only [List.length_cons]
     omega
   ·cases h
theorem rowTwo_of {op : Int} {r : Row} (h : vrowAt op = some r) (hb : isB op = true) (h4 : nHalves (tyIn r) = 4) : tyIn r = [123, 123] ∧ (tyOut r).getD 0 0 = 123 ∧ r.form ≠ 11 ∧ r.form ≠ 13 := by
 obtain ⟨hm, h1, h2⟩ := vrowAt_mem h
 unfold isB at hb
 rw [h] at hb
 simp only [Bool.and_eq_true, decide_eq_true_eq] at hb
 obtain ⟨hop, hr⟩ := hb
 unfold rowsOf at hm
 rw [if_pos hop] at hm
 have hk := List.all_eq_true.1 rows_two r hm
 unfold rowTwo at hk
 rw [hr, h4] at hk
 simp only [Bool.not_true, Bool.false_or, beq_self_eq_true, Bool.and_eq_true, Bool.not_eq_true', beq_iff_eq, beq_eq_false_iff_ne] at hk
 exact ⟨hk.1.1.1, hk.1.1.2, hk.1.2, hk.2⟩
end Pl
namespace Go.Proofs.YtebpijlmeemfaaaGreatDoor
open Go.RowKit Pl
theorem made_two (op A B form lim : Int) (lo hi : Nat) (L sI sO vv : Value) (pl : Bool) (v0 v1 : Vec) (w : World) (ho : 64768 ≤ op ∧ op ≤ 65023) (hT : LView .i64 w sI [123, 123]) (hV : VSl w vv [v0, v1]) (c11 : form ≠ 11) (c13 : form ≠ 13) :
  Calls Tryz.prog 25 #[.agg #[.int .i64 op, .int .i64 A, .int .i64 B, .int .u64 (lo : Nat), .int .u64 (hi : Nat), L], .agg #[.int .i64 form, .int .i64 lim, .bool pl, sI, sO], vv] w fun e w' => e = .returned (.tuple #[.agg (cells (madeV op A lo hi form [123, 123] [v0, v1]).1), .int .i64 (madeV op A lo hi form [123, 123] [v0, v1]).2]) ∧ Below w.heap.size w w' := by
 have hop : -9223372036854775808 ≤ op ∧ op ≤ 9223372036854775807 := by omega
 have hV' : [v0, v1].length = 0 ∨ VSl w vv [v0, v1] := .inr hV
 unfold madeV
 rw [if_neg c11]
 by_cases c12 : form = 12
 ·rw [if_pos c12]
  exact made_shuffle op A B form lim lo hi L sI sO vv pl [123, 123] [v0, v1] w ho hT hV' _ rfl _ rfl (beq_f c11) (beq_t c12)
 ·rw [if_neg c12, if_neg c13]
  by_cases c14 : op = 64782
  ·rw [if_pos c14]
   exact made_swizzle op A B form lim lo hi L sI sO vv pl [123, 123] [v0, v1] w ho hT hV' _ rfl _ rfl (beq_f c11) (beq_f c12) (beq_f c13) (beq_t c14)
  ·rw [if_neg c14, if_neg (show ¬ ([123, 123] : List Int).getD 0 0 ≠ 123 by decide)]
   have HB : ∀ W, Below w.heap.size w W → Calls Tryz.prog 85 #[.int .i64 op, vv] W fun e w' => e = .returned (.tuple #[.agg (cells (bitsL op [v0, v1]).1), .int .i64 (bitsL op [v0, v1]).2]) ∧ Below W.heap.size W w' := fun W hW =>
    bits_p op vv [v0, v1] W hop (hV.below hW) (by simp)
   by_cases cB : (bitsL op [v0, v1]).2 = 0
   ·rw [if_pos cB]
    exact made_bits op A B form lim lo hi L sI sO vv pl [123, 123] [v0, v1] w ho hT hV' _ rfl (beq_f c11) (beq_f c12) (beq_f c13) (beq_f c14) _ rfl (beq_t rfl) _ _ HB (beq_t cB)
   ·rw [if_neg cB, if_neg (show ¬ [v0, v1].length = 1 by simp), if_neg (show ¬ ([123, 123] : List Int).getD 1 0 = 127 by decide)]
    have hl : (([v0, v1].length : Int) == 1) = false := by rfl
    by_cases cN : (binV op v0 v1).2 = 0
    ·rw [if_pos (show (binV op ([v0, v1].getD 0 0) ([v0, v1].getD 1 0)).2 = 0 from cN)]
     exact made_bin op A B form lim lo hi L sI sO vv pl [123, 123] [v0, v1] w ho hT hV' _ rfl _ rfl (beq_f c11) (beq_f c12) (beq_f c13) (beq_f c14) _ rfl (beq_t rfl) _ _ HB (beq_f cB) hl _ rfl (beq_f (by decide)) _ _ (fun W => bin_p op _ _ W hop) (beq_t cN)
    ·rw [if_neg (show ¬ (binV op ([v0, v1].getD 0 0) ([v0, v1].getD 1 0)).2 = 0 from cN)]
     by_cases cC : (cmpV op v0 v1).2 = 0
     ·rw [if_pos (show (cmpV op ([v0, v1].getD 0 0) ([v0, v1].getD 1 0)).2 = 0 from cC)]
      exact made_cmp op A B form lim lo hi L sI sO vv pl [123, 123] [v0, v1] w ho hT hV' _ rfl _ rfl (beq_f c11) (beq_f c12) (beq_f c13) (beq_f c14) _ rfl (beq_t rfl) _ _ HB (beq_f cB) hl _ rfl (beq_f (by decide)) _ _ (fun W => bin_p op _ _ W hop) (beq_f cN) _ _ (fun W => cmp_any op _ _ W hop) (beq_t cC)
     ·rw [if_neg (show ¬ (cmpV op ([v0, v1].getD 0 0) ([v0, v1].getD 1 0)).2 = 0 from cC)]
      exact made_wbin op A B form lim lo hi L sI sO vv pl [123, 123] [v0, v1] w ho hT hV' _ rfl _ rfl (beq_f c11) (beq_f c12) (beq_f c13) (beq_f c14) _ rfl (beq_t rfl) _ _ HB (beq_f cB) hl _ rfl (beq_f (by decide)) _ _ (fun W => bin_p op _ _ W hop) (beq_f cN) _ _ (fun W => cmp_any op _ _ W hop) (beq_f cC) _ _ (fun W => bin_any op _ _ W hop)
theorem do_two (op A B : Int) (lo hi : Nat) (L : Value) (hv : Value) (hs : List Nat) (h4 : hs.length = 4) (w : World) (ho : -9223372036854775808 ≤ op ∧ op ≤ 9223372036854775807) (hH : LView .u64 w hv (hs.map Nat.cast)) (hlt : ∀ x ∈ hs, x < 18446744073709551616) :
  Calls Tryz.prog 6 #[.agg #[.int .i64 op, .int .i64 A, .int .i64 B, .int .u64 (lo : Nat), .int .u64 (hi : Nat), L], hv] w fun e w' => DoIs w.heap.size (doV op A lo hi hs) e w' ∧ Below w.heap.size w w' := by
 by_cases hb : isB op = true
 ·cases hr : vrowAt op with
  | none => unfold isB at hb; rw [hr] at hb; cases hb
  | some r =>
   have fit := rowFit hr hb
   rw [doV_row hr hb]
   have HIS : ∀ W, Calls Tryz.prog 21 #[.int .i64 op] W fun e w' => e = .returned (.bool true) ∧ Below W.heap.size W w' := fun W => hb ▸ is_k op W ho
   have HOF := fun W => of_row op r W ho hr
   have ht : (tyIn r).length ≤ 100 := by have := fit.len; omega
   cases hT : takeV (tyIn r) hs with
   | none =>
    rw [doR_err hT]
    exact (do_err op A B lo hi L hv hs w _ _ _ _ HIS HOF hH hlt ht fit.tys hT).mono fun e w' h => ⟨do_isnil h.1, h.2⟩
   | some vs =>
    have hl := takeV_len _ _ _ hT
    obtain ⟨hty, h123, c11, c13⟩ := rowTwo_of hr hb (by rw [← takeV_halves _ _ _ hT, h4])
    have g0 := getD_some (tyOut r) 0 0 (by rw [fit.out]; decide)
    unfold doR
    rw [hT]
    dsimp only
    rw [if_pos h123]
    have HMA : ∀ (W : World) (sI sO vv : Value) (pl : Bool), LView .i64 W sI (tyIn r) → (vs.length = 0 ∨ VSl W vv vs) → Calls Tryz.prog 25 #[.agg #[.int .i64 op, .int .i64 A, .int .i64 B, .int .u64 (lo : Nat), .int .u64 (hi : Nat), L], .agg #[.int .i64 r.form, .int .i64 r.lim, .bool pl, sI, sO], vv] W fun e w' => e = .returned (.tuple #[.agg (cells (madeV op A lo hi r.form (tyIn r) vs).1), .int .i64 (madeV op A lo hi r.form (tyIn r) vs).2]) ∧ Below W.heap.size W w' := fun W sI sO vv pl h1 h2 => by
     rw [hty] at h1 hl ⊢
     match vs, hl, h2 with
     | [v0, v1], _, h2 => exact made_two op A B r.form r.lim lo hi L sI sO vv pl v0 v1 W fit.range h1 (h2.resolve_left (by simp)) c11 c13
    unfold doM
    by_cases hE : (madeV op A lo hi r.form (tyIn r) vs).2 = 0
    ·rw [if_pos hE]
     exact do_made_ok op A B lo hi L hv hs w _ _ _ _ HIS HOF hH hlt ht fit.tys vs hT _ g0 (beq_t h123) _ _ HMA (beq_t hE)
    ·rw [if_neg hE]
     exact (do_made_err op A B lo hi L hv hs w _ _ _ _ HIS HOF hH hlt ht fit.tys vs hT _ g0 (beq_t h123) _ _ HMA (beq_f hE)).mono fun e w' h => ⟨do_isnil h.1, h.2⟩
 ·have hb' : isB op = false := by simpa using hb
  rw [doV_no hb']
  exact (do_no op A B lo hi L hv hs w (fun W => hb' ▸ is_k op W ho)).mono fun e w' h => ⟨do_isnil h.1, h.2⟩
end Go.Proofs.YtebpijlmeemfaaaGreatDoor
end
section
set_option maxRecDepth 100000
namespace Ln
open Pl
def hB (v : Vec) (j : Nat) : B := BitVec.ofNat 64 (getN v 64 j)
theorem hB_n (v : Vec) (j : Nat) : (hB v j).toNat = getN v 64 j := by
 unfold hB
 rw [BitVec.toNat_ofNat, Nat.mod_eq_of_lt (getN_lt v 64 j)]
theorem ln_hB {w n : Nat} (h : WN w n) (v : Vec) (j : Nat) {i : Nat} (hi : i < n) : ln w i (hB v j) = getN v w (j * n + i) := by
 apply Nat.eq_of_testBit_eq; intro r
 have e : w * (j * n + i) = 64 * j + w * i := by rw [Nat.mul_add, Nat.mul_comm j n, ← Nat.mul_assoc, h.mul]
 have hl : w * i + w ≤ 64 := by
  have h2 : w * (i + 1) ≤ w * n := Nat.mul_le_mul_left _ hi
  rw [h.mul] at h2
  exact h2
 rw [ln_bit, hB_n]
 unfold getN
 rw [testBit_bitsAt, testBit_bitsAt, e, Nat.add_assoc]
 by_cases hr : r < w
 ·rw [decide_eq_true (show w * i + r < 64 by omega), decide_eq_true hr]; simp
 ·rw [decide_eq_false hr]; simp
theorem half_of {w n : Nat} (h : WN w n) (V : Vec) (j : Nat) (x : B) (hx : ∀ i, i < n → ln w i x = getN V w (j * n + i)) : x.toNat = getN V 64 j := by
 rw [← hB_n]
 exact congrArg BitVec.toNat (ln_ext h.mul fun i hi => by rw [hx i hi, ln_hB h V j hi])
def hvs (a b : Vec) : Nat → B := hv (hB a 0) (hB a 1) (hB b 0) (hB b 1)
theorem two_cases {q : Nat} (h : q < 2) : q = 0 ∨ q = 1 := by omega
theorem lv_a {w n : Nat} (h : WN w n) (a b : Vec) {i : Nat} (hi : i < 2 * n) : lv w (hvs a b) 0 i = getN a w i := by
 have hn := h.npos
 unfold lv
 rw [h.div]
 have hd := Nat.div_add_mod i n
 have hm := Nat.mod_lt i hn
 have h2 : i / n < 2 := (Nat.div_lt_iff_lt_mul hn).2 (by omega)
 have e : hvs a b (0 + i / n) = hB a (i / n) := by
  rcases two_cases h2 with q | q <;> rw [q] <;> rfl
 rw [e, ln_hB h a (i / n) hm, Nat.mul_comm, hd]
theorem lv_b {w n : Nat} (h : WN w n) (a b : Vec) {i : Nat} (hi : i < 2 * n) : lv w (hvs a b) 2 i = getN b w i := by
 have hn := h.npos
 unfold lv
 rw [h.div]
 have hd := Nat.div_add_mod i n
 have hm := Nat.mod_lt i hn
 have h2 : i / n < 2 := (Nat.div_lt_iff_lt_mul hn).2 (by omega)
 have e : hvs a b (2 + i / n) = hB b (i / n) := by
  rcases two_cases h2 with q | q <;> rw [q] <;> rfl
 rw [e, ln_hB h b (i / n) hm, Nat.mul_comm, hd]
def specK (d : Kd) (a b : Vec) : Vec :=
 match d with
 | .shuf => buildOn 0 8 (shufF (joinV 0 0) a b) 16
 | .swiz => buildOn 0 8 (swizF a b) 16
 | .q15 => buildOn 0 16 (q15N a b) 8
 | .dot => buildOn 0 32 (dotN a b) 4
 | .nar w lo hi => nbuild w (64 / w) (holdN (BitVec.ofNat 64 lo).toInt (BitVec.ofNat 64 hi).toInt (2 * w) a) (holdN (BitVec.ofNat 64 lo).toInt (BitVec.ofNat 64 hi).toInt (2 * w) b) (64 / w)
 | .ext w c => buildOn 0 (2 * w) (mulN w c a b) (64 / w)
 | .bit i => bitV (77 + i) a b b
 | .cmp w kk => buildOn 0 w (mskN w (kk : Int) a b) (128 / w)
 | .ar w kk => vb w kk a b
def specV (k : Nat) (a b : Vec) : Vec := specK (kdOf k) a b
def okW (w : Nat) : Bool := w == 8 || w == 16 || w == 32 || w == 64
def okK : Kd → Bool
 | .nar w _ _ => w == 8 || w == 16
 | .ext w _ => w == 8 || w == 16 || w == 32
 | .bit i => i == 1 || i == 2 || i == 3 || i == 4
 | .cmp w kk => okW w && Nat.blt kk 10
 | .ar w kk => okW w && (kk == 14 || kk == 15 || kk == 16 || kk == 17 || kk == 18 || kk == 19 || kk == 21 || kk == 22 || kk == 23 || kk == 24 || kk == 25 || kk == 27)
 | _ => true
theorem cmp_lane {w n : Nat} (h : WN w n) (kk : Nat) (hk : kk < 10) (x y : Nat) (hx : x < 2 ^ w) (hy : y < 2 ^ w) : holdC (kk : Int) (sgn w x) (sgn w y) = cmpP w kk x y := by
 have e : ∀ z, sgn w z = sg w z := fun _ => rfl
 rw [e, e]
 unfold cmpP holdC
 have hb : ∀ p q : Bool, (p = true ↔ q = true) → p = q := fun p q => Bool.eq_iff_iff.2
 rcases h with ⟨rfl, _⟩ | ⟨rfl, _⟩ | ⟨rfl, _⟩ | ⟨rfl, _⟩ <;>
 ·match kk, hk with
  | 0, _ | 1, _ | 2, _ | 3, _ | 4, _ | 5, _ | 6, _ | 7, _ | 8, _ | 9, _ => ?_
  all_goals
   refine hb _ _ ?_
   simp [uns, sg] at hx hy ⊢
   try ((repeat' split) <;> omega)
theorem cmp_half {w n : Nat} (h : WN w n) (kk : Nat) (hk : kk < 10) (a b : Vec) (j : Nat) (hj : j < 2) : (cmpF w kk (hB a j) (hB b j)).toNat = getN (buildOn 0 w (mskN w (kk : Int) a b) (128 / w)) 64 j :=
 half_of h _ j _ fun i hi => by
  have hin : j * n + i < 2 * n := by rcases (show j = 0 ∨ j = 1 by omega) with rfl | rfl <;> omega
  rw [ln_cmpF h _ _ _ hk hi, ln_hB h a j hi, ln_hB h b j hi, getN_buildOn _ _ _ _ _ (Nat.le_refl _), if_pos (by rw [h.div2]; exact hin)]
  unfold mskN
  rw [cmp_lane h kk hk _ _ (getN_lt ..) (getN_lt ..)]
  cases cmpP w kk (getN a w (j * n + i)) (getN b w (j * n + i))
  ·simp [TB]
  ·rcases h with ⟨rfl, _⟩ | ⟨rfl, _⟩ | ⟨rfl, _⟩ | ⟨rfl, _⟩ <;> rfl
set_option maxHeartbeats 4000000 in
theorem ar_lane_8 (kk : Nat) (hk : kk = 14 ∨ kk = 15 ∨ kk = 16 ∨ kk = 17 ∨ kk = 18 ∨ kk = 19 ∨ kk = 21 ∨ kk = 22 ∨ kk = 23 ∨ kk = 24 ∨ kk = 25 ∨ kk = 27) (x y : Nat) (hx : x < 256) (hy : y < 256) : arN 8 kk x y = Pl.u64 (laneZ 8 kk x y (sgn 8 x) (sgn 8 y)) % 2 ^ 8 := by
 have hs : (x < 128 ∧ sg 8 x = x) ∨ (128 ≤ x ∧ sg 8 x = (x : Int) - 256) := by unfold sg; simp only [Nat.reduceSub, Nat.reducePow, Int.reducePow]; split <;> omega
 have ht : (y < 128 ∧ sg 8 y = y) ∨ (128 ≤ y ∧ sg 8 y = (y : Int) - 256) := by unfold sg; simp only [Nat.reduceSub, Nat.reducePow, Int.reducePow]; split <;> omega
 have em : ((x : Int) * (y : Int)) = ((x * y : Nat) : Int) := by push_cast; rfl
 rcases hk with rfl | rfl | rfl | rfl | rfl | rfl | rfl | rfl | rfl | rfl | rfl | rfl
 ·show (x + y) % 256 = Pl.u64 ((x : Int) + y) % 256
  unfold Pl.u64; generalize sg 8 x = s at *; generalize sg 8 y = t at *; (repeat' split) <;> omega
 ·show (if 0 ≤ min (max (sg 8 x + sg 8 y) (-128)) (128 - 1) then (min (max (sg 8 x + sg 8 y) (-128)) (128 - 1)).toNat else (min (max (sg 8 x + sg 8 y) (-128)) (128 - 1) + 256).toNat) = Pl.u64 (min (max (sg 8 x + sg 8 y) (-128)) (128 - 1)) % 256
  unfold Pl.u64; generalize sg 8 x = s at *; generalize sg 8 y = t at *; (repeat' split) <;> omega
 ·show min (x + y) (256 - 1) = Pl.u64 (min ((x : Int) + y) (256 - 1)) % 256
  unfold Pl.u64; generalize sg 8 x = s at *; generalize sg 8 y = t at *; (repeat' split) <;> omega
 ·show (x + (256 - y)) % 256 = Pl.u64 ((x : Int) - y) % 256
  unfold Pl.u64; generalize sg 8 x = s at *; generalize sg 8 y = t at *; (repeat' split) <;> omega
 ·show (if 0 ≤ min (max (sg 8 x - sg 8 y) (-128)) (128 - 1) then (min (max (sg 8 x - sg 8 y) (-128)) (128 - 1)).toNat else (min (max (sg 8 x - sg 8 y) (-128)) (128 - 1) + 256).toNat) = Pl.u64 (min (max (sg 8 x - sg 8 y) (-128)) (128 - 1)) % 256
  unfold Pl.u64; generalize sg 8 x = s at *; generalize sg 8 y = t at *; (repeat' split) <;> omega
 ·show x - y = Pl.u64 ((x : Int) - ((min x y : Nat) : Int)) % 256
  unfold Pl.u64; generalize sg 8 x = s at *; generalize sg 8 y = t at *; (repeat' split) <;> omega
 ·show x * y % 256 = Pl.u64 ((x : Int) * y) % 256
  rw [em]; unfold Pl.u64; omega
 ·show (if sg 8 x < sg 8 y then x else y) = Pl.u64 (min (sg 8 x) (sg 8 y)) % 256
  unfold Pl.u64; generalize sg 8 x = s at *; generalize sg 8 y = t at *; (repeat' split) <;> omega
 ·show (if x < y then x else y) = Pl.u64 (min (x : Int) y) % 256
  unfold Pl.u64; generalize sg 8 x = s at *; generalize sg 8 y = t at *; (repeat' split) <;> omega
 ·show (if sg 8 x < sg 8 y then y else x) = Pl.u64 (max (sg 8 x) (sg 8 y)) % 256
  unfold Pl.u64; generalize sg 8 x = s at *; generalize sg 8 y = t at *; (repeat' split) <;> omega
 ·show (if x < y then y else x) = Pl.u64 (max (x : Int) y) % 256
  unfold Pl.u64; generalize sg 8 x = s at *; generalize sg 8 y = t at *; (repeat' split) <;> omega
 ·show (x + y + 1) / 2 = Pl.u64 (((x : Int) + y + 1) / 2) % 256
  unfold Pl.u64; generalize sg 8 x = s at *; generalize sg 8 y = t at *; (repeat' split) <;> omega
set_option maxHeartbeats 4000000 in
theorem ar_lane_16 (kk : Nat) (hk : kk = 14 ∨ kk = 15 ∨ kk = 16 ∨ kk = 17 ∨ kk = 18 ∨ kk = 19 ∨ kk = 21 ∨ kk = 22 ∨ kk = 23 ∨ kk = 24 ∨ kk = 25 ∨ kk = 27) (x y : Nat) (hx : x < 65536) (hy : y < 65536) : arN 16 kk x y = Pl.u64 (laneZ 16 kk x y (sgn 16 x) (sgn 16 y)) % 2 ^ 16 := by
 have hs : (x < 32768 ∧ sg 16 x = x) ∨ (32768 ≤ x ∧ sg 16 x = (x : Int) - 65536) := by unfold sg; simp only [Nat.reduceSub, Nat.reducePow, Int.reducePow]; split <;> omega
 have ht : (y < 32768 ∧ sg 16 y = y) ∨ (32768 ≤ y ∧ sg 16 y = (y : Int) - 65536) := by unfold sg; simp only [Nat.reduceSub, Nat.reducePow, Int.reducePow]; split <;> omega
 have em : ((x : Int) * (y : Int)) = ((x * y : Nat) : Int) := by push_cast; rfl
 rcases hk with rfl | rfl | rfl | rfl | rfl | rfl | rfl | rfl | rfl | rfl | rfl | rfl
 ·show (x + y) % 65536 = Pl.u64 ((x : Int) + y) % 65536
  unfold Pl.u64; generalize sg 16 x = s at *; generalize sg 16 y = t at *; (repeat' split) <;> omega
 ·show (if 0 ≤ min (max (sg 16 x + sg 16 y) (-32768)) (32768 - 1) then (min (max (sg 16 x + sg 16 y) (-32768)) (32768 - 1)).toNat else (min (max (sg 16 x + sg 16 y) (-32768)) (32768 - 1) + 65536).toNat) = Pl.u64 (min (max (sg 16 x + sg 16 y) (-32768)) (32768 - 1)) % 65536
  unfold Pl.u64; generalize sg 16 x = s at *; generalize sg 16 y = t at *; (repeat' split) <;> omega
 ·show min (x + y) (65536 - 1) = Pl.u64 (min ((x : Int) + y) (65536 - 1)) % 65536
  unfold Pl.u64; generalize sg 16 x = s at *; generalize sg 16 y = t at *; (repeat' split) <;> omega
 ·show (x + (65536 - y)) % 65536 = Pl.u64 ((x : Int) - y) % 65536
  unfold Pl.u64; generalize sg 16 x = s at *; generalize sg 16 y = t at *; (repeat' split) <;> omega
 ·show (if 0 ≤ min (max (sg 16 x - sg 16 y) (-32768)) (32768 - 1) then (min (max (sg 16 x - sg 16 y) (-32768)) (32768 - 1)).toNat else (min (max (sg 16 x - sg 16 y) (-32768)) (32768 - 1) + 65536).toNat) = Pl.u64 (min (max (sg 16 x - sg 16 y) (-32768)) (32768 - 1)) % 65536
  unfold Pl.u64; generalize sg 16 x = s at *; generalize sg 16 y = t at *; (repeat' split) <;> omega
 ·show x - y = Pl.u64 ((x : Int) - ((min x y : Nat) : Int)) % 65536
  unfold Pl.u64; generalize sg 16 x = s at *; generalize sg 16 y = t at *; (repeat' split) <;> omega
 ·show x * y % 65536 = Pl.u64 ((x : Int) * y) % 65536
  rw [em]; unfold Pl.u64; omega
 ·show (if sg 16 x < sg 16 y then x else y) = Pl.u64 (min (sg 16 x) (sg 16 y)) % 65536
  unfold Pl.u64; generalize sg 16 x = s at *; generalize sg 16 y = t at *; (repeat' split) <;> omega
 ·show (if x < y then x else y) = Pl.u64 (min (x : Int) y) % 65536
  unfold Pl.u64; generalize sg 16 x = s at *; generalize sg 16 y = t at *; (repeat' split) <;> omega
 ·show (if sg 16 x < sg 16 y then y else x) = Pl.u64 (max (sg 16 x) (sg 16 y)) % 65536
  unfold Pl.u64; generalize sg 16 x = s at *; generalize sg 16 y = t at *; (repeat' split) <;> omega
 ·show (if x < y then y else x) = Pl.u64 (max (x : Int) y) % 65536
  unfold Pl.u64; generalize sg 16 x = s at *; generalize sg 16 y = t at *; (repeat' split) <;> omega
 ·show (x + y + 1) / 2 = Pl.u64 (((x : Int) + y + 1) / 2) % 65536
  unfold Pl.u64; generalize sg 16 x = s at *; generalize sg 16 y = t at *; (repeat' split) <;> omega
set_option maxHeartbeats 4000000 in
theorem ar_lane_32 (kk : Nat) (hk : kk = 14 ∨ kk = 15 ∨ kk = 16 ∨ kk = 17 ∨ kk = 18 ∨ kk = 19 ∨ kk = 21 ∨ kk = 22 ∨ kk = 23 ∨ kk = 24 ∨ kk = 25 ∨ kk = 27) (x y : Nat) (hx : x < 4294967296) (hy : y < 4294967296) : arN 32 kk x y = Pl.u64 (laneZ 32 kk x y (sgn 32 x) (sgn 32 y)) % 2 ^ 32 := by
 have hs : (x < 2147483648 ∧ sg 32 x = x) ∨ (2147483648 ≤ x ∧ sg 32 x = (x : Int) - 4294967296) := by unfold sg; simp only [Nat.reduceSub, Nat.reducePow, Int.reducePow]; split <;> omega
 have ht : (y < 2147483648 ∧ sg 32 y = y) ∨ (2147483648 ≤ y ∧ sg 32 y = (y : Int) - 4294967296) := by unfold sg; simp only [Nat.reduceSub, Nat.reducePow, Int.reducePow]; split <;> omega
 have em : ((x : Int) * (y : Int)) = ((x * y : Nat) : Int) := by push_cast; rfl
 rcases hk with rfl | rfl | rfl | rfl | rfl | rfl | rfl | rfl | rfl | rfl | rfl | rfl
 ·show (x + y) % 4294967296 = Pl.u64 ((x : Int) + y) % 4294967296
  unfold Pl.u64; generalize sg 32 x = s at *; generalize sg 32 y = t at *; (repeat' split) <;> omega
 ·show (if 0 ≤ min (max (sg 32 x + sg 32 y) (-2147483648)) (2147483648 - 1) then (min (max (sg 32 x + sg 32 y) (-2147483648)) (2147483648 - 1)).toNat else (min (max (sg 32 x + sg 32 y) (-2147483648)) (2147483648 - 1) + 4294967296).toNat) = Pl.u64 (min (max (sg 32 x + sg 32 y) (-2147483648)) (2147483648 - 1)) % 4294967296
  unfold Pl.u64; generalize sg 32 x = s at *; generalize sg 32 y = t at *; (repeat' split) <;> omega
 ·show min (x + y) (4294967296 - 1) = Pl.u64 (min ((x : Int) + y) (4294967296 - 1)) % 4294967296
  unfold Pl.u64; generalize sg 32 x = s at *; generalize sg 32 y = t at *; (repeat' split) <;> omega
 ·show (x + (4294967296 - y)) % 4294967296 = Pl.u64 ((x : Int) - y) % 4294967296
  unfold Pl.u64; generalize sg 32 x = s at *; generalize sg 32 y = t at *; (repeat' split) <;> omega
 ·show (if 0 ≤ min (max (sg 32 x - sg 32 y) (-2147483648)) (2147483648 - 1) then (min (max (sg 32 x - sg 32 y) (-2147483648)) (2147483648 - 1)).toNat else (min (max (sg 32 x - sg 32 y) (-2147483648)) (2147483648 - 1) + 4294967296).toNat) = Pl.u64 (min (max (sg 32 x - sg 32 y) (-2147483648)) (2147483648 - 1)) % 4294967296
  unfold Pl.u64; generalize sg 32 x = s at *; generalize sg 32 y = t at *; (repeat' split) <;> omega
 ·show x - y = Pl.u64 ((x : Int) - ((min x y : Nat) : Int)) % 4294967296
  unfold Pl.u64; generalize sg 32 x = s at *; generalize sg 32 y = t at *; (repeat' split) <;> omega
 ·show x * y % 4294967296 = Pl.u64 ((x : Int) * y) % 4294967296
  rw [em]; unfold Pl.u64; omega
 ·show (if sg 32 x < sg 32 y then x else y) = Pl.u64 (min (sg 32 x) (sg 32 y)) % 4294967296
  unfold Pl.u64; generalize sg 32 x = s at *; generalize sg 32 y = t at *; (repeat' split) <;> omega
 ·show (if x < y then x else y) = Pl.u64 (min (x : Int) y) % 4294967296
  unfold Pl.u64; generalize sg 32 x = s at *; generalize sg 32 y = t at *; (repeat' split) <;> omega
 ·show (if sg 32 x < sg 32 y then y else x) = Pl.u64 (max (sg 32 x) (sg 32 y)) % 4294967296
  unfold Pl.u64; generalize sg 32 x = s at *; generalize sg 32 y = t at *; (repeat' split) <;> omega
 ·show (if x < y then y else x) = Pl.u64 (max (x : Int) y) % 4294967296
  unfold Pl.u64; generalize sg 32 x = s at *; generalize sg 32 y = t at *; (repeat' split) <;> omega
 ·show (x + y + 1) / 2 = Pl.u64 (((x : Int) + y + 1) / 2) % 4294967296
  unfold Pl.u64; generalize sg 32 x = s at *; generalize sg 32 y = t at *; (repeat' split) <;> omega
set_option maxHeartbeats 4000000 in
theorem ar_lane_64 (kk : Nat) (hk : kk = 14 ∨ kk = 15 ∨ kk = 16 ∨ kk = 17 ∨ kk = 18 ∨ kk = 19 ∨ kk = 21 ∨ kk = 22 ∨ kk = 23 ∨ kk = 24 ∨ kk = 25 ∨ kk = 27) (x y : Nat) (hx : x < 18446744073709551616) (hy : y < 18446744073709551616) : arN 64 kk x y = Pl.u64 (laneZ 64 kk x y (sgn 64 x) (sgn 64 y)) % 2 ^ 64 := by
 have hs : (x < 9223372036854775808 ∧ sg 64 x = x) ∨ (9223372036854775808 ≤ x ∧ sg 64 x = (x : Int) - 18446744073709551616) := by unfold sg; simp only [Nat.reduceSub, Nat.reducePow, Int.reducePow]; split <;> omega
 have ht : (y < 9223372036854775808 ∧ sg 64 y = y) ∨ (9223372036854775808 ≤ y ∧ sg 64 y = (y : Int) - 18446744073709551616) := by unfold sg; simp only [Nat.reduceSub, Nat.reducePow, Int.reducePow]; split <;> omega
 have em : ((x : Int) * (y : Int)) = ((x * y : Nat) : Int) := by push_cast; rfl
 rcases hk with rfl | rfl | rfl | rfl | rfl | rfl | rfl | rfl | rfl | rfl | rfl | rfl
 ·show (x + y) % 18446744073709551616 = Pl.u64 ((x : Int) + y) % 18446744073709551616
  unfold Pl.u64; generalize sg 64 x = s at *; generalize sg 64 y = t at *; (repeat' split) <;> omega
 ·show (if 0 ≤ min (max (sg 64 x + sg 64 y) (-9223372036854775808)) (9223372036854775808 - 1) then (min (max (sg 64 x + sg 64 y) (-9223372036854775808)) (9223372036854775808 - 1)).toNat else (min (max (sg 64 x + sg 64 y) (-9223372036854775808)) (9223372036854775808 - 1) + 18446744073709551616).toNat) = Pl.u64 (min (max (sg 64 x + sg 64 y) (-9223372036854775808)) (9223372036854775808 - 1)) % 18446744073709551616
  unfold Pl.u64; generalize sg 64 x = s at *; generalize sg 64 y = t at *; (repeat' split) <;> omega
 ·show min (x + y) (18446744073709551616 - 1) = Pl.u64 (min ((x : Int) + y) (18446744073709551616 - 1)) % 18446744073709551616
  unfold Pl.u64; generalize sg 64 x = s at *; generalize sg 64 y = t at *; (repeat' split) <;> omega
 ·show (x + (18446744073709551616 - y)) % 18446744073709551616 = Pl.u64 ((x : Int) - y) % 18446744073709551616
  unfold Pl.u64; generalize sg 64 x = s at *; generalize sg 64 y = t at *; (repeat' split) <;> omega
 ·show (if 0 ≤ min (max (sg 64 x - sg 64 y) (-9223372036854775808)) (9223372036854775808 - 1) then (min (max (sg 64 x - sg 64 y) (-9223372036854775808)) (9223372036854775808 - 1)).toNat else (min (max (sg 64 x - sg 64 y) (-9223372036854775808)) (9223372036854775808 - 1) + 18446744073709551616).toNat) = Pl.u64 (min (max (sg 64 x - sg 64 y) (-9223372036854775808)) (9223372036854775808 - 1)) % 18446744073709551616
  unfold Pl.u64; generalize sg 64 x = s at *; generalize sg 64 y = t at *; (repeat' split) <;> omega
 ·show x - y = Pl.u64 ((x : Int) - ((min x y : Nat) : Int)) % 18446744073709551616
  unfold Pl.u64; generalize sg 64 x = s at *; generalize sg 64 y = t at *; (repeat' split) <;> omega
 ·show x * y % 18446744073709551616 = Pl.u64 ((x : Int) * y) % 18446744073709551616
  rw [em]; unfold Pl.u64; omega
 ·show (if sg 64 x < sg 64 y then x else y) = Pl.u64 (min (sg 64 x) (sg 64 y)) % 18446744073709551616
  unfold Pl.u64; generalize sg 64 x = s at *; generalize sg 64 y = t at *; (repeat' split) <;> omega
 ·show (if x < y then x else y) = Pl.u64 (min (x : Int) y) % 18446744073709551616
  unfold Pl.u64; generalize sg 64 x = s at *; generalize sg 64 y = t at *; (repeat' split) <;> omega
 ·show (if sg 64 x < sg 64 y then y else x) = Pl.u64 (max (sg 64 x) (sg 64 y)) % 18446744073709551616
  unfold Pl.u64; generalize sg 64 x = s at *; generalize sg 64 y = t at *; (repeat' split) <;> omega
 ·show (if x < y then y else x) = Pl.u64 (max (x : Int) y) % 18446744073709551616
  unfold Pl.u64; generalize sg 64 x = s at *; generalize sg 64 y = t at *; (repeat' split) <;> omega
 ·show (x + y + 1) / 2 = Pl.u64 (((x : Int) + y + 1) / 2) % 18446744073709551616
  unfold Pl.u64; generalize sg 64 x = s at *; generalize sg 64 y = t at *; (repeat' split) <;> omega
theorem ar_lane {w n : Nat} (h : WN w n) (kk : Nat) (hk : kk = 14 ∨ kk = 15 ∨ kk = 16 ∨ kk = 17 ∨ kk = 18 ∨ kk = 19 ∨ kk = 21 ∨ kk = 22 ∨ kk = 23 ∨ kk = 24 ∨ kk = 25 ∨ kk = 27) (x y : Nat) (hx : x < 2 ^ w) (hy : y < 2 ^ w) :
  arN w kk x y = Pl.u64 (laneZ w kk x y (sgn w x) (sgn w y)) % 2 ^ w := by
 rcases h with ⟨rfl, _⟩ | ⟨rfl, _⟩ | ⟨rfl, _⟩ | ⟨rfl, _⟩
 ·exact ar_lane_8 kk hk x y hx hy
 ·exact ar_lane_16 kk hk x y hx hy
 ·exact ar_lane_32 kk hk x y hx hy
 ·exact ar_lane_64 kk hk x y hx hy
theorem ar_half {w n : Nat} (h : WN w n) (kk : Nat) (hk : kk = 14 ∨ kk = 15 ∨ kk = 16 ∨ kk = 17 ∨ kk = 18 ∨ kk = 19 ∨ kk = 21 ∨ kk = 22 ∨ kk = 23 ∨ kk = 24 ∨ kk = 25 ∨ kk = 27) (a b : Vec) (j : Nat) (hj : j < 2) : (arF w kk (hB a j) (hB b j)).toNat = getN (vb w kk a b) 64 j :=
 half_of h _ j _ fun i hi => by
  have hin : j * n + i < 2 * n := by rcases (show j = 0 ∨ j = 1 by omega) with rfl | rfl <;> omega
  rw [ln_arF h kk hk _ _ hi, ln_hB h a j hi, ln_hB h b j hi, g_vb _ _ _ _ _ (by rw [h.div2]; exact hin)]
  exact ar_lane h kk hk _ _ (getN_lt ..) (getN_lt ..)
theorem ea_half {w n : Nat} (h : WN w n) (f : Nat → B) (g : Nat → Nat) (hf : ∀ i, i < 2 * n → (f i).toNat % 2 ^ w = g i % 2 ^ w) (j : Nat) (hj : j < 2) (V : Vec) (hV : ∀ i, i < 2 * n → getN V w i = g i % 2 ^ w) : (eaF w j f).toNat = getN V 64 j :=
 half_of h _ j _ fun i hi => by
  have hin : j * n + i < 2 * n := by rcases (show j = 0 ∨ j = 1 by omega) with rfl | rfl <;> omega
  rw [ln_eaF h j f hi, hf _ hin, hV _ hin]
theorem g_build {w n : Nat} (h : WN w n) (g : Nat → Nat) (i : Nat) (hi : i < 2 * n) : getN (buildOn 0 w g (2 * n)) w i = g i % 2 ^ w := by
 rw [getN_buildOn _ _ _ _ _ (by rw [h.div2]; exact Nat.le_refl _), if_pos hi]
theorem w8 : WN 8 8 := .inl ⟨rfl, rfl⟩
theorem w32 : WN 32 2 := .inr (.inr (.inl ⟨rfl, rfl⟩))
theorem w64 : WN 64 1 := .inr (.inr (.inr ⟨rfl, rfl⟩))
theorem ex_half {w n n2 : Nat} (h : WN w n) (h2 : WN (2 * w) n2) (hn : n = 2 * n2) (c : Nat) (a b : Vec) (j : Nat) (hj : j < 2) : (eaF (2 * w) j (exF w c (hvs a b))).toNat = getN (buildOn 0 (2 * w) (mulN w c a b) (2 * n2)) 64 j :=
 ea_half h2 _ (mulN w c a b) (fun i hi => by
  have hb : i + c % 2 * (64 / w) < 2 * n := by
   rw [h.div]
   have := Nat.mod_lt c (show 0 < 2 by decide)
   rcases (show c % 2 = 0 ∨ c % 2 = 1 by omega) with q | q <;> rw [q] <;> omega
  rw [exF_n h, lv_a h a b hb, lv_b h a b hb]
  rfl) j hj _ (g_build h2 _)
theorem na_half {w n n2 : Nat} (h : WN w n) (h2 : WN (2 * w) n2) (hn : n = 2 * n2) (lo hi : Nat) (a b : Vec) (j : Nat) (hj : j < 2) : (eaF w j (naF w lo hi (hvs a b))).toNat = getN (nbuild w n (holdN (BitVec.ofNat 64 lo).toInt (BitVec.ofNat 64 hi).toInt (2 * w) a) (holdN (BitVec.ofNat 64 lo).toInt (BitVec.ofNat 64 hi).toInt (2 * w) b) n) 64 j :=
 ea_half h _ (fun i => if i < n then holdN (BitVec.ofNat 64 lo).toInt (BitVec.ofNat 64 hi).toInt (2 * w) a i else holdN (BitVec.ofNat 64 lo).toInt (BitVec.ofNat 64 hi).toInt (2 * w) b (i - n)) (fun i hi' => by
  have hnp := h.npos
  rw [naF_n h2, h.div]
  by_cases hc : i < n
  ·simp only [hc, if_true, Nat.div_eq_of_lt hc, Nat.mod_eq_of_lt hc, Nat.mul_zero]
   rw [lv_a h2 a b (by omega)]
   rfl
  ·have q1 : i / n = 1 := Nat.div_eq_of_lt_le (by omega) (by omega)
   have q2 : i % n = i - n := by rw [Nat.mod_eq_sub_mod (by omega), Nat.mod_eq_of_lt (by omega)]
   simp only [hc, if_false, q1, q2, Nat.mul_one]
   rw [lv_b h2 a b (by omega)]
   rfl) j hj _ (fun i hi' => by
  rw [getN_nbuild _ _ _ _ (by rw [h.div2]) _ _ (Nat.le_refl _)]
  by_cases hc : i < n
  ·simp [hc]
  ·rw [if_neg hc, if_pos ⟨by omega, by omega⟩]; simp [hc])
theorem bit_half (k : Nat) (hk : k = 1 ∨ k = 2 ∨ k = 3 ∨ k = 4) (a b : Vec) (j : Nat) (hj : j < 2) : (bitF k (hB a j) (hB b j)).toNat = getN (bitV (77 + k) a b b) 64 j := by
 refine half_of w64 _ j _ fun i hi => ?_
 obtain rfl : i = 0 := by omega
 have hA := ln_hB w64 a j (i := 0) (by decide)
 have hBb := ln_hB w64 b j (i := 0) (by decide)
 have ea : ln 64 0 all = 2 ^ 64 - 1 := ln_all w64 (by decide)
 rcases hk with rfl | rfl | rfl | rfl
 ·show ln 64 0 (hB a j &&& hB b j) = getN (a &&& b) 64 _
  rw [ln_and, hA, hBb]; exact (bitsAt_and _ _ _ _).symm
 ·show ln 64 0 (hB a j &&& (hB b j ^^^ all)) = getN (a &&& ~~~b) 64 _
  rw [ln_and, ln_xor, hA, hBb, ea, show getN (a &&& ~~~b) 64 (j * 1 + 0) = getN a 64 (j * 1 + 0) &&& getN (~~~b) 64 (j * 1 + 0) from bitsAt_and _ _ _ _]
  congr 1
  apply Nat.eq_of_testBit_eq; intro r
  rw [Nat.testBit_xor, Nat.testBit_two_pow_sub_one]
  unfold getN
  rw [testBit_bitsAt, testBit_bitsAt]
  by_cases hr : r < 64
  ·have h128 : 64 * (j * 1 + 0) + r < 128 := by omega
   have e2 : (~~~b).toNat.testBit (64 * (j * 1 + 0) + r) = !b.toNat.testBit (64 * (j * 1 + 0) + r) := by
    have := BitVec.getLsbD_not (x := b) (i := 64 * (j * 1 + 0) + r)
    rw [decide_eq_true h128, Bool.true_and] at this
    exact this
   rw [e2]; simp [hr]
  ·simp [hr]
 ·show ln 64 0 (hB a j ||| hB b j) = getN (a ||| b) 64 _
  rw [ln_or, hA, hBb]; exact (bitsAt_or _ _ _ _).symm
 ·show ln 64 0 (hB a j ^^^ hB b j) = getN (a ^^^ b) 64 _
  rw [ln_xor, hA, hBb]; exact (bitsAt_xor _ _ _ _).symm
theorem join0 (i : Nat) : getN (joinV 0 0) 8 i = 0 := by
 have e : joinV 0 0 = 0#128 := by decide
 rw [e]; simp [getN, bitsAt]
def kL : List Nat := [13, 14, 35, 36, 37, 38, 39, 40, 41, 42, 43, 44, 45, 46, 47, 48, 49, 50, 51, 52, 53, 54, 55, 56, 57, 58, 59, 60, 61, 62, 63, 64, 78, 79, 80, 81, 101, 102, 110, 111, 112, 113, 114, 115, 118, 119, 120, 121, 123, 130, 133, 134, 142, 143, 144, 145, 146, 147, 149, 150, 151, 152, 153, 155, 156, 157, 158, 159, 174, 177, 181, 182, 183, 184, 185, 186, 188, 189, 190, 191, 206, 209, 213, 214, 215, 216, 217, 218, 219, 220, 221, 222, 223]
theorem pick_half (f : B → B → B) (a b : Vec) {j : Nat} (hj : j < 2) : f (if j = 0 then hB a 0 else hB a 1) (if j = 0 then hB b 0 else hB b 1) = f (hB a j) (hB b j) := by
 rcases two_cases hj with rfl | rfl <;> rfl
theorem okW_wn {w : Nat} (h : okW w = true) : WN w (64 / w) := by
 simp only [okW, Bool.or_eq_true, beq_iff_eq] at h
 rcases h with ((rfl | rfl) | rfl) | rfl
 ·exact w8
 ·exact w16
 ·exact w32
 ·exact w64
theorem resK_spec (d : Kd) (hd : okK d = true) (a b : Vec) (j : Nat) (hj : j < 2) : (resK d (hB a 0) (hB a 1) (hB b 0) (hB b 1) j).toNat = getN (specK d a b) 64 j := by
 match d, hd with
 | .shuf, _ => exact ea_half w8 (fun _ => laneU 8 0 (hB a 0)) (shufF (joinV 0 0) a b) (fun i hi => by
   have h0 : (laneU 8 0 (hB a 0)).toNat = getN a 8 0 := by rw [laneU_n (by decide), ln_hB w8 a 0 (by decide)]
   have h1 : shufF (joinV 0 0) a b i = getN a 8 0 := by unfold shufF; rw [join0]; rfl
   rw [h0, h1]) j hj _ (g_build w8 _)
 | .swiz, _ => exact ea_half w8 (swzF (hvs a b)) (swizF a b) (fun i hi => by
   rw [swzF_n, lv_b w8 a b hi]
   unfold swizF
   by_cases hc : getN b 8 i < 16
   ·rw [if_pos hc, if_pos hc, lv_a w8 a b hc]
   ·rw [if_neg hc, if_neg hc]) j hj _ (g_build w8 _)
 | .q15, _ => exact ea_half w16 (qF (hvs a b)) (q15N a b) (fun i hi => by
   rw [qF_n, lv_a w16 a b hi, lv_b w16 a b hi]; rfl) j hj _ (g_build w16 _)
 | .dot, _ => exact ea_half w32 (doF (hvs a b)) (dotN a b) (fun i hi => by
   rw [doF_n, lv_a w16 a b (by omega), lv_b w16 a b (by omega), lv_a w16 a b (by omega), lv_b w16 a b (by omega)]; rfl) j hj _ (g_build w32 _)
 | .nar w lo hi, hd =>
  simp only [okK, Bool.or_eq_true, beq_iff_eq] at hd
  rcases hd with rfl | rfl
  ·show (eaF 8 j (naF 8 lo hi (hvs a b))).toNat = getN (nbuild 8 8 (holdN (BitVec.ofNat 64 lo).toInt (BitVec.ofNat 64 hi).toInt (2 * 8) a) (holdN (BitVec.ofNat 64 lo).toInt (BitVec.ofNat 64 hi).toInt (2 * 8) b) 8) 64 j
   exact na_half w8 w16 rfl lo hi a b j hj
  ·show (eaF 16 j (naF 16 lo hi (hvs a b))).toNat = getN (nbuild 16 4 (holdN (BitVec.ofNat 64 lo).toInt (BitVec.ofNat 64 hi).toInt (2 * 16) a) (holdN (BitVec.ofNat 64 lo).toInt (BitVec.ofNat 64 hi).toInt (2 * 16) b) 4) 64 j
   exact na_half w16 w32 rfl lo hi a b j hj
 | .ext w c, hd =>
  simp only [okK, Bool.or_eq_true, beq_iff_eq] at hd
  rcases hd with (rfl | rfl) | rfl
  ·exact ex_half w8 w16 rfl c a b j hj
  ·exact ex_half w16 w32 rfl c a b j hj
  ·exact ex_half w32 w64 rfl c a b j hj
 | .bit i, hd =>
  simp only [okK, Bool.or_eq_true, beq_iff_eq, or_assoc] at hd
  exact (congrArg BitVec.toNat (pick_half (bitF i) a b hj)).trans (bit_half i hd a b j hj)
 | .cmp w kk, hd =>
  simp only [okK, Bool.and_eq_true, Nat.blt_eq] at hd
  exact (congrArg BitVec.toNat (pick_half (cmpF w kk) a b hj)).trans (cmp_half (okW_wn hd.1) kk hd.2 a b j hj)
 | .ar w kk, hd =>
  simp only [okK, Bool.and_eq_true, Bool.or_eq_true, beq_iff_eq, or_assoc] at hd
  exact (congrArg BitVec.toNat (pick_half (arF w kk) a b hj)).trans (ar_half (okW_wn hd.1) kk hd.2 a b j hj)
theorem kL_ok : (kL.all fun k => okK (kdOf k)) = true := by kernel_rfl
theorem res_spec (k : Nat) (hk : k ∈ kL) (a b : Vec) (j : Nat) (hj : j < 2) : (resF k (hB a 0) (hB a 1) (hB b 0) (hB b 1) j).toNat = getN (specV k a b) 64 j :=
 resK_spec (kdOf k) (List.all_eq_true.1 kL_ok k hk) a b j hj
theorem dv_no (p q r s : Nat) : ((List.range 256).all fun k => kL.contains k || decide ((doV (64768 + (k : Int)) 0 0 0 [p, q, r, s]).1.length ≠ 2)) = true := by kernel_rfl
end Ln
end
