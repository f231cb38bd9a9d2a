/-
  plaitlaw06.awake, cmp, two, not.
-/
import Derived.Test.YtifafdfjmhadaaaCmpB
import Derived.Test.YtifafdfjmhadaaaWidOf
import Derived.Test.YtifafdfjmhadaaaAriHL
set_option linter.unusedSimpArgs false
set_option linter.unusedVariables false
namespace Go.Proofs.Ytifafdfjmhadaaa
open Go.RowKit Pl
set_option linter.unusedSimpArgs false
set_option linter.unusedVariables false

def v1 : Vec := buildOn 0 8 (fun i => [255].getD i 0) 1
theorem of_v1 (w w0 : World) (b c : Nat) (fr : Nat × Nat) (t : TypeId) (hc : 1 ≤ c) (hb : w.heap[b]? = some (.cells #[.int .u64 255] t fr)) (_h : w0 = w) :
    Calls Try.prog 24 #[.int .i64 8, .slice (some ⟨b, 0, none⟩) 1 c] w fun e w' => e = .returned (.agg (cells v1)) ∧ Below w.heap.size w w' :=
  of8 [255] 1 c w b fr t (by decide) (by decide) hc rfl hb
def v2 : Vec := buildOn 0 8 (fun i => [1].getD i 0) 1
theorem of_v2 (w w0 : World) (b c : Nat) (fr : Nat × Nat) (t : TypeId) (hc : 1 ≤ c) (hb : w.heap[b]? = some (.cells #[.int .u64 1] t fr)) (_h : w0 = w) :
    Calls Try.prog 24 #[.int .i64 8, .slice (some ⟨b, 0, none⟩) 1 c] w fun e w' => e = .returned (.agg (cells v2)) ∧ Below w.heap.size w w' :=
  of8 [1] 1 c w b fr t (by decide) (by decide) hc rfl hb
def v3 : Vec := buildOn 0 64 (fun i => [0, 9223372036854775808].getD i 0) 2
theorem of_v3 (w w0 : World) (b c : Nat) (fr : Nat × Nat) (t : TypeId) (hc : 2 ≤ c) (hb : w.heap[b]? = some (.cells #[.int .u64 0, .int .u64 9223372036854775808] t fr)) (_h : w0 = w) :
    Calls Try.prog 24 #[.int .i64 64, .slice (some ⟨b, 0, none⟩) 2 c] w fun e w' => e = .returned (.agg (cells v3)) ∧ Below w.heap.size w w' :=
  of64 [0, 9223372036854775808] 2 c w b fr t (by decide) (by decide) hc rfl hb
theorem f1 : cmpV 64805 v1 v2 = (v1, 0) := by decide +kernel
theorem f2 : testV 64964 v3 = (2, 0) := by decide +kernel
theorem f3 : bitV 80 v1 v2 v2 = v1 := by decide +kernel
theorem ccmp_1 (w : World) : Calls Try.prog 11 #[.int .i64 64805, .agg (cells v1), .agg (cells v2)] w fun e w' => e = .returned (.tuple #[.agg (cells v1), .int .i64 0]) ∧ Below w.heap.size w w' := by
  have h := cmp_any 64805 v1 v2 w ⟨by decide, by decide⟩
  rw [f1] at h
  exact h
theorem test_1 (w : World) : Calls Try.prog 13 #[.int .i64 64964, .agg (cells v3)] w fun e w' => e = .returned (.tuple #[.int .u32 2, .int .i64 0]) ∧ Below w.heap.size w w' := by
  have h := test_any 64964 v3 w ⟨by decide, by decide⟩
  rw [f2] at h
  exact h
theorem bits_short (w : World) (B cap : Nat) : Calls Try.prog 15 #[.int .i64 64848, .slice (some ⟨B, 0, none⟩) 1 cap] w fun e w' => e = .returned (.tuple #[.agg (cells 0), .int .i64 1]) ∧ Below w.heap.size w w' := by
  go_enter Try.func15, Try.ntmps15
  go_wp2_with fail
  exact bodyPost_ret (results_vec_tmp rfl _ _ w.heap.size _ _ rfl rfl (heap_z1 w _)) rfl ⟨rfl, (Below.refl _ _).alloc (Nat.le_refl _) _⟩
theorem fold_set : ∀ (l : List Value) (Z : Array Value) (k s : Nat), k + s + l.length ≤ Z.size →
    ((l.zipIdx s).foldl (fun cs x => cs.setIfInBounds (k + x.2) x.1) Z).size = Z.size ∧
    ∀ j, ((l.zipIdx s).foldl (fun cs x => cs.setIfInBounds (k + x.2) x.1) Z)[j]? = if k + s ≤ j ∧ j < k + s + l.length then l[j - (k + s)]? else Z[j]?
  | [], Z, k, s, _ => ⟨rfl, fun j => by rw [if_neg (by simp only [List.length_nil]; omega)]; rfl⟩
  | v :: l, Z, k, s, h => by
    simp only [List.length_cons] at h
    obtain ⟨h1, h2⟩ := fold_set l (Z.setIfInBounds (k + s) v) k (s + 1) (by simp; omega)
    rw [List.zipIdx_cons, List.foldl_cons]
    refine ⟨by rw [h1]; simp, fun j => ?_⟩
    rw [h2 j, Array.getElem?_setIfInBounds]
    simp only [List.length_cons]
    by_cases e : k + s = j
    · subst e
      rw [if_neg (by omega), if_pos rfl, if_pos (by omega), if_pos (by omega), Nat.sub_self]
      rfl
    · rw [if_neg e]
      by_cases r : k + (s + 1) ≤ j ∧ j < k + (s + 1) + l.length
      · rw [if_pos r, if_pos (by omega), show j - (k + s) = (j - (k + (s + 1))) + 1 by omega]
        rfl
      · rw [if_neg r, if_neg (by omega)]
/-- A vector laid into an array of cells. -/
def lay (Z : Array Value) (k : Nat) (v : Vec) : Array Value := Array.foldl (fun cs x => cs.setIfInBounds (k + x.2) x.1) Z (cells v).zipIdx 0 16
theorem foldl16 {α β : Type} (f : β → α → β) (Z : β) (xs : Array α) (h : xs.size = 16) : Array.foldl f Z xs 0 16 = xs.toList.foldl f Z := by
  rw [Array.foldl_toList, h]
theorem lay_spec (Z : Array Value) (k : Nat) (v : Vec) (h : k + 16 ≤ Z.size) : (lay Z k v).size = Z.size ∧ ∀ j, (lay Z k v)[j]? = if k ≤ j ∧ j < k + 16 then (cells v)[j - k]? else Z[j]? := by
  have := fold_set (cells v).toList Z k 0 (by simpa using h)
  unfold lay
  rw [foldl16 _ _ _ (by simp), Array.toList_zipIdx]
  simpa using this
theorem range_lay {w : World} {B : Nat} {Z : Array Value} {t : TypeId} (k : Nat) (v : Vec) (h : k + 16 ≤ Z.size) (hb : ∃ Y : Array Value, w.heap[B]? = some (.cells Y t (0, 0)) ∧ ∀ j, k ≤ j → j < k + 16 → Y[j]? = (lay Z k v)[j]?) : w.rangeAt B k (cells v).toList := fun j x hx => by
  obtain ⟨Y, hY, hj⟩ := hb
  have hl : j < 16 := by
    have := (List.getElem?_eq_some_iff.1 hx).1
    simpa using this
  rw [cell_of_row w B (k + j) _ _ _ hY, hj _ (by omega) (by omega), (lay_spec Z k v h).2, if_pos (by omega), show k + j - k = j by omega]
  simpa using hx
theorem lay_zero (Z : Array Value) (v : Vec) : Array.foldl (fun cs x => cs.setIfInBounds x.2 x.1) Z (cells v).zipIdx 0 16 = lay Z 0 v := by
  unfold lay
  simp only [Nat.zero_add]
theorem two_laid (a b : Vec) (u : World) (t : TypeId) : (u.alloc (.cells (Array.foldl (fun cs x => cs.setIfInBounds (16 + x.2) x.1) (Array.foldl (fun cs x => cs.setIfInBounds x.2 x.1) #[.int .u8 0, .int .u8 0, .int .u8 0, .int .u8 0, .int .u8 0, .int .u8 0, .int .u8 0, .int .u8 0, .int .u8 0, .int .u8 0, .int .u8 0, .int .u8 0, .int .u8 0, .int .u8 0, .int .u8 0, .int .u8 0, .int .u8 0, .int .u8 0, .int .u8 0, .int .u8 0, .int .u8 0, .int .u8 0, .int .u8 0, .int .u8 0, .int .u8 0, .int .u8 0, .int .u8 0, .int .u8 0, .int .u8 0, .int .u8 0, .int .u8 0, .int .u8 0] (cells a).zipIdx 0 16) (cells b).zipIdx 0 16) t)).rangeAt u.heap.size 0 (cells a).toList ∧ (u.alloc (.cells (Array.foldl (fun cs x => cs.setIfInBounds (16 + x.2) x.1) (Array.foldl (fun cs x => cs.setIfInBounds x.2 x.1) #[.int .u8 0, .int .u8 0, .int .u8 0, .int .u8 0, .int .u8 0, .int .u8 0, .int .u8 0, .int .u8 0, .int .u8 0, .int .u8 0, .int .u8 0, .int .u8 0, .int .u8 0, .int .u8 0, .int .u8 0, .int .u8 0, .int .u8 0, .int .u8 0, .int .u8 0, .int .u8 0, .int .u8 0, .int .u8 0, .int .u8 0, .int .u8 0, .int .u8 0, .int .u8 0, .int .u8 0, .int .u8 0, .int .u8 0, .int .u8 0, .int .u8 0, .int .u8 0] (cells a).zipIdx 0 16) (cells b).zipIdx 0 16) t)).rangeAt u.heap.size 16 (cells b).toList := by
  rw [lay_zero]
  have e : Array.foldl (fun cs x => cs.setIfInBounds (16 + x.2) x.1) (lay #[.int .u8 0, .int .u8 0, .int .u8 0, .int .u8 0, .int .u8 0, .int .u8 0, .int .u8 0, .int .u8 0, .int .u8 0, .int .u8 0, .int .u8 0, .int .u8 0, .int .u8 0, .int .u8 0, .int .u8 0, .int .u8 0, .int .u8 0, .int .u8 0, .int .u8 0, .int .u8 0, .int .u8 0, .int .u8 0, .int .u8 0, .int .u8 0, .int .u8 0, .int .u8 0, .int .u8 0, .int .u8 0, .int .u8 0, .int .u8 0, .int .u8 0, .int .u8 0] 0 a) (cells b).zipIdx 0 16 = lay (lay #[.int .u8 0, .int .u8 0, .int .u8 0, .int .u8 0, .int .u8 0, .int .u8 0, .int .u8 0, .int .u8 0, .int .u8 0, .int .u8 0, .int .u8 0, .int .u8 0, .int .u8 0, .int .u8 0, .int .u8 0, .int .u8 0, .int .u8 0, .int .u8 0, .int .u8 0, .int .u8 0, .int .u8 0, .int .u8 0, .int .u8 0, .int .u8 0, .int .u8 0, .int .u8 0, .int .u8 0, .int .u8 0, .int .u8 0, .int .u8 0, .int .u8 0, .int .u8 0] 0 a) 16 b := rfl
  rw [e]
  have z0 : 0 + 16 ≤ (#[.int .u8 0, .int .u8 0, .int .u8 0, .int .u8 0, .int .u8 0, .int .u8 0, .int .u8 0, .int .u8 0, .int .u8 0, .int .u8 0, .int .u8 0, .int .u8 0, .int .u8 0, .int .u8 0, .int .u8 0, .int .u8 0, .int .u8 0, .int .u8 0, .int .u8 0, .int .u8 0, .int .u8 0, .int .u8 0, .int .u8 0, .int .u8 0, .int .u8 0, .int .u8 0, .int .u8 0, .int .u8 0, .int .u8 0, .int .u8 0, .int .u8 0, .int .u8 0] : Array Value).size := by decide
  have s0 := (lay_spec #[.int .u8 0, .int .u8 0, .int .u8 0, .int .u8 0, .int .u8 0, .int .u8 0, .int .u8 0, .int .u8 0, .int .u8 0, .int .u8 0, .int .u8 0, .int .u8 0, .int .u8 0, .int .u8 0, .int .u8 0, .int .u8 0, .int .u8 0, .int .u8 0, .int .u8 0, .int .u8 0, .int .u8 0, .int .u8 0, .int .u8 0, .int .u8 0, .int .u8 0, .int .u8 0, .int .u8 0, .int .u8 0, .int .u8 0, .int .u8 0, .int .u8 0, .int .u8 0] 0 a z0).1
  have z1 : 16 + 16 ≤ (lay #[.int .u8 0, .int .u8 0, .int .u8 0, .int .u8 0, .int .u8 0, .int .u8 0, .int .u8 0, .int .u8 0, .int .u8 0, .int .u8 0, .int .u8 0, .int .u8 0, .int .u8 0, .int .u8 0, .int .u8 0, .int .u8 0, .int .u8 0, .int .u8 0, .int .u8 0, .int .u8 0, .int .u8 0, .int .u8 0, .int .u8 0, .int .u8 0, .int .u8 0, .int .u8 0, .int .u8 0, .int .u8 0, .int .u8 0, .int .u8 0, .int .u8 0, .int .u8 0] 0 a).size := by rw [s0]; decide
  refine ⟨range_lay 0 a z0 ⟨_, heap_alloc_new _ _, fun j h1 h2 => ?_⟩, range_lay 16 b z1 ⟨_, heap_alloc_new _ _, fun j h1 h2 => rfl⟩⟩
  rw [(lay_spec _ 16 b z1).2, if_neg (by omega)]
theorem one_laid (a : Vec) (u : World) (t : TypeId) : (u.alloc (.cells (Array.foldl (fun cs x => cs.setIfInBounds x.2 x.1) #[.int .u8 0, .int .u8 0, .int .u8 0, .int .u8 0, .int .u8 0, .int .u8 0, .int .u8 0, .int .u8 0, .int .u8 0, .int .u8 0, .int .u8 0, .int .u8 0, .int .u8 0, .int .u8 0, .int .u8 0, .int .u8 0] (cells a).zipIdx 0 16) t)).rangeAt u.heap.size 0 (cells a).toList := by
  rw [lay_zero]
  have z0 : 0 + 16 ≤ (#[.int .u8 0, .int .u8 0, .int .u8 0, .int .u8 0, .int .u8 0, .int .u8 0, .int .u8 0, .int .u8 0, .int .u8 0, .int .u8 0, .int .u8 0, .int .u8 0, .int .u8 0, .int .u8 0, .int .u8 0, .int .u8 0] : Array Value).size := by decide
  exact range_lay 0 a z0 ⟨_, heap_alloc_new _ _, fun j h1 h2 => rfl⟩
theorem not_call (a : Vec) (u : World) (t : TypeId) (cap : Nat) : Calls Try.prog 15 #[.int .i64 64845, .slice (some ⟨u.heap.size, 0, none⟩) 1 cap] (u.alloc (.cells (Array.foldl (fun cs x => cs.setIfInBounds x.2 x.1) #[.int .u8 0, .int .u8 0, .int .u8 0, .int .u8 0, .int .u8 0, .int .u8 0, .int .u8 0, .int .u8 0, .int .u8 0, .int .u8 0, .int .u8 0, .int .u8 0, .int .u8 0, .int .u8 0, .int .u8 0, .int .u8 0] (cells a).zipIdx 0 16) t)) fun e w' => e = .returned (.tuple #[.agg (cells (~~~a)), .int .i64 0]) ∧ Below (u.alloc (.cells (Array.foldl (fun cs x => cs.setIfInBounds x.2 x.1) #[.int .u8 0, .int .u8 0, .int .u8 0, .int .u8 0, .int .u8 0, .int .u8 0, .int .u8 0, .int .u8 0, .int .u8 0, .int .u8 0, .int .u8 0, .int .u8 0, .int .u8 0, .int .u8 0, .int .u8 0, .int .u8 0] (cells a).zipIdx 0 16) t)).heap.size (u.alloc (.cells (Array.foldl (fun cs x => cs.setIfInBounds x.2 x.1) #[.int .u8 0, .int .u8 0, .int .u8 0, .int .u8 0, .int .u8 0, .int .u8 0, .int .u8 0, .int .u8 0, .int .u8 0, .int .u8 0, .int .u8 0, .int .u8 0, .int .u8 0, .int .u8 0, .int .u8 0, .int .u8 0] (cells a).zipIdx 0 16) t)) w' := by
  have h := one_laid a u t
  exact bits_77 a a a _ u.heap.size cap (by simp) h h h
theorem two_call78 (a b : Vec) (u : World) (t : TypeId) (cap : Nat) : Calls Try.prog 15 #[.int .i64 64846, .slice (some ⟨u.heap.size, 0, none⟩) 2 cap] (u.alloc (.cells (Array.foldl (fun cs x => cs.setIfInBounds (16 + x.2) x.1) (Array.foldl (fun cs x => cs.setIfInBounds x.2 x.1) #[.int .u8 0, .int .u8 0, .int .u8 0, .int .u8 0, .int .u8 0, .int .u8 0, .int .u8 0, .int .u8 0, .int .u8 0, .int .u8 0, .int .u8 0, .int .u8 0, .int .u8 0, .int .u8 0, .int .u8 0, .int .u8 0, .int .u8 0, .int .u8 0, .int .u8 0, .int .u8 0, .int .u8 0, .int .u8 0, .int .u8 0, .int .u8 0, .int .u8 0, .int .u8 0, .int .u8 0, .int .u8 0, .int .u8 0, .int .u8 0, .int .u8 0, .int .u8 0] (cells a).zipIdx 0 16) (cells b).zipIdx 0 16) t)) fun e w' => e = .returned (.tuple #[.agg (cells (a &&& b)), .int .i64 0]) ∧ Below (u.alloc (.cells (Array.foldl (fun cs x => cs.setIfInBounds (16 + x.2) x.1) (Array.foldl (fun cs x => cs.setIfInBounds x.2 x.1) #[.int .u8 0, .int .u8 0, .int .u8 0, .int .u8 0, .int .u8 0, .int .u8 0, .int .u8 0, .int .u8 0, .int .u8 0, .int .u8 0, .int .u8 0, .int .u8 0, .int .u8 0, .int .u8 0, .int .u8 0, .int .u8 0, .int .u8 0, .int .u8 0, .int .u8 0, .int .u8 0, .int .u8 0, .int .u8 0, .int .u8 0, .int .u8 0, .int .u8 0, .int .u8 0, .int .u8 0, .int .u8 0, .int .u8 0, .int .u8 0, .int .u8 0, .int .u8 0] (cells a).zipIdx 0 16) (cells b).zipIdx 0 16) t)).heap.size (u.alloc (.cells (Array.foldl (fun cs x => cs.setIfInBounds (16 + x.2) x.1) (Array.foldl (fun cs x => cs.setIfInBounds x.2 x.1) #[.int .u8 0, .int .u8 0, .int .u8 0, .int .u8 0, .int .u8 0, .int .u8 0, .int .u8 0, .int .u8 0, .int .u8 0, .int .u8 0, .int .u8 0, .int .u8 0, .int .u8 0, .int .u8 0, .int .u8 0, .int .u8 0, .int .u8 0, .int .u8 0, .int .u8 0, .int .u8 0, .int .u8 0, .int .u8 0, .int .u8 0, .int .u8 0, .int .u8 0, .int .u8 0, .int .u8 0, .int .u8 0, .int .u8 0, .int .u8 0, .int .u8 0, .int .u8 0] (cells a).zipIdx 0 16) (cells b).zipIdx 0 16) t)) w' := by
  obtain ⟨h1, h2⟩ := two_laid a b u t
  exact bits_78 a b b _ u.heap.size cap (by simp) h1 h2 h2
theorem two_call79 (a b : Vec) (u : World) (t : TypeId) (cap : Nat) : Calls Try.prog 15 #[.int .i64 64847, .slice (some ⟨u.heap.size, 0, none⟩) 2 cap] (u.alloc (.cells (Array.foldl (fun cs x => cs.setIfInBounds (16 + x.2) x.1) (Array.foldl (fun cs x => cs.setIfInBounds x.2 x.1) #[.int .u8 0, .int .u8 0, .int .u8 0, .int .u8 0, .int .u8 0, .int .u8 0, .int .u8 0, .int .u8 0, .int .u8 0, .int .u8 0, .int .u8 0, .int .u8 0, .int .u8 0, .int .u8 0, .int .u8 0, .int .u8 0, .int .u8 0, .int .u8 0, .int .u8 0, .int .u8 0, .int .u8 0, .int .u8 0, .int .u8 0, .int .u8 0, .int .u8 0, .int .u8 0, .int .u8 0, .int .u8 0, .int .u8 0, .int .u8 0, .int .u8 0, .int .u8 0] (cells a).zipIdx 0 16) (cells b).zipIdx 0 16) t)) fun e w' => e = .returned (.tuple #[.agg (cells (a &&& ~~~b)), .int .i64 0]) ∧ Below (u.alloc (.cells (Array.foldl (fun cs x => cs.setIfInBounds (16 + x.2) x.1) (Array.foldl (fun cs x => cs.setIfInBounds x.2 x.1) #[.int .u8 0, .int .u8 0, .int .u8 0, .int .u8 0, .int .u8 0, .int .u8 0, .int .u8 0, .int .u8 0, .int .u8 0, .int .u8 0, .int .u8 0, .int .u8 0, .int .u8 0, .int .u8 0, .int .u8 0, .int .u8 0, .int .u8 0, .int .u8 0, .int .u8 0, .int .u8 0, .int .u8 0, .int .u8 0, .int .u8 0, .int .u8 0, .int .u8 0, .int .u8 0, .int .u8 0, .int .u8 0, .int .u8 0, .int .u8 0, .int .u8 0, .int .u8 0] (cells a).zipIdx 0 16) (cells b).zipIdx 0 16) t)).heap.size (u.alloc (.cells (Array.foldl (fun cs x => cs.setIfInBounds (16 + x.2) x.1) (Array.foldl (fun cs x => cs.setIfInBounds x.2 x.1) #[.int .u8 0, .int .u8 0, .int .u8 0, .int .u8 0, .int .u8 0, .int .u8 0, .int .u8 0, .int .u8 0, .int .u8 0, .int .u8 0, .int .u8 0, .int .u8 0, .int .u8 0, .int .u8 0, .int .u8 0, .int .u8 0, .int .u8 0, .int .u8 0, .int .u8 0, .int .u8 0, .int .u8 0, .int .u8 0, .int .u8 0, .int .u8 0, .int .u8 0, .int .u8 0, .int .u8 0, .int .u8 0, .int .u8 0, .int .u8 0, .int .u8 0, .int .u8 0] (cells a).zipIdx 0 16) (cells b).zipIdx 0 16) t)) w' := by
  obtain ⟨h1, h2⟩ := two_laid a b u t
  exact bits_79 a b b _ u.heap.size cap (by simp) h1 h2 h2
theorem two_call80 (a b : Vec) (u : World) (t : TypeId) (cap : Nat) : Calls Try.prog 15 #[.int .i64 64848, .slice (some ⟨u.heap.size, 0, none⟩) 2 cap] (u.alloc (.cells (Array.foldl (fun cs x => cs.setIfInBounds (16 + x.2) x.1) (Array.foldl (fun cs x => cs.setIfInBounds x.2 x.1) #[.int .u8 0, .int .u8 0, .int .u8 0, .int .u8 0, .int .u8 0, .int .u8 0, .int .u8 0, .int .u8 0, .int .u8 0, .int .u8 0, .int .u8 0, .int .u8 0, .int .u8 0, .int .u8 0, .int .u8 0, .int .u8 0, .int .u8 0, .int .u8 0, .int .u8 0, .int .u8 0, .int .u8 0, .int .u8 0, .int .u8 0, .int .u8 0, .int .u8 0, .int .u8 0, .int .u8 0, .int .u8 0, .int .u8 0, .int .u8 0, .int .u8 0, .int .u8 0] (cells a).zipIdx 0 16) (cells b).zipIdx 0 16) t)) fun e w' => e = .returned (.tuple #[.agg (cells (a ||| b)), .int .i64 0]) ∧ Below (u.alloc (.cells (Array.foldl (fun cs x => cs.setIfInBounds (16 + x.2) x.1) (Array.foldl (fun cs x => cs.setIfInBounds x.2 x.1) #[.int .u8 0, .int .u8 0, .int .u8 0, .int .u8 0, .int .u8 0, .int .u8 0, .int .u8 0, .int .u8 0, .int .u8 0, .int .u8 0, .int .u8 0, .int .u8 0, .int .u8 0, .int .u8 0, .int .u8 0, .int .u8 0, .int .u8 0, .int .u8 0, .int .u8 0, .int .u8 0, .int .u8 0, .int .u8 0, .int .u8 0, .int .u8 0, .int .u8 0, .int .u8 0, .int .u8 0, .int .u8 0, .int .u8 0, .int .u8 0, .int .u8 0, .int .u8 0] (cells a).zipIdx 0 16) (cells b).zipIdx 0 16) t)).heap.size (u.alloc (.cells (Array.foldl (fun cs x => cs.setIfInBounds (16 + x.2) x.1) (Array.foldl (fun cs x => cs.setIfInBounds x.2 x.1) #[.int .u8 0, .int .u8 0, .int .u8 0, .int .u8 0, .int .u8 0, .int .u8 0, .int .u8 0, .int .u8 0, .int .u8 0, .int .u8 0, .int .u8 0, .int .u8 0, .int .u8 0, .int .u8 0, .int .u8 0, .int .u8 0, .int .u8 0, .int .u8 0, .int .u8 0, .int .u8 0, .int .u8 0, .int .u8 0, .int .u8 0, .int .u8 0, .int .u8 0, .int .u8 0, .int .u8 0, .int .u8 0, .int .u8 0, .int .u8 0, .int .u8 0, .int .u8 0] (cells a).zipIdx 0 16) (cells b).zipIdx 0 16) t)) w' := by
  obtain ⟨h1, h2⟩ := two_laid a b u t
  exact bits_80 a b b _ u.heap.size cap (by simp) h1 h2 h2
theorem two_call81 (a b : Vec) (u : World) (t : TypeId) (cap : Nat) : Calls Try.prog 15 #[.int .i64 64849, .slice (some ⟨u.heap.size, 0, none⟩) 2 cap] (u.alloc (.cells (Array.foldl (fun cs x => cs.setIfInBounds (16 + x.2) x.1) (Array.foldl (fun cs x => cs.setIfInBounds x.2 x.1) #[.int .u8 0, .int .u8 0, .int .u8 0, .int .u8 0, .int .u8 0, .int .u8 0, .int .u8 0, .int .u8 0, .int .u8 0, .int .u8 0, .int .u8 0, .int .u8 0, .int .u8 0, .int .u8 0, .int .u8 0, .int .u8 0, .int .u8 0, .int .u8 0, .int .u8 0, .int .u8 0, .int .u8 0, .int .u8 0, .int .u8 0, .int .u8 0, .int .u8 0, .int .u8 0, .int .u8 0, .int .u8 0, .int .u8 0, .int .u8 0, .int .u8 0, .int .u8 0] (cells a).zipIdx 0 16) (cells b).zipIdx 0 16) t)) fun e w' => e = .returned (.tuple #[.agg (cells (a ^^^ b)), .int .i64 0]) ∧ Below (u.alloc (.cells (Array.foldl (fun cs x => cs.setIfInBounds (16 + x.2) x.1) (Array.foldl (fun cs x => cs.setIfInBounds x.2 x.1) #[.int .u8 0, .int .u8 0, .int .u8 0, .int .u8 0, .int .u8 0, .int .u8 0, .int .u8 0, .int .u8 0, .int .u8 0, .int .u8 0, .int .u8 0, .int .u8 0, .int .u8 0, .int .u8 0, .int .u8 0, .int .u8 0, .int .u8 0, .int .u8 0, .int .u8 0, .int .u8 0, .int .u8 0, .int .u8 0, .int .u8 0, .int .u8 0, .int .u8 0, .int .u8 0, .int .u8 0, .int .u8 0, .int .u8 0, .int .u8 0, .int .u8 0, .int .u8 0] (cells a).zipIdx 0 16) (cells b).zipIdx 0 16) t)).heap.size (u.alloc (.cells (Array.foldl (fun cs x => cs.setIfInBounds (16 + x.2) x.1) (Array.foldl (fun cs x => cs.setIfInBounds x.2 x.1) #[.int .u8 0, .int .u8 0, .int .u8 0, .int .u8 0, .int .u8 0, .int .u8 0, .int .u8 0, .int .u8 0, .int .u8 0, .int .u8 0, .int .u8 0, .int .u8 0, .int .u8 0, .int .u8 0, .int .u8 0, .int .u8 0, .int .u8 0, .int .u8 0, .int .u8 0, .int .u8 0, .int .u8 0, .int .u8 0, .int .u8 0, .int .u8 0, .int .u8 0, .int .u8 0, .int .u8 0, .int .u8 0, .int .u8 0, .int .u8 0, .int .u8 0, .int .u8 0] (cells a).zipIdx 0 16) (cells b).zipIdx 0 16) t)) w' := by
  obtain ⟨h1, h2⟩ := two_laid a b u t
  exact bits_81 a b b _ u.heap.size cap (by simp) h1 h2 h2
set_option maxRecDepth 100000 in
set_option maxHeartbeats 2000000 in
theorem awake_any (w : World) : Calls Try.prog 10 #[] w fun e w' => e = .returned (.bool true) ∧ Below w.heap.size w w' := by
  have hs : HL w [] w := HL.start w
  go_enter Try.func10, Try.ntmps10
  go_outline
  go_wp2_with fail
  refine (of_v1 _ _ _ _ _ _ (Nat.le_refl _) (heap_alloc_new _ _) rfl).mono ?_
  rintro e u ⟨rfl, hb⟩
  replace hs := (HL.alloc hs _).below hb
  clear hb
  go_wp2_with (with_reducible refine store_vec rfl _ _ rfl _ _ rfl rfl 0 (heap_new_zero _) ?_; intro wA hA; replace hs := HL.push hs hA; clear hA)
  refine (of_v2 _ _ _ _ _ _ (Nat.le_refl _) (heap_alloc_new _ _) rfl).mono ?_
  rintro e u2 ⟨rfl, hb⟩
  replace hs := (HL.alloc hs _).below hb
  clear hb
  go_wp2_with (first | (with_reducible refine store_vec rfl _ _ rfl _ _ rfl rfl 0 (heap_new_zero _) ?_; intro wA hA; replace hs := HL.push hs hA; clear hA) | (with_reducible refine load_vec rfl _ rfl _ rfl _ (hs.hold (_, _) (by first | exact List.mem_cons_self | exact List.mem_cons_of_mem _ (List.mem_cons_self) | exact List.mem_cons_of_mem _ (List.mem_cons_of_mem _ (List.mem_cons_self)) | exact List.mem_cons_of_mem _ (List.mem_cons_of_mem _ (List.mem_cons_of_mem _ (List.mem_cons_self))) | exact List.mem_cons_of_mem _ (List.mem_cons_of_mem _ (List.mem_cons_of_mem _ (List.mem_cons_of_mem _ (List.mem_cons_self)))) | exact List.mem_cons_of_mem _ (List.mem_cons_of_mem _ (List.mem_cons_of_mem _ (List.mem_cons_of_mem _ (List.mem_cons_of_mem _ (List.mem_cons_self))))) | exact List.mem_cons_of_mem _ (List.mem_cons_of_mem _ (List.mem_cons_of_mem _ (List.mem_cons_of_mem _ (List.mem_cons_of_mem _ (List.mem_cons_of_mem _ (List.mem_cons_self)))))))) ?_) | (with_reducible refine load_vec rfl _ rfl _ rfl v2 (hs.hold (_, v2) (List.mem_cons_self)) ?_) | (go_at_call 11; (with_reducible refine (ccmp_1 _).mono ?_); rintro e u ⟨rfl, hb⟩; replace hs := hs.below hb; clear hb))
  refine (of_v3 _ _ _ _ _ _ (Nat.le_refl _) (heap_alloc_new _ _) rfl).mono ?_
  rintro e u3 ⟨rfl, hb⟩
  replace hs := (HL.alloc hs _).below hb
  clear hb
  go_wp2_with (first | (with_reducible refine store_vec rfl _ _ rfl _ _ rfl rfl 0 (heap_new_zero _) ?_; intro wA hA; replace hs := HL.push hs hA; clear hA) | (with_reducible refine load_vec rfl _ rfl _ rfl _ (hs.hold (_, _) (by first | exact List.mem_cons_self | exact List.mem_cons_of_mem _ (List.mem_cons_self) | exact List.mem_cons_of_mem _ (List.mem_cons_of_mem _ (List.mem_cons_self)) | exact List.mem_cons_of_mem _ (List.mem_cons_of_mem _ (List.mem_cons_of_mem _ (List.mem_cons_self))) | exact List.mem_cons_of_mem _ (List.mem_cons_of_mem _ (List.mem_cons_of_mem _ (List.mem_cons_of_mem _ (List.mem_cons_self)))) | exact List.mem_cons_of_mem _ (List.mem_cons_of_mem _ (List.mem_cons_of_mem _ (List.mem_cons_of_mem _ (List.mem_cons_of_mem _ (List.mem_cons_self))))) | exact List.mem_cons_of_mem _ (List.mem_cons_of_mem _ (List.mem_cons_of_mem _ (List.mem_cons_of_mem _ (List.mem_cons_of_mem _ (List.mem_cons_of_mem _ (List.mem_cons_self)))))))) ?_) | (with_reducible refine load_vec rfl _ rfl _ rfl v2 (hs.hold (_, v2) (List.mem_cons_self)) ?_) | (go_at_call 13; (with_reducible refine (test_1 _).mono ?_); rintro e u ⟨rfl, hb⟩; replace hs := hs.below hb; clear hb))
  refine (two_call80 v1 v2 _ _ _).mono ?_
  rintro e u4 ⟨rfl, hb⟩
  replace hs := (HL.alloc hs _).below hb
  clear hb
  rw [show v1 ||| v2 = v1 by decide +kernel]
  go_wp2_with (first | (with_reducible refine store_vec rfl _ _ rfl _ _ rfl rfl 0 (heap_new_zero _) ?_; intro wA hA; replace hs := HL.push hs hA; clear hA) | (with_reducible refine load_vec rfl _ rfl _ rfl v1 (hs.hold (_, v1) (by simp)) ?_) | (with_reducible refine load_vec rfl _ rfl _ rfl v2 (hs.hold (_, v2) (List.mem_cons_self)) ?_))
  refine (bits_short _ _ _).mono ?_
  rintro e u5 ⟨rfl, hb⟩
  replace hs := (HL.alloc hs _).below hb
  clear hb
  have hG := @guard_vec
  have hE1 := eqv (show v1 = v1 from rfl)
  go_wp2_with (first | (with_reducible refine store_vec rfl _ _ rfl _ _ rfl rfl 0 (heap_new_zero _) ?_; intro wA hA; replace hs := HL.push hs hA; clear hA) | (with_reducible refine load_vec rfl _ rfl _ rfl v1 (hs.hold (_, v1) (by simp)) ?_) | (with_reducible refine load_vec rfl _ rfl _ rfl v2 (hs.hold (_, v2) (List.mem_cons_self)) ?_) | ((with_reducible refine load_vec_g ?_ _ rfl _ rfl v1 (hs.hold (_, v1) (by simp)) ?_); (focus rfl)))
  go_ret
  exact ⟨rfl, hs.bel⟩

end Go.Proofs.Ytifafdfjmhadaaa
