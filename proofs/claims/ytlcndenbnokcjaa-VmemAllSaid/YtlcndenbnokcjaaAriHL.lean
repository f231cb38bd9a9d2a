/-
  Worlds that hold a list of vectors; what the walks of own laws share.
-/
import Derived.Test.YtlcndenbnokcjaaNew
import Derived.Test.YtlcndenbnokcjaaEq
set_option linter.unusedSimpArgs false
set_option linter.unusedVariables false
namespace Go.Proofs.Ytlcndenbnokcjaa
open Go.RowKit Pl
set_option linter.unusedSimpArgs false
set_option linter.unusedVariables false

/-- World u is w0 but for new blocks; those that l names hold its vectors. -/
abbrev HL (w0 : World) (l : List (Nat × Vec)) (u : World) : Prop := N1 w0 l 0 none u
theorem HL.start (w : World) : HL w [] w := N1.start 0 (Below.refl _ _) (fun q hq => by cases hq)
theorem HL.push {w0 u u1 : World} {l : List (Nat × Vec)} {v : Vec} {x : Obj} (h : HL w0 l u) (hs : Sets (u.alloc x) u.heap.size v u1) : HL w0 ((u.heap.size, v) :: l) u1 :=
  N1.start 0 (below_store h.bel (Nat.le_refl _) hs) (fun q hq => by
    rcases List.mem_cons.1 hq with rfl | hq
    · exact hs.this
    · exact blk_sets (blk_alloc (h.hold q hq) x) hs (Nat.ne_of_lt (block_lt (h.hold q hq))))
theorem HL.alloc {w0 u : World} {l : List (Nat × Vec)} (h : HL w0 l u) (x : Obj) : HL w0 l (u.alloc x) :=
  N1.start 0 (h.bel.alloc h.bel.size _) (fun q hq => blk_alloc (h.hold q hq) _)
theorem eqv {u v : Vec} (h : u = v) : ∀ w, (Op.equalIn 10000 61 (.agg (cells u)) (.agg (cells v))).run Try.prog w = .ok true w := fun w => by
  have := equal_vec u v w
  rw [decide_eq_true h] at this
  exact this
theorem HL.pushz {w0 u : World} {l : List (Nat × Vec)} (h : HL w0 l u) : HL w0 ((u.heap.size, 0) :: l) (u.alloc (.cells (cells 0) 61)) :=
  N1.start 0 (h.bel.alloc h.bel.size _) (fun q hq => by
    rcases List.mem_cons.1 hq with rfl | hq
    · exact heap_alloc_new _ _
    · exact blk_alloc (h.hold q hq) _)
theorem HL.pop {w0 u : World} {q : Nat × Vec} {l : List (Nat × Vec)} (h : HL w0 (q :: l) u) : HL w0 l u := N1.start 0 h.bel (fun q hq => h.hold q (List.mem_cons_of_mem _ hq))
theorem HL.three (w : World) (a b c : Vec) : HL w [(w.heap.size + 2, c), (w.heap.size + 1, b), (w.heap.size, a)] (((w.alloc (.cells (cells a) 61)).alloc (.cells (cells b) 61)).alloc (.cells (cells c) 61)) := N1.start 0 (below_alloc3 _ _ _ _) (by
    simp only [List.mem_cons, List.not_mem_nil, or_false, forall_eq_or_imp, forall_eq]
    exact ⟨heap_alloc3_2 _ _ _ _, heap_alloc3_1 _ _ _ _, heap_alloc3_0 _ _ _ _⟩)
theorem HL.two (w : World) (a b : Vec) : HL w [(w.heap.size + 1, b), (w.heap.size, a)] ((w.alloc (.cells (cells a) 61)).alloc (.cells (cells b) 61)) := N1.start 0 (((Below.refl _ _).alloc (Nat.le_refl _) _).alloc (by simp) _) (by
    simp only [List.mem_cons, List.not_mem_nil, or_false, forall_eq_or_imp, forall_eq]
    exact ⟨heap_alloc2_new _ _ _, heap_alloc2_old _ _ _⟩)
theorem ne_yes {a b : Int} (h : a ≠ b) : (a != b) = true := bne_iff_ne.2 h


end Go.Proofs.Ytlcndenbnokcjaa
