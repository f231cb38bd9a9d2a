/-
  plaitlaw08.awake.
-/
import Derived.Test.YtnjhojjpajnbhaaWidV
import Derived.Deep.RegionHeld3
import Derived.Test.YtnjhojjpajnbhaaWidRA
import Derived.Test.YtnjhojjpajnbhaaWidB
import Derived.Test.YtnjhojjpajnbhaaWidOf
import Derived.Test.YtnjhojjpajnbhaaEq
set_option linter.unusedSimpArgs false
set_option linter.unusedVariables false
namespace Go.Proofs.Ytnjhojjpajnbhaa
open Go.RowKit Pl

def v1 : Vec := buildOn 0 8 (fun i => [255].getD i 0) 1
theorem of_v1 (w w0 : World) (b c : Nat) (fr : Nat × Nat) (t : TypeId) (hc : 1 ≤ c) (hb : w.heap[b]? = some (.cells #[.int .u64 255] t fr)) (_h : w0 = w) :
    Calls Try.prog 18 #[.int .i64 8, .slice (some ⟨b, 0, none⟩) 1 c] w fun e w' => e = .returned (.agg (cells v1)) ∧ Below w.heap.size w w' :=
  of8 [255] 1 c w b fr t (by decide) (by decide) hc rfl hb
def v2 : Vec := buildOn 0 16 (fun i => [65535].getD i 0) 1
theorem of_v2 (w w0 : World) (b c : Nat) (fr : Nat × Nat) (t : TypeId) (hc : 1 ≤ c) (hb : w.heap[b]? = some (.cells #[.int .u64 65535] t fr)) (_h : w0 = w) :
    Calls Try.prog 18 #[.int .i64 16, .slice (some ⟨b, 0, none⟩) 1 c] w fun e w' => e = .returned (.agg (cells v2)) ∧ Below w.heap.size w w' :=
  of16 [65535] 1 c w b fr t (by decide) (by decide) hc rfl hb
def v3 : Vec := buildOn 0 16 (fun i => [300, 65000].getD i 0) 2
theorem of_v3 (w w0 : World) (b c : Nat) (fr : Nat × Nat) (t : TypeId) (hc : 2 ≤ c) (hb : w.heap[b]? = some (.cells #[.int .u64 300, .int .u64 65000] t fr)) (_h : w0 = w) :
    Calls Try.prog 18 #[.int .i64 16, .slice (some ⟨b, 0, none⟩) 2 c] w fun e w' => e = .returned (.agg (cells v3)) ∧ Below w.heap.size w w' :=
  of16 [300, 65000] 2 c w b fr t (by decide) (by decide) hc rfl hb
def v4 : Vec := buildOn 0 8 (fun i => [127, 128].getD i 0) 2
theorem of_v4 (w w0 : World) (b c : Nat) (fr : Nat × Nat) (t : TypeId) (hc : 2 ≤ c) (hb : w.heap[b]? = some (.cells #[.int .u64 127, .int .u64 128] t fr)) (_h : w0 = w) :
    Calls Try.prog 18 #[.int .i64 8, .slice (some ⟨b, 0, none⟩) 2 c] w fun e w' => e = .returned (.agg (cells v4)) ∧ Below w.heap.size w w' :=
  of8 [127, 128] 2 c w b fr t (by decide) (by decide) hc rfl hb
theorem f1 : unW 64903 v1 = (v2, 0) := by decide +kernel
theorem f2 : nbuild 8 8 (holdN (-128) 127 16 v3) (holdN (-128) 127 16 0) 8 = v4 := by decide +kernel
theorem f3 : unW 64869 v2 = (0, 1) := by decide +kernel
theorem un_1 (w : World) : Calls Try.prog 10 #[.int .i64 64903, .agg (cells v1)] w fun e w' => e = .returned (.tuple #[.agg (cells v2), .int .i64 0]) ∧ Below w.heap.size w w' := by
  have h := un_any 64903 v1 w ⟨by decide, by decide⟩
  rw [f1] at h
  exact h
theorem un_2 (w : World) : Calls Try.prog 10 #[.int .i64 64869, .agg (cells v2)] w fun e w' => e = .returned (.tuple #[.agg (cells 0), .int .i64 1]) ∧ Below w.heap.size w w' := by
  have h := un_any 64869 v2 w ⟨by decide, by decide⟩
  rw [f3] at h
  exact h
theorem bin_1 (w : World) : Calls Try.prog 12 #[.int .i64 64869, .agg (cells v3), .agg (cells 0)] w fun e w' => e = .returned (.tuple #[.agg (cells v4), .int .i64 0]) ∧ Below w.heap.size w w' := by
  have h := bin_narrow101 v3 0 w
  rw [f2] at h
  exact h
theorem held_take {P : Program} {l : List Oper} {Q : Exit → Act → World → Prop} {md : Region.Mode} {S : World → Prop} {i : Nat} {oi : Oper} {v : Value} {fuel : Nat} {listed : Array Bool} {a : Act} {w : World} (hi : l[i]? = some oi)
    (hs : Region.noSelect l.toArray = true) (hf : Region.free md l.toArray listed i = true) (hr : (Region.ready md l.toArray listed).contains i = true)
    (hQ : ∀ c a w, Q (.panic c) (a.put oi.dst v) w → Q (.panic c) a w) (hy : YieldsIf P l.toArray S oi v a) (hS : S w)
    (h : wpAnyH P md l.toArray Q S fuel (listed.setIfInBounds i true) (a.put oi.dst v) w) : wpAnyH P md l.toArray Q S (fuel + 1) listed a w :=
  wpAnyH_take (by simpa using hi) hs hf hr hQ hy hS h
theorem held_step {P : Program} {l : List Oper} {Q : Exit → Act → World → Prop} {md : Region.Mode} {S : World → Prop} (i : Nat) {oi : Oper} {fuel : Nat} {listed : Array Bool} {a : Act} {w : World} (hr : Region.ready md l.toArray listed = [i]) (hi : l[i]? = some oi)
    (h : ∀ K : Act → World → Prop, Shut (∀ a w, S w → (S w → wpAnyH P md l.toArray Q S fuel (listed.setIfInBounds i true) a w) → K a w) → if Region.wanted oi (yielded l.toArray a.tmps) = true then Oper.wp P oi a w K Q else K (a.put oi.dst undef) w) :
    wpAnyH P md l.toArray Q S (fuel + 1) listed a w :=
  wpAnyH_ready hr (by simp) (AllReadyH.cons (by simpa using hi) h AllReadyH.nil)
theorem heap_new_drew (w : World) (o : Obj) : (w.alloc o).drew.heap[w.heap.size]? = some o := heap_alloc_new w o
theorem load_run {o : Oper} {a : Act} {u : World} (x : Operand) (ho : o.op = .load 23 x) (g : Nat) (hx : a.eval x = .pointer (some ⟨g, 0, none⟩)) (v : Vec) (h : u.heap[g]? = some (.cells (cells v) 23 (0, 0))) :
    (execOp a.eval o).run Try.prog u = .ok (.value (.agg (cells v))) u := by
  unfold execOp
  simp only [ho, hx, Instr.loadAt, Instr.sureAddr, Sem.run_bind, Sem.run_pure, Result.andThen_ok, run_loadVar_row u g 23 23 (cells v) (0, 0) _ h vunder rfl (vsize v)]
/-- World u is w0 below block B, and its blocks hold the vectors that l names. -/
def Holds (B : Nat) (w0 : World) (l : List (Nat × Vec)) (u : World) : Prop := Below B w0 u ∧ ∀ p ∈ l, u.heap[p.1]? = some (.cells (cells p.2) 23 (0, 0))
theorem Holds.drew {B : Nat} {w0 u : World} {l : List (Nat × Vec)} (h : Holds B w0 l u) : Holds B w0 l u.drew := ⟨h.1.drew, h.2⟩
theorem Holds.alloc {w0 u : World} {l : List (Nat × Vec)} (h : Holds w0.heap.size w0 l u) (o : Obj) : Holds w0.heap.size w0 l (u.alloc o) := ⟨h.1.alloc h.1.size o, fun p hp => blk_alloc (h.2 p hp) o⟩
theorem Holds.below {w0 u u1 : World} {l : List (Nat × Vec)} (h : Holds w0.heap.size w0 l u) (hb : Below u.heap.size u u1) : Holds w0.heap.size w0 l u1 := ⟨h.1.trans (hb.mono h.1.size), fun p hp => blk_keep (h.2 p hp) hb⟩

set_option maxHeartbeats 1600000 in
theorem awake_any (w : World) : Calls Try.prog 9 #[] w fun e w' => e = .returned (.bool true) ∧ Below w.heap.size w w' := by
  go_enter Try.func9, Try.ntmps9
  go_wp2_with fail
  refine (of_v1 _ _ _ _ _ _ (by decide) (heap_alloc_new _ _) rfl).mono ?_
  rintro e w1 ⟨rfl, hb1⟩
  go_wp2_with fail
  refine (un_1 _).mono ?_
  rintro e w2 ⟨rfl, hb2⟩
  go_wp2_with (with_reducible refine store_vec rfl _ _ rfl _ _ rfl rfl 0 (heap_new_zero _) ?_; intro wA hA)
  have hv2 := hA.this
  have hZA := below_store (below_next (below_new (Below.refl _ _) (Nat.le_refl _) _ hb1) (Nat.le_refl _) hb2) (Nat.le_refl _) hA
  refine (of_v3 _ _ _ _ _ _ (by decide) (heap_alloc_new _ _) rfl).mono ?_
  rintro e w3 ⟨rfl, hb3⟩
  have hv2b := blk_keep (blk_alloc hv2 _) hb3
  have hZ3 := below_new hZA (Nat.le_refl _) _ hb3
  go_wp2_with fail
  rw [← cells_zero]
  refine (bin_1 _).mono ?_
  rintro e w4 ⟨rfl, hb4⟩
  have hv2c := blk_keep hv2b hb4
  have hZ4 := below_next hZ3 (Nat.le_refl _) hb4
  clear hv2 hv2b hb1 hb2 hA hb3 hb4 hZA hZ3
  go_wp2_with (first | (with_reducible refine store_vec rfl _ _ rfl _ _ rfl rfl 0 (heap_new_zero _) ?_; intro wB hB; have hv2B := blk_sets (blk_alloc hv2c _) hB (Nat.ne_of_lt (block_lt hv2c))) | (with_reducible refine load_vec rfl _ rfl _ rfl _ hv2B ?_))
  have hv4B := hB.this
  have hZB := below_store hZ4 (Nat.le_refl _) hB
  refine (un_2 _).mono ?_
  rintro e w5 ⟨rfl, hb5⟩
  have hv2D := blk_keep hv2B hb5
  have hv4D := blk_keep hv4B hb5
  have hZ5 := below_next hZB (Nat.le_refl _) hb5
  clear hv2c hv2B hv4B hb5 hB hZ4 hZB
  go_wp2_with (with_reducible refine store_vec rfl _ _ rfl _ _ rfl rfl 0 (heap_new_zero _) ?_; intro wC hC)
  have hv2E := blk_sets (blk_alloc hv2D _) hC (Nat.ne_of_lt (block_lt hv2D))
  have hv4E := blk_sets (blk_alloc hv4D _) hC (Nat.ne_of_lt (block_lt hv4D))
  have hS : Holds w.heap.size w [(w2.heap.size, v2), (w4.heap.size, v4)] wC := ⟨below_store hZ5 (Nat.le_refl _) hC, by simp only [List.mem_cons, List.not_mem_nil, or_false, forall_eq_or_imp, forall_eq]; exact ⟨hv2E, hv4E⟩⟩
  have hE1 := equal_vec v2 v2
  have hE2 := equal_vec v4 v4
  have hG := @guard_vec
  simp only [decide_true] at hE1 hE2
  clear hv2D hv4D hZ5 hC hv2E hv4E
  refine wp_region_held_drew (S := Holds w.heap.size w [(w2.heap.size, v2), (w4.heap.size, v4)]) (by kernel_rfl) hS.drew (fun hHeld => ?_)
  (refine held_take (i := 0) (v := .agg (cells v2)) rfl (by kernel_rfl) (by kernel_rfl) (by kernel_rfl) (fun _ _ _ h => h) (Or.inl ⟨rfl, fun u hu => load_run _ rfl _ rfl v2 (hu.2 (w2.heap.size, v2) (by simp))⟩) hHeld ?_; (try simp only [Act.put]); (try simp only [List.setIfInBounds_toArray]); (try simp only [List.set_cons_succ]); (try simp only [List.set_cons_zero]))
  refine held_step 1 (by kernel_rfl) rfl (fun K hK => ?_)
  go_simp
  refine hK.out _ _ (hHeld.alloc _) (fun hHeld => ?_)
  clear hK K
  (try simp only [Act.put]); (try simp only [List.setIfInBounds_toArray]); (try simp only [List.set_cons_succ]); (try simp only [List.set_cons_zero])
  refine held_step 2 (by kernel_rfl) rfl (fun K hK => ?_)
  go_simp; go_at_call 18; refine (of_v2 _ _ _ _ _ _ (Nat.le_refl _) (heap_new_drew _ _) rfl).mono ?_; rintro e w6 ⟨rfl, hb6⟩; go_wp2_with fail
  refine hK.out _ _ (hHeld.below hb6) (fun hHeld => ?_)
  clear hK K
  (try simp only [Act.put]); (try simp only [List.setIfInBounds_toArray]); (try simp only [List.set_cons_succ]); (try simp only [List.set_cons_zero])
  (refine held_take (i := 3) (v := ?_) rfl (by kernel_rfl) (by kernel_rfl) (by kernel_rfl) (fun _ _ _ h => h) (Or.inl ⟨rfl, fun u hu => ?_⟩) hHeld ?_; rotate_left; (focus (go_simp; (try with_reducible rfl); done)); (try simp only [Act.put]); (try simp only [List.setIfInBounds_toArray]); (try simp only [List.set_cons_succ]); (try simp only [List.set_cons_zero]))
  (refine held_take (i := 4) (v := ?_) rfl (by kernel_rfl) (by kernel_rfl) (by kernel_rfl) (fun _ _ _ h => h) (Or.inl ⟨rfl, fun u hu => ?_⟩) hHeld ?_; rotate_left; (focus (go_simp; (try with_reducible rfl); done)); (try simp only [Act.put]); (try simp only [List.setIfInBounds_toArray]); (try simp only [List.set_cons_succ]); (try simp only [List.set_cons_zero]))
  (refine held_take (i := 5) (v := ?_) rfl (by kernel_rfl) (by kernel_rfl) (by kernel_rfl) (fun _ _ _ h => h) (Or.inl ⟨rfl, fun u hu => ?_⟩) hHeld ?_; rotate_left; (focus (go_simp; (try with_reducible rfl); done)); (try simp only [Act.put]); (try simp only [List.setIfInBounds_toArray]); (try simp only [List.set_cons_succ]); (try simp only [List.set_cons_zero]))
  (refine held_take (i := 6) (v := ?_) rfl (by kernel_rfl) (by kernel_rfl) (by kernel_rfl) (fun _ _ _ h => h) (Or.inl ⟨rfl, fun u hu => ?_⟩) hHeld ?_; rotate_left; (focus (go_simp; (try with_reducible rfl); done)); (try simp only [Act.put]); (try simp only [List.setIfInBounds_toArray]); (try simp only [List.set_cons_succ]); (try simp only [List.set_cons_zero]))
  (refine held_take (i := 7) (v := ?_) rfl (by kernel_rfl) (by kernel_rfl) (by kernel_rfl) (fun _ _ _ h => h) (Or.inl ⟨rfl, fun u hu => ?_⟩) hHeld ?_; rotate_left; (focus (go_simp; (try with_reducible rfl); done)); (try simp only [Act.put]); (try simp only [List.setIfInBounds_toArray]); (try simp only [List.set_cons_succ]); (try simp only [List.set_cons_zero]))
  (refine held_take (i := 8) (v := ?_) rfl (by kernel_rfl) (by kernel_rfl) (by kernel_rfl) (fun _ _ _ h => h) (Or.inl ⟨rfl, fun u hu => ?_⟩) hHeld ?_; rotate_left; (focus (go_simp; (try with_reducible rfl); done)); (try simp only [Act.put]); (try simp only [List.setIfInBounds_toArray]); (try simp only [List.set_cons_succ]); (try simp only [List.set_cons_zero]))
  (refine held_take (i := 9) (v := .agg (cells v4)) rfl (by kernel_rfl) (by kernel_rfl) (by kernel_rfl) (fun _ _ _ h => h) (Or.inl ⟨rfl, fun u hu => load_run _ rfl _ rfl v4 (hu.2 (w4.heap.size, v4) (by simp))⟩) hHeld ?_; (try simp only [Act.put]); (try simp only [List.setIfInBounds_toArray]); (try simp only [List.set_cons_succ]); (try simp only [List.set_cons_zero]))
  refine held_step 10 (by kernel_rfl) rfl (fun K hK => ?_)
  go_simp
  refine hK.out _ _ (hHeld.alloc _) (fun hHeld => ?_)
  clear hK K
  (try simp only [Act.put]); (try simp only [List.setIfInBounds_toArray]); (try simp only [List.set_cons_succ]); (try simp only [List.set_cons_zero])
  refine held_step 11 (by kernel_rfl) rfl (fun K hK => ?_)
  go_simp; go_at_call 18; refine (of_v4 _ _ _ _ _ _ (Nat.le_refl _) (heap_alloc_new _ _) rfl).mono ?_; rintro e w7 ⟨rfl, hb7⟩; go_wp2_with fail
  refine hK.out _ _ (hHeld.below hb7) (fun hHeld => ?_)
  clear hK K
  (try simp only [Act.put]); (try simp only [List.setIfInBounds_toArray]); (try simp only [List.set_cons_succ]); (try simp only [List.set_cons_zero])
  (refine held_take (i := 12) (v := ?_) rfl (by kernel_rfl) (by kernel_rfl) (by kernel_rfl) (fun _ _ _ h => h) (Or.inl ⟨rfl, fun u hu => ?_⟩) hHeld ?_; rotate_left; (focus (go_simp; (try with_reducible rfl); done)); (try simp only [Act.put]); (try simp only [List.setIfInBounds_toArray]); (try simp only [List.set_cons_succ]); (try simp only [List.set_cons_zero]))
  (refine held_take (i := 13) (v := ?_) rfl (by kernel_rfl) (by kernel_rfl) (by kernel_rfl) (fun _ _ _ h => h) (Or.inl ⟨rfl, fun u hu => ?_⟩) hHeld ?_; rotate_left; (focus (go_simp; (try with_reducible rfl); done)); (try simp only [Act.put]); (try simp only [List.setIfInBounds_toArray]); (try simp only [List.set_cons_succ]); (try simp only [List.set_cons_zero]))
  (refine held_take (i := 14) (v := ?_) rfl (by kernel_rfl) (by kernel_rfl) (by kernel_rfl) (fun _ _ _ h => h) (Or.inl ⟨rfl, fun u hu => ?_⟩) hHeld ?_; rotate_left; (focus (go_simp; (try with_reducible rfl); done)); (try simp only [Act.put]); (try simp only [List.setIfInBounds_toArray]); (try simp only [List.set_cons_succ]); (try simp only [List.set_cons_zero]))
  (refine held_take (i := 15) (v := ?_) rfl (by kernel_rfl) (by kernel_rfl) (by kernel_rfl) (fun _ _ _ h => h) (Or.inl ⟨rfl, fun u hu => ?_⟩) hHeld ?_; rotate_left; (focus (go_simp; (try with_reducible rfl); done)); (try simp only [Act.put]); (try simp only [List.setIfInBounds_toArray]); (try simp only [List.set_cons_succ]); (try simp only [List.set_cons_zero]))
  (refine held_take (i := 16) (v := ?_) rfl (by kernel_rfl) (by kernel_rfl) (by kernel_rfl) (fun _ _ _ h => h) (Or.inl ⟨rfl, fun u hu => ?_⟩) hHeld ?_; rotate_left; (focus (go_simp; (try with_reducible rfl); done)); (try simp only [Act.put]); (try simp only [List.setIfInBounds_toArray]); (try simp only [List.set_cons_succ]); (try simp only [List.set_cons_zero]))
  (refine held_take (i := 17) (v := ?_) rfl (by kernel_rfl) (by kernel_rfl) (by kernel_rfl) (fun _ _ _ h => h) (Or.inl ⟨rfl, fun u hu => ?_⟩) hHeld ?_; rotate_left; (focus (go_simp; (try with_reducible rfl); done)); (try simp only [Act.put]); (try simp only [List.setIfInBounds_toArray]); (try simp only [List.set_cons_succ]); (try simp only [List.set_cons_zero]))
  (refine held_take (i := 18) (v := ?_) rfl (by kernel_rfl) (by kernel_rfl) (by kernel_rfl) (fun _ _ _ h => h) (Or.inl ⟨rfl, fun u hu => ?_⟩) hHeld ?_; rotate_left; (focus (go_simp; (try with_reducible rfl); done)); (try simp only [Act.put]); (try simp only [List.setIfInBounds_toArray]); (try simp only [List.set_cons_succ]); (try simp only [List.set_cons_zero]))
  (refine held_take (i := 19) (v := ?_) rfl (by kernel_rfl) (by kernel_rfl) (by kernel_rfl) (fun _ _ _ h => h) (Or.inl ⟨rfl, fun u hu => ?_⟩) hHeld ?_; rotate_left; (focus (go_simp; (try with_reducible rfl); done)); (try simp only [Act.put]); (try simp only [List.setIfInBounds_toArray]); (try simp only [List.set_cons_succ]); (try simp only [List.set_cons_zero]))
  (refine held_take (i := 20) (v := ?_) rfl (by kernel_rfl) (by kernel_rfl) (by kernel_rfl) (fun _ _ _ h => h) (Or.inl ⟨rfl, fun u hu => ?_⟩) hHeld ?_; rotate_left; (focus (go_simp; (try with_reducible rfl); done)); (try simp only [Act.put]); (try simp only [List.setIfInBounds_toArray]); (try simp only [List.set_cons_succ]); (try simp only [List.set_cons_zero]))
  (refine held_take (i := 21) (v := ?_) rfl (by kernel_rfl) (by kernel_rfl) (by kernel_rfl) (fun _ _ _ h => h) (Or.inl ⟨rfl, fun u hu => ?_⟩) hHeld ?_; rotate_left; (focus (go_simp; (try with_reducible rfl); done)); (try simp only [Act.put]); (try simp only [List.setIfInBounds_toArray]); (try simp only [List.set_cons_succ]); (try simp only [List.set_cons_zero]))
  (refine held_take (i := 22) (v := ?_) rfl (by kernel_rfl) (by kernel_rfl) (by kernel_rfl) (fun _ _ _ h => h) (Or.inl ⟨rfl, fun u hu => ?_⟩) hHeld ?_; rotate_left; (focus (go_simp; (try with_reducible rfl); done)); (try simp only [Act.put]); (try simp only [List.setIfInBounds_toArray]); (try simp only [List.set_cons_succ]); (try simp only [List.set_cons_zero]))
  refine wpAnyH_done (by kernel_rfl) ?_ _
  go_wp2
  go_ret
  exact ⟨rfl, hHeld.1⟩

end Go.Proofs.Ytnjhojjpajnbhaa
