/-
  What the walks of chapter 11's laws share; plaitlaw11.awake.
-/
import Derived.Test.YtlcndenbnokcjaaVmX
import Derived.Deep.RegionHeld3
import Derived.Test.YtlcndenbnokcjaaMemW
import Derived.Test.YtlcndenbnokcjaaEq
import Derived.Test.YtlcndenbnokcjaaAriHL
set_option linter.unusedSimpArgs false
set_option linter.unusedVariables false
namespace Go.Proofs.Ytlcndenbnokcjaa
open Go.RowKit Pl


theorem held_take {P : Program} {l : List Oper} {Q : Exit → Act → World → Prop} {md : Region.Mode} {S : World → Prop} {i : Nat} {oi : Oper} {v : Value} {fuel : Nat} {listed : Array Bool} {a : Act} {w : World} (hi : l[i]? = some oi)
    (hs : Region.noSelect l.toArray = true) (hf : Region.free md l.toArray listed i = true) (hr : (Region.ready md l.toArray listed).contains i = true)
    (hQ : ∀ c a w, Q (.panic c) (a.put oi.dst v) w → Q (.panic c) a w) (hy : YieldsIf P l.toArray S oi v a) (hS : S w)
    (h : wpAnyH P md l.toArray Q S fuel (listed.setIfInBounds i true) (a.put oi.dst v) w) : wpAnyH P md l.toArray Q S (fuel + 1) listed a w :=
  wpAnyH_take (by simpa using hi) hs hf hr hQ hy hS h
theorem held_step {P : Program} {l : List Oper} {Q : Exit → Act → World → Prop} {md : Region.Mode} {S : World → Prop} (i : Nat) {oi : Oper} {fuel : Nat} {listed : Array Bool} {a : Act} {w : World} (hr : Region.ready md l.toArray listed = [i]) (hi : l[i]? = some oi)
    (h : ∀ K : Act → World → Prop, Shut (∀ a w, S w → (S w → wpAnyH P md l.toArray Q S fuel (listed.setIfInBounds i true) a w) → K a w) → if Region.wanted oi (yielded l.toArray a.tmps) = true then Oper.wp P oi a w K Q else K (a.put oi.dst undef) w) :
    wpAnyH P md l.toArray Q S (fuel + 1) listed a w :=
  wpAnyH_ready hr (by simp) (AllReadyH.cons (by simpa using hi) h AllReadyH.nil)
theorem heap_new_drew (w : World) (o : Obj) : (w.alloc o).drew.heap[w.heap.size]? = some o := heap_alloc_new w o
theorem load_run {o : Oper} {a : Act} {u : World} (x : Operand) (ho : o.op = .load 61 x) (g : Nat) (hx : a.eval x = .pointer (some ⟨g, 0, none⟩)) (v : Vec) (h : u.heap[g]? = some (.cells (cells v) 61 (0, 0))) :
    (execOp a.eval o).run Try.prog u = .ok (.value (.agg (cells v))) u := by
  unfold execOp
  simp only [ho, hx, Instr.loadAt, Instr.sureAddr, Sem.run_bind, Sem.run_pure, Result.andThen_ok, run_loadVar_row u g 61 61 (cells v) (0, 0) _ h vunder rfl (vsize v)]

/-- World u is w0 but for new blocks: memory o lies in some, vectors l in others. -/
structure MV (w0 : World) (o : MObj) (l : List (Nat × Vec)) (u : World) : Prop where
  ms : MS w0 [o] u
  hold : ∀ q ∈ l, u.heap[q.1]? = some (.cells (cells q.2) 61 (0, 0))
  off : ∀ q ∈ l, ¬ o.has q.1
theorem MV.mem {w0 u : World} {o : MObj} {l : List (Nat × Vec)} (h : MV w0 o l u) : MemAt u o := h.ms.get 0 rfl
theorem MV.start {w0 u : World} {o : MObj} (h : MS w0 [o] u) : MV w0 o [] u := ⟨h, fun _ h => (by cases h), fun _ h => (by cases h)⟩
theorem MV.below {w0 u u1 : World} {o : MObj} {l : List (Nat × Vec)} (h : MV w0 o l u) (hb : Below u.heap.size u u1) : MV w0 o l u1 :=
  ⟨h.ms.below hb, fun q hq => blk_keep (h.hold q hq) hb, h.off⟩
theorem MV.pop {w0 u : World} {o : MObj} {q : Nat × Vec} {l : List (Nat × Vec)} (h : MV w0 o (q :: l) u) : MV w0 o l u := ⟨h.ms, fun q hq => h.hold q (List.mem_cons_of_mem _ hq), fun q hq => h.off q (List.mem_cons_of_mem _ hq)⟩
theorem MV.alloc {w0 u : World} {o : MObj} {l : List (Nat × Vec)} (h : MV w0 o l u) (x : Obj) : MV w0 o l (u.alloc x) := h.below ((Below.refl _ _).alloc (Nat.le_refl _) _)
theorem MV.drew {w0 u : World} {o : MObj} {l : List (Nat × Vec)} (h : MV w0 o l u) : MV w0 o l u.drew := h.below (Below.refl _ _).drew
theorem MV.add {w0 u : World} {o : MObj} {l : List (Nat × Vec)} (h : MV w0 o l u) (b : Nat) (v : Vec) (hb : u.heap[b]? = some (.cells (cells v) 61 (0, 0))) (hn : ¬ o.has b) : MV w0 o ((b, v) :: l) u := by
  refine ⟨h.ms, fun q hq => ?_, fun q hq => ?_⟩
  · rcases List.mem_cons.1 hq with rfl | hq
    · exact hb
    · exact h.hold q hq
  · rcases List.mem_cons.1 hq with rfl | hq
    · exact hn
    · exact h.off q hq
theorem MV.push {w0 u u1 : World} {o : MObj} {l : List (Nat × Vec)} {v : Vec} {x : Obj} (h : MV w0 o l u) (hs : Sets (u.alloc x) u.heap.size v u1) : MV w0 o ((u.heap.size, v) :: l) u1 := by
  have hb : Below u.heap.size u u1 := ((Below.refl _ _).alloc (Nat.le_refl _) x).trans hs.below
  exact (h.below hb).add _ v hs.this (fun e => Nat.lt_irrefl _ (h.mem.has_lt e))
theorem MV.pushz {w0 u : World} {o : MObj} {l : List (Nat × Vec)} (h : MV w0 o l u) : MV w0 o ((u.heap.size, 0) :: l) (u.alloc (.cells (cells 0) 61)) :=
  (h.alloc _).add _ 0 (heap_alloc_new _ _) (fun e => Nat.lt_irrefl _ (h.mem.has_lt e))
theorem MV.stored {w0 u u1 : World} {o : MObj} {l : List (Nat × Vec)} {γ : Nat → Nat} (h : MV w0 o l u) (hm : MemAt u1 (withβ o γ)) (hk : Keep (fun k => o.q = some k) u u1) : MV w0 (withβ o γ) l u1 :=
  ⟨h.ms.stored 0 rfl hk hm, fun q hq => hk.get (h.hold q hq) (fun e => h.off q hq (.inr e)), h.off⟩

theorem bits_byte (v : Vec) (s n j : Nat) (hj : j < n) : bitsAt v (8 * s + 8 * j) 8 = bitsAt v (8 * s) (8 * n) / 2 ^ (8 * j) % 256 := by
  apply Nat.eq_of_testBit_eq
  intro t
  show _ = (bitsAt v (8 * s) (8 * n) / 2 ^ (8 * j) % 2 ^ 8).testBit t
  rw [testBit_bitsAt, Nat.testBit_mod_two_pow, Nat.testBit_div_two_pow, testBit_bitsAt]
  by_cases ht : t < 8
  · have h1 : t + 8 * j < 8 * n := by omega
    simp [ht, h1, show 8 * s + 8 * j + t = 8 * s + (t + 8 * j) by omega]
  · simp [ht]
theorem byte_of_lane (v : Vec) (n i j : Nat) (hj : j < n) : getN v 8 (n * i + j) = getN v (8 * n) i / 2 ^ (8 * j) % 256 := by
  unfold getN
  rw [Nat.mul_add, Nat.mul_assoc 8 n i]
  exact bits_byte v (n * i) n j hj
theorem load_lane (γ : Nat → Nat) (v : Vec) (A s n i : Nat) (h : ∀ k, k < 16 → γ (A + k) = getN v 8 k) (hs : s = A + n * i) (hi : n * i + n ≤ 16) : loadN γ s n = getN v (8 * n) i := by
  rw [loadN_of γ s (getN v (8 * n) i) n (fun j hj => by rw [hs, Nat.add_assoc, h _ (by omega), byte_of_lane v n i j hj]), Nat.mod_eq_of_lt (getN_lt _ _ _)]
theorem join_back (v : Vec) : setN (setN 0 64 0 (getN v 64 0)) 64 1 (getN v 64 1) = v := by
  refine lanes_ext 64 2 (by decide) (by decide) fun i hi => ?_
  rw [getN_setN _ _ _ _ _ (by decide), getN_setN _ _ _ _ _ (by decide)]
  rcases i with _ | _ | i
  · simp [Nat.mod_eq_of_lt (getN_lt v 64 0)]
  · simp [Nat.mod_eq_of_lt (getN_lt v 64 1)]
  · omega
theorem stored_bytes (β : Nat → Nat) (v : Vec) (A : Nat) : ∀ k, k < 16 → storeN (storeN β (A + 8) (getN v 64 1) 8) A (getN v 64 0) 8 (A + k) = getN v 8 k := by
  intro k hk
  rw [storeN_get]
  by_cases h : k < 8
  · rw [if_pos (by omega), Nat.add_sub_cancel_left]
    have := byte_of_lane v 8 0 k h
    rw [Nat.mul_zero, Nat.zero_add] at this
    exact this.symm
  · rw [if_neg (by omega), storeN_get, if_pos (by omega)]
    have := byte_of_lane v 8 1 (k - 8) (by omega)
    rw [show 8 * 1 + (k - 8) = k by omega] at this
    rw [show A + k - (A + 8) = k - 8 by omega]
    exact this.symm
def awA : Vec := buildOn 0 8 (fun i => [255, 1].getD i 0) 2
def awB : Vec := buildOn 0 8 (fun i => [9].getD i 0) 1
def awC : Vec := buildOn 0 16 (fun i => [65535, 1].getD i 0) 2
theorem awG : getN awA 64 0 = 511 := by decide +kernel
theorem awS : spreadV 511 8 true = awC := by decide +kernel
theorem of_awA (w : World) (b c : Nat) (fr : Nat × Nat) (t : TypeId) (hc : 2 ≤ c) (hb : w.heap[b]? = some (.cells #[.int .u64 255, .int .u64 1] t fr)) :
    Calls Try.prog 30 #[.int .i64 8, .slice (some ⟨b, 0, none⟩) 2 c] w fun e w' => e = .returned (.agg (cells awA)) ∧ Below w.heap.size w w' := of8 [255, 1] 2 c w b fr t (by decide) (by decide) hc rfl hb
theorem of_awB (w : World) (b c : Nat) (fr : Nat × Nat) (t : TypeId) (hc : 1 ≤ c) (hb : w.heap[b]? = some (.cells #[.int .u64 9] t fr)) :
    Calls Try.prog 30 #[.int .i64 8, .slice (some ⟨b, 0, none⟩) 1 c] w fun e w' => e = .returned (.agg (cells awB)) ∧ Below w.heap.size w w' := of8 [9] 1 c w b fr t (by decide) (by decide) hc rfl hb
theorem of_awC (w : World) (b c : Nat) (fr : Nat × Nat) (t : TypeId) (hc : 2 ≤ c) (hb : w.heap[b]? = some (.cells #[.int .u64 65535, .int .u64 1] t fr)) :
    Calls Try.prog 30 #[.int .i64 16, .slice (some ⟨b, 0, none⟩) 2 c] w fun e w' => e = .returned (.agg (cells awC)) ∧ Below w.heap.size w w' := of16 [65535, 1] 2 c w b fr t (by decide) (by decide) hc rfl hb

set_option maxHeartbeats 1000000 in
set_option maxRecDepth 100000 in
theorem awake11 (w : World) : Calls Try.prog 27 #[] w fun e w' => e = .returned (.bool true) ∧ Below w.heap.size w w' := by
  have hN : ∀ W, Calls Try.prog 13 #[.int .i64 1, .int .i64 1] W fun e w' => ∃ o, e = .returned (.tuple #[.pointer (some ⟨o.p, 0, none⟩), .int .i64 0]) ∧ Fresh W w' o 86 65536 (fun _ => 0) 1 := fun W => new_ok 1 1 W (by decide) (by decide)
  have HN := Lib.hid hN
  clear hN
  go_enter Try.func27, Try.ntmps27
  go_wp2_with fail
  refine (HN.out _).mono ?_
  rintro e u1 ⟨o, rfl, hf⟩
  have hs : MV w o [] u1 := MV.start ((MS.start w).fresh hf)
  have hn0 := hf.hn
  clear hf HN
  go_wp2_with fail
  refine (of_awA _ _ _ _ _ (by decide) (heap_alloc_new _ _)).mono ?_
  rintro e u2 ⟨rfl, hb⟩
  replace hs := (hs.alloc _).below hb
  clear hb
  go_wp2_with fail
  refine (vstore_0b o awA 0 4 0 0 65516 (.slice none 0 0) 65520 u2 hs.mem (by decide) (by decide) (by decide) (by rw [hn0]; decide)).mono ?_
  rintro e u3 ⟨rfl, hm, hk⟩
  replace hs := hs.stored hm hk
  clear hm hk
  obtain ⟨o1, ho1⟩ : ∃ o1, o1 = withβ o (storeN (storeN o.β (65520 + 8) (getN awA 64 1) 8) 65520 (getN awA 64 0) 8) := ⟨_, rfl⟩
  have hn1 : o1.n = 65536 := by rw [ho1]; exact hn0
  have hp1 : o.p = o1.p := by rw [ho1]; rfl
  have hX : spreadV (loadN o1.β 65520 8) 8 true = awC := by
    have : loadN o1.β 65520 8 = 511 := by rw [ho1]; exact (load_store _ _ _ _).trans (by rw [awG])
    rw [this, awS]
  rw [← ho1] at hs
  rw [hp1]
  clear ho1 hn0 hp1
  have HX := Lib.hid hX
  clear hX
  go_wp2_with fail
  refine (of_awB _ _ _ _ _ (by decide) (heap_alloc_new _ _)).mono ?_
  rintro e u4 ⟨rfl, hb⟩
  replace hs := (hs.alloc _).below hb
  clear hb
  go_wp2_with fail
  refine (vstore_0b_far o1 awB 0 5 0 0 65516 (.slice none 0 0) 65521 u4 hs.mem (by decide) (by decide) (by decide) (by rw [hn1]; decide)).mono ?_
  rintro e u5 ⟨rfl, hb⟩
  replace hs := hs.below hb
  clear hb
  go_wp2_with fail
  rw [← cells_zero]
  refine (vload_01 o1 0 0 0 0 0 65520 (.slice none 0 0) 65520 u5 hs.mem (by decide) (by decide) (by decide) (by rw [hn1]; decide)).mono ?_
  rintro e u6 ⟨rfl, hb⟩
  rw [HX.out]
  replace hs := hs.below hb
  clear hb
  go_wp2_with ((with_reducible refine store_vec rfl _ _ rfl _ _ rfl rfl 0 (heap_new_zero _) ?_); intro wA hA)
  replace hs := hs.push hA
  have hE1 := equal_vec awC awC
  have hG := @guard_vec
  simp only [decide_true] at hE1
  clear hA HX hn1
  refine wp_region_held_drew (S := MV w o1 [(u6.heap.size, awC)]) (by kernel_rfl) hs.drew (fun hHeld => ?_)
  (refine held_take (i := 0) (v := ?_) rfl (by kernel_rfl) (by kernel_rfl) (by kernel_rfl) (fun _ _ _ h => h) (Or.inl ⟨rfl, fun u hu => ?_⟩) hHeld ?_; rotate_left; (focus (go_simp; (try with_reducible rfl); done)); (try simp only [Act.put]); (try simp only [List.setIfInBounds_toArray]); (try simp only [List.set_cons_succ]); (try simp only [List.set_cons_zero]))
  (refine held_take (i := 1) (v := ?_) rfl (by kernel_rfl) (by kernel_rfl) (by kernel_rfl) (fun _ _ _ h => h) (Or.inl ⟨rfl, fun u hu => ?_⟩) hHeld ?_; rotate_left; (focus (go_simp; (try with_reducible rfl); done)); (try simp only [Act.put]); (try simp only [List.setIfInBounds_toArray]); (try simp only [List.set_cons_succ]); (try simp only [List.set_cons_zero]))
  (refine held_take (i := 2) (v := ?_) rfl (by kernel_rfl) (by kernel_rfl) (by kernel_rfl) (fun _ _ _ h => h) (Or.inl ⟨rfl, fun u hu => ?_⟩) hHeld ?_; rotate_left; (focus (go_simp; (try with_reducible rfl); done)); (try simp only [Act.put]); (try simp only [List.setIfInBounds_toArray]); (try simp only [List.set_cons_succ]); (try simp only [List.set_cons_zero]))
  (refine held_take (i := 3) (v := ?_) rfl (by kernel_rfl) (by kernel_rfl) (by kernel_rfl) (fun _ _ _ h => h) (Or.inl ⟨rfl, fun u hu => ?_⟩) hHeld ?_; rotate_left; (focus (go_simp; (try with_reducible rfl); done)); (try simp only [Act.put]); (try simp only [List.setIfInBounds_toArray]); (try simp only [List.set_cons_succ]); (try simp only [List.set_cons_zero]))
  (refine held_take (i := 4) (v := ?_) rfl (by kernel_rfl) (by kernel_rfl) (by kernel_rfl) (fun _ _ _ h => h) (Or.inl ⟨rfl, fun u hu => ?_⟩) hHeld ?_; rotate_left; (focus (go_simp; (try with_reducible rfl); done)); (try simp only [Act.put]); (try simp only [List.setIfInBounds_toArray]); (try simp only [List.set_cons_succ]); (try simp only [List.set_cons_zero]))
  (refine held_take (i := 5) (v := ?_) rfl (by kernel_rfl) (by kernel_rfl) (by kernel_rfl) (fun _ _ _ h => h) (Or.inl ⟨rfl, fun u hu => ?_⟩) hHeld ?_; rotate_left; (focus (go_simp; (try with_reducible rfl); done)); (try simp only [Act.put]); (try simp only [List.setIfInBounds_toArray]); (try simp only [List.set_cons_succ]); (try simp only [List.set_cons_zero]))
  (refine held_take (i := 6) (v := ?_) rfl (by kernel_rfl) (by kernel_rfl) (by kernel_rfl) (fun _ _ _ h => h) (Or.inl ⟨rfl, fun u hu => ?_⟩) hHeld ?_; rotate_left; (focus (go_simp; (try with_reducible rfl); done)); (try simp only [Act.put]); (try simp only [List.setIfInBounds_toArray]); (try simp only [List.set_cons_succ]); (try simp only [List.set_cons_zero]))
  (refine held_take (i := 7) (v := ?_) rfl (by kernel_rfl) (by kernel_rfl) (by kernel_rfl) (fun _ _ _ h => h) (Or.inl ⟨rfl, fun u hu => ?_⟩) hHeld ?_; rotate_left; (focus (go_simp; (try with_reducible rfl); done)); (try simp only [Act.put]); (try simp only [List.setIfInBounds_toArray]); (try simp only [List.set_cons_succ]); (try simp only [List.set_cons_zero]))
  (refine held_take (i := 8) (v := ?_) rfl (by kernel_rfl) (by kernel_rfl) (by kernel_rfl) (fun _ _ _ h => h) (Or.inl ⟨rfl, fun u hu => ?_⟩) hHeld ?_; rotate_left; (focus (go_simp; (try with_reducible rfl); done)); (try simp only [Act.put]); (try simp only [List.setIfInBounds_toArray]); (try simp only [List.set_cons_succ]); (try simp only [List.set_cons_zero]))
  (refine held_take (i := 9) (v := ?_) rfl (by kernel_rfl) (by kernel_rfl) (by kernel_rfl) (fun _ _ _ h => h) (Or.inl ⟨rfl, fun u hu => ?_⟩) hHeld ?_; rotate_left; (focus (go_simp; (try with_reducible rfl); done)); (try simp only [Act.put]); (try simp only [List.setIfInBounds_toArray]); (try simp only [List.set_cons_succ]); (try simp only [List.set_cons_zero]))
  (refine held_take (i := 10) (v := ?_) rfl (by kernel_rfl) (by kernel_rfl) (by kernel_rfl) (fun _ _ _ h => h) (Or.inl ⟨rfl, fun u hu => ?_⟩) hHeld ?_; rotate_left; (focus (go_simp; (try with_reducible rfl); done)); (try simp only [Act.put]); (try simp only [List.setIfInBounds_toArray]); (try simp only [List.set_cons_succ]); (try simp only [List.set_cons_zero]))
  (refine held_take (i := 11) (v := .agg (cells awC)) rfl (by kernel_rfl) (by kernel_rfl) (by kernel_rfl) (fun _ _ _ h => h) (Or.inl ⟨rfl, fun u hu => load_run _ rfl _ rfl awC (hu.hold (u6.heap.size, awC) (by simp))⟩) hHeld ?_; (try simp only [Act.put]); (try simp only [List.setIfInBounds_toArray]); (try simp only [List.set_cons_succ]); (try simp only [List.set_cons_zero]))
  refine held_step 12 (by kernel_rfl) rfl (fun K hK => ?_)
  go_simp
  refine hK.out _ _ (hHeld.alloc _) (fun hHeld => ?_)
  clear hK K
  (try simp only [Act.put]); (try simp only [List.setIfInBounds_toArray]); (try simp only [List.set_cons_succ]); (try simp only [List.set_cons_zero])
  refine held_step 13 (by kernel_rfl) rfl (fun K hK => ?_)
  go_simp; go_at_call 30; refine (of_awC _ _ _ _ _ (Nat.le_refl _) (heap_new_drew _ _)).mono ?_; rintro e w6 ⟨rfl, hb6⟩; go_wp2_with fail
  refine hK.out _ _ (hHeld.below hb6) (fun hHeld => ?_)
  clear hK K
  (try simp only [Act.put]); (try simp only [List.setIfInBounds_toArray]); (try simp only [List.set_cons_succ]); (try simp only [List.set_cons_zero])
  (refine held_take (i := 14) (v := ?_) rfl (by kernel_rfl) (by kernel_rfl) (by kernel_rfl) (fun _ _ _ h => h) (Or.inl ⟨rfl, fun u hu => ?_⟩) hHeld ?_; rotate_left; (focus (go_simp; (try with_reducible rfl); done)); (try simp only [Act.put]); (try simp only [List.setIfInBounds_toArray]); (try simp only [List.set_cons_succ]); (try simp only [List.set_cons_zero]))
  (refine held_take (i := 15) (v := ?_) rfl (by kernel_rfl) (by kernel_rfl) (by kernel_rfl) (fun _ _ _ h => h) (Or.inl ⟨rfl, fun u hu => ?_⟩) hHeld ?_; rotate_left; (focus (go_simp; (try with_reducible rfl); done)); (try simp only [Act.put]); (try simp only [List.setIfInBounds_toArray]); (try simp only [List.set_cons_succ]); (try simp only [List.set_cons_zero]))
  (refine held_take (i := 16) (v := ?_) rfl (by kernel_rfl) (by kernel_rfl) (by kernel_rfl) (fun _ _ _ h => h) (Or.inl ⟨rfl, fun u hu => ?_⟩) hHeld ?_; rotate_left; (focus (go_simp; (try with_reducible rfl); done)); (try simp only [Act.put]); (try simp only [List.setIfInBounds_toArray]); (try simp only [List.set_cons_succ]); (try simp only [List.set_cons_zero]))
  refine held_step 17 (by kernel_rfl) rfl (fun K hK => ?_)
  go_simp; go_at_call 34; refine (vsize_5d _).mono ?_; rintro e w7 ⟨rfl, rfl⟩; go_wp2_with fail
  refine hK.out _ _ (hHeld) (fun hHeld => ?_)
  clear hK K
  (try simp only [Act.put]); (try simp only [List.setIfInBounds_toArray]); (try simp only [List.set_cons_succ]); (try simp only [List.set_cons_zero])
  (refine held_take (i := 18) (v := ?_) rfl (by kernel_rfl) (by kernel_rfl) (by kernel_rfl) (fun _ _ _ h => h) (Or.inl ⟨rfl, fun u hu => ?_⟩) hHeld ?_; rotate_left; (focus (go_simp; (try with_reducible rfl); done)); (try simp only [Act.put]); (try simp only [List.setIfInBounds_toArray]); (try simp only [List.set_cons_succ]); (try simp only [List.set_cons_zero]))
  (refine held_take (i := 19) (v := ?_) rfl (by kernel_rfl) (by kernel_rfl) (by kernel_rfl) (fun _ _ _ h => h) (Or.inl ⟨rfl, fun u hu => ?_⟩) hHeld ?_; rotate_left; (focus (go_simp; (try with_reducible rfl); done)); (try simp only [Act.put]); (try simp only [List.setIfInBounds_toArray]); (try simp only [List.set_cons_succ]); (try simp only [List.set_cons_zero]))
  (refine held_take (i := 20) (v := ?_) rfl (by kernel_rfl) (by kernel_rfl) (by kernel_rfl) (fun _ _ _ h => h) (Or.inl ⟨rfl, fun u hu => ?_⟩) hHeld ?_; rotate_left; (focus (go_simp; (try with_reducible rfl); done)); (try simp only [Act.put]); (try simp only [List.setIfInBounds_toArray]); (try simp only [List.set_cons_succ]); (try simp only [List.set_cons_zero]))
  refine wpAnyH_done (by kernel_rfl) ?_ _
  go_wp2
  go_ret
  exact ⟨rfl, hHeld.ms.bel⟩

end Go.Proofs.Ytlcndenbnokcjaa
