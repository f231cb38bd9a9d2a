/-
  The walk of plaitlaw11.VmemBack.
-/
import Derived.Test.YtlcndenbnokcjaaVmH
set_option linter.unusedSimpArgs false
set_option linter.unusedVariables false
namespace Go.Proofs.Ytlcndenbnokcjaa
open Go.RowKit Pl

theorem MV.at {w0 u : World} {o : MObj} {l : List (Nat × Vec)} (h : MV w0 o l u) {b : Nat} {v : Vec} (hm : (b, v) ∈ l) : u.heap[b]? = some (.cells (cells v) 61 (0, 0)) := h.hold (b, v) hm
set_option maxRecDepth 100000 in
theorem of_none (w : World) : Calls Try.prog 30 #[.int .i64 8, .slice none 0 0] w fun e w' => e = .returned (.agg (cells 0)) ∧ Below w.heap.size w w' := by
  go_enter Try.func30, Try.ntmps30
  go_wp2_with (first | (go_at_call 54; ((with_reducible refine (lanes8 _).mono ?_); rintro e w' ⟨rfl, rfl⟩)))
  rw [← cells_zero]
  obtain ⟨W, hW⟩ : ∃ W, W = (w.alloc (.cells (cells 0) 61)).alloc (.cells (cells 0) 61) := ⟨_, rfl⟩
  have hR : W.heap[w.heap.size]? = some (.cells (cells 0) 61 (0, 0)) := hW ▸ heap_alloc2_old _ _ _
  have hO : W.heap[w.heap.size + 1]? = some (.cells (cells 0) 61 (0, 0)) := hW ▸ heap_alloc2_new _ _ _
  have hZ : Below w.heap.size w W := hW ▸ ((Below.refl _ _).alloc (Nat.le_refl _) _).alloc (by simp) _
  rw [← hW]
  clear hW
  go_loopw [16] (fun j wr => j = .int .i64 0 ∧ St W (w.heap.size + 1) 0 wr) (fun j _ => 0)
  case atStart => exact ⟨rfl, St.start hO⟩
  case round =>
    obtain ⟨rfl, hs⟩ := hrel
    have hR' := hs.kb.get hR (by omega)
    go_wp2_with (first | (with_reducible refine load_vec rfl _ rfl _ rfl _ hs.this ?_) | (with_reducible refine store_vec rfl _ _ rfl w.heap.size _ rfl rfl _ hR' ?_; intro wq hq))
    exact bodyPost_ret (results_cell_row rfl _ _ w.heap.size _ _ _ _ rfl hq.this vunder rfl (vsize _)) rfl ⟨rfl, (hs.kb.to_below hZ (by omega)).trans (hq.below.mono (by omega))⟩

set_option maxRecDepth 100000 in
set_option maxHeartbeats 4000000 in
theorem back_walk (A L : Nat) (v : Vec) (w : World) (hA : A < 65536) (hL : L < 256) :
    Calls Try.prog 8 #[.int .u16 (A : Nat), .agg (cells v), .int .u8 (L : Nat)] w fun e w' => e = .returned (.bool true) ∧ Below w.heap.size w w' := by
  have hN : ∀ W, Calls Try.prog 13 #[.int .i64 2, .int .i64 2] W fun e w' => ∃ o, e = .returned (.tuple #[.pointer (some ⟨o.p, 0, none⟩), .int .i64 0]) ∧ Fresh W w' o 86 131072 (fun _ => 0) 2 := fun W => new_ok 2 2 W (by decide) (.inr ⟨by decide, by decide⟩)
  have N1 := Lib.hid hN
  clear hN
  go_enter Try.func8, Try.ntmps8
  go_wp2_with fail
  obtain ⟨W, hW⟩ : ∃ W, W = w.alloc (.cells (cells v) 61) := ⟨_, rfl⟩
  have hV0 : W.heap[w.heap.size]? = some (.cells (cells v) 61 (0, 0)) := hW ▸ heap_alloc_new _ _
  have hb0 : Below w.heap.size w W := hW ▸ (Below.refl _ _).alloc (Nat.le_refl _) _
  rw [← hW]
  clear hW
  refine (awake11 _).mono ?_
  rintro e u0 ⟨rfl, hb1⟩
  have hV1 := (hb1.block _ (block_lt hV0)).trans hV0
  have hs0 : MS w [] u0 := (MS.start w).below (hb0.trans (hb1.mono hb0.size))
  go_wp2_with fail
  refine (N1.out _).mono ?_
  rintro e u1 ⟨o, rfl, hf⟩
  have hn0 := hf.hn
  have hs : MV w o [(w.heap.size, v)] u1 := (MV.start (hs0.fresh hf)).add _ v ((hf.bel.block _ (block_lt hV1)).trans hV1) (fun e => Nat.lt_irrefl _ (Nat.lt_of_lt_of_le (block_lt hV1) (hf.new _ e)))
  clear hf hs0 hV1 hV0 hb0 hb1 N1
  go_wp2_with (first | (with_reducible refine load_vec rfl _ rfl _ rfl _ (MV.at hs (by first | exact List.mem_cons_self | exact List.mem_cons_of_mem _ (List.mem_cons_self) | exact List.mem_cons_of_mem _ (List.mem_cons_of_mem _ (List.mem_cons_self)) | exact List.mem_cons_of_mem _ (List.mem_cons_of_mem _ (List.mem_cons_of_mem _ (List.mem_cons_self))) | exact List.mem_cons_of_mem _ (List.mem_cons_of_mem _ (List.mem_cons_of_mem _ (List.mem_cons_of_mem _ (List.mem_cons_self)))) | exact List.mem_cons_of_mem _ (List.mem_cons_of_mem _ (List.mem_cons_of_mem _ (List.mem_cons_of_mem _ (List.mem_cons_of_mem _ (List.mem_cons_self))))) | exact List.mem_cons_of_mem _ (List.mem_cons_of_mem _ (List.mem_cons_of_mem _ (List.mem_cons_of_mem _ (List.mem_cons_of_mem _ (List.mem_cons_of_mem _ (List.mem_cons_self)))))))) ?_))
  refine (vstore_0b o v 0 0 0 0 (A : Int) (.slice none 0 0) A _ hs.mem ⟨by omega, by omega⟩ (by decide) (by omega) (by rw [hn0]; omega)).mono ?_
  rintro e u2 ⟨rfl, hm, hk⟩
  replace hs := hs.stored hm hk
  clear hm hk
  obtain ⟨o1, ho1⟩ : ∃ o1, o1 = withβ o (storeN (storeN o.β (A + 8) (getN v 64 1) 8) A (getN v 64 0) 8) := ⟨_, rfl⟩
  have hn1 : o1.n = 131072 := by rw [ho1]; exact hn0
  have hp1 : o.p = o1.p := by rw [ho1]; rfl
  have hβ : ∀ k, k < 16 → o1.β (A + k) = getN v 8 k := by rw [ho1]; exact stored_bytes o.β v A
  have hX : setN (setN 0 64 0 (loadN o1.β A 8)) 64 1 (loadN o1.β (A + 8) 8) = v := by
    rw [load_lane o1.β v A A 8 0 hβ (by omega) (by decide), load_lane o1.β v A (A + 8) 8 1 hβ (by omega) (by decide)]
    exact join_back v
  rw [← ho1] at hs
  rw [hp1]
  clear ho1 hn0 hp1
  have HX := Lib.hid hX
  clear hX
  go_wp2_with fail
  rw [← cells_zero]
  refine (vload_00 o1 0 0 0 0 0 (A : Int) (.slice none 0 0) A _ hs.mem ⟨by omega, by omega⟩ (by decide) (by omega) (by rw [hn1]; omega)).mono ?_
  rintro e u3 ⟨rfl, hb⟩
  rw [HX.out]
  replace hs := hs.below hb
  clear hb HX
  have hE := eqv (rfl : v = v)
  have hG := @guard_vec
  go_wp2_with (first | ((with_reducible refine store_vec rfl _ _ rfl _ _ rfl rfl 0 (heap_new_zero _) ?_); intro wA hA; replace hs := hs.push hA; clear hA) | (with_reducible refine load_vec rfl _ rfl _ rfl _ (MV.at hs (by first | exact List.mem_cons_self | exact List.mem_cons_of_mem _ (List.mem_cons_self) | exact List.mem_cons_of_mem _ (List.mem_cons_of_mem _ (List.mem_cons_self)) | exact List.mem_cons_of_mem _ (List.mem_cons_of_mem _ (List.mem_cons_of_mem _ (List.mem_cons_self))) | exact List.mem_cons_of_mem _ (List.mem_cons_of_mem _ (List.mem_cons_of_mem _ (List.mem_cons_of_mem _ (List.mem_cons_self)))) | exact List.mem_cons_of_mem _ (List.mem_cons_of_mem _ (List.mem_cons_of_mem _ (List.mem_cons_of_mem _ (List.mem_cons_of_mem _ (List.mem_cons_self))))) | exact List.mem_cons_of_mem _ (List.mem_cons_of_mem _ (List.mem_cons_of_mem _ (List.mem_cons_of_mem _ (List.mem_cons_of_mem _ (List.mem_cons_of_mem _ (List.mem_cons_self)))))))) ?_) | ((with_reducible refine load_vec_g ?_ _ rfl _ rfl _ (MV.at hs (by first | exact List.mem_cons_self | exact List.mem_cons_of_mem _ (List.mem_cons_self) | exact List.mem_cons_of_mem _ (List.mem_cons_of_mem _ (List.mem_cons_self)) | exact List.mem_cons_of_mem _ (List.mem_cons_of_mem _ (List.mem_cons_of_mem _ (List.mem_cons_self))) | exact List.mem_cons_of_mem _ (List.mem_cons_of_mem _ (List.mem_cons_of_mem _ (List.mem_cons_of_mem _ (List.mem_cons_self)))) | exact List.mem_cons_of_mem _ (List.mem_cons_of_mem _ (List.mem_cons_of_mem _ (List.mem_cons_of_mem _ (List.mem_cons_of_mem _ (List.mem_cons_self))))) | exact List.mem_cons_of_mem _ (List.mem_cons_of_mem _ (List.mem_cons_of_mem _ (List.mem_cons_of_mem _ (List.mem_cons_of_mem _ (List.mem_cons_of_mem _ (List.mem_cons_self)))))))) ?_); (focus rfl)))
  obtain ⟨B1, hB1⟩ : ∃ B, B = u3.heap.size := ⟨_, rfl⟩
  rw [← hB1] at hs ⊢
  clear hB1
  obtain ⟨p, hp⟩ : ∃ p, o1.p = p := ⟨_, rfl⟩
  rw [hp]
  go_loopw [12] (fun kv wr => ∃ (z : Int) (o' : MObj), (z = 0 ∨ z = 1 ∨ z = 2 ∨ z = 3 ∨ z = 4) ∧ kv = .int .i64 z ∧ MV w o' [(B1, v), (w.heap.size, v)] wr ∧ o'.p = p ∧ o'.n = 131072 ∧ ∀ k, k < 16 → o'.β (A + k) = getN v 8 k) (fun kv _ => (4 - intOf kv).toNat)
  case atStart => exact ⟨0, o1, .inl rfl, rfl, hs, hp, hn1, hβ⟩
  case round =>
    clear hs hp hn1 hβ
    obtain ⟨z, o', hz, rfl, hs, rfl, hn, hβ⟩ := hrel
    rcases hz with rfl | rfl | rfl | rfl | rfl
    · as_aux_lemma =>
      obtain ⟨I, hI, hI2⟩ : ∃ I : Nat, (L : Int) % 16 = (I : Int) ∧ I < 16 := ⟨L % 16, by omega, by omega⟩
      have hN : 1 * I + 1 ≤ 16 := by omega
      go_wp2_with (first | (with_reducible refine load_vec rfl _ rfl _ rfl _ (MV.at hs (by first | exact List.mem_cons_self | exact List.mem_cons_of_mem _ (List.mem_cons_self) | exact List.mem_cons_of_mem _ (List.mem_cons_of_mem _ (List.mem_cons_self)) | exact List.mem_cons_of_mem _ (List.mem_cons_of_mem _ (List.mem_cons_of_mem _ (List.mem_cons_self))) | exact List.mem_cons_of_mem _ (List.mem_cons_of_mem _ (List.mem_cons_of_mem _ (List.mem_cons_of_mem _ (List.mem_cons_self)))) | exact List.mem_cons_of_mem _ (List.mem_cons_of_mem _ (List.mem_cons_of_mem _ (List.mem_cons_of_mem _ (List.mem_cons_of_mem _ (List.mem_cons_self))))) | exact List.mem_cons_of_mem _ (List.mem_cons_of_mem _ (List.mem_cons_of_mem _ (List.mem_cons_of_mem _ (List.mem_cons_of_mem _ (List.mem_cons_of_mem _ (List.mem_cons_self)))))))) ?_))
      refine (vstore_58 o' v 0 40 I 0 (A : Int) (.slice none 0 0) (A + 40) _ hs.mem ⟨by omega, by omega⟩ (by decide) (by omega) hI2 (by rw [hn]; omega)).mono ?_
      rintro e u4 ⟨rfl, hm, hk⟩
      replace hs := hs.stored hm hk
      clear hm hk
      obtain ⟨o2, ho2⟩ : ∃ o2, o2 = withβ o' (storeN o'.β (A + 40) (getN v 8 I) 1) := ⟨_, rfl⟩
      have hn2 : o2.n = 131072 := by rw [ho2]; exact hn
      have hp2 : o'.p = o2.p := by rw [ho2]; rfl
      have hβ2 : ∀ k, k < 16 → o2.β (A + k) = getN v 8 k := fun k hk => by
        rw [ho2]
        show storeN o'.β (A + 40) (getN v 8 I) 1 (A + k) = _
        rw [storeN_get, if_neg (by omega)]
        exact hβ k hk
      have hX1 : loadN o2.β (A + 40) 1 = getN v 8 I := by
        rw [ho2]
        show loadN (storeN o'.β (A + 40) (getN v 8 I) 1) (A + 40) 1 = _
        rw [load_store, Nat.mod_eq_of_lt (getN_lt _ _ _)]
      have hX2 : loadN o2.β (A + 1 * I) 1 = getN v 8 I := load_lane o2.β v A (A + 1 * I) 1 I hβ2 rfl hN
      rw [← ho2] at hs
      rw [hp2]
      have HP2 := Lib.hid hp2
      clear ho2 hp2 hn hβ
      have HX1 := Lib.hid hX1
      have HX2 := Lib.hid hX2
      clear hX1 hX2
      go_wp2_with fail
      rw [← cells_zero]
      refine (vload_54 o2 0 0 40 I 0 (A : Int) (.slice none 0 0) (A + 40) _ hs.mem ⟨by omega, by omega⟩ (by decide) (by omega) hI2 (by rw [hn2]; omega)).mono ?_
      rintro e u5 ⟨rfl, hb⟩
      rw [HX1.out]
      replace hs := hs.below hb
      clear hb HX1
      go_wp2_with ((with_reducible refine store_vec rfl _ _ rfl _ _ rfl rfl 0 (heap_new_zero _) ?_); intro wA hA; replace hs := hs.push hA; clear hA)
      refine (of_none _).mono ?_
      rintro e u6 ⟨rfl, hb⟩
      replace hs := hs.below hb
      clear hb
      go_wp2_with fail
      refine (vload_54 o2 0 0 (I : Int) I 0 (A : Int) (.slice none 0 0) (A + 1 * I) _ hs.mem ⟨by omega, by omega⟩ ⟨by omega, by omega⟩ (by omega) hI2 (by rw [hn2]; omega)).mono ?_
      rintro e u7 ⟨rfl, hb⟩
      rw [HX2.out]
      replace hs := hs.below hb
      clear hb HX2
      go_wp2_with (first | ((with_reducible refine store_vec rfl _ _ rfl _ _ rfl rfl 0 (heap_new_zero _) ?_); intro wA hA; replace hs := hs.push hA; clear hA) | (with_reducible refine load_vec rfl _ rfl _ rfl _ (MV.at hs (by first | exact List.mem_cons_self | exact List.mem_cons_of_mem _ (List.mem_cons_self) | exact List.mem_cons_of_mem _ (List.mem_cons_of_mem _ (List.mem_cons_self)) | exact List.mem_cons_of_mem _ (List.mem_cons_of_mem _ (List.mem_cons_of_mem _ (List.mem_cons_self))) | exact List.mem_cons_of_mem _ (List.mem_cons_of_mem _ (List.mem_cons_of_mem _ (List.mem_cons_of_mem _ (List.mem_cons_self)))) | exact List.mem_cons_of_mem _ (List.mem_cons_of_mem _ (List.mem_cons_of_mem _ (List.mem_cons_of_mem _ (List.mem_cons_of_mem _ (List.mem_cons_self))))) | exact List.mem_cons_of_mem _ (List.mem_cons_of_mem _ (List.mem_cons_of_mem _ (List.mem_cons_of_mem _ (List.mem_cons_of_mem _ (List.mem_cons_of_mem _ (List.mem_cons_self)))))))) ?_))
      refine (get8z v _ I _ rfl hI2).mono ?_
      rintro e u8 ⟨rfl, hb⟩
      replace hs := hs.below hb
      clear hb
      go_wp2_with fail
      rw [← cells_zero]
      refine (set8z 0 _ _ I (getN v 8 I) _ rfl rfl hI2).mono ?_
      rintro e u9 ⟨rfl, hb⟩
      replace hs := hs.below hb
      clear hb
      have hE := fun V : Vec => eqv (rfl : V = V)
      go_wp2_with (first | ((with_reducible refine store_vec rfl _ _ rfl _ _ rfl rfl 0 (heap_new_zero _) ?_); intro wA hA; replace hs := hs.push hA; clear hA) | (with_reducible refine load_vec rfl _ rfl _ rfl _ (MV.at hs (by first | exact List.mem_cons_self | exact List.mem_cons_of_mem _ (List.mem_cons_self) | exact List.mem_cons_of_mem _ (List.mem_cons_of_mem _ (List.mem_cons_self)) | exact List.mem_cons_of_mem _ (List.mem_cons_of_mem _ (List.mem_cons_of_mem _ (List.mem_cons_self))) | exact List.mem_cons_of_mem _ (List.mem_cons_of_mem _ (List.mem_cons_of_mem _ (List.mem_cons_of_mem _ (List.mem_cons_self)))) | exact List.mem_cons_of_mem _ (List.mem_cons_of_mem _ (List.mem_cons_of_mem _ (List.mem_cons_of_mem _ (List.mem_cons_of_mem _ (List.mem_cons_self))))) | exact List.mem_cons_of_mem _ (List.mem_cons_of_mem _ (List.mem_cons_of_mem _ (List.mem_cons_of_mem _ (List.mem_cons_of_mem _ (List.mem_cons_of_mem _ (List.mem_cons_self)))))))) ?_) | ((with_reducible refine load_vec_g ?_ _ rfl _ rfl _ (MV.at hs (by first | exact List.mem_cons_self | exact List.mem_cons_of_mem _ (List.mem_cons_self) | exact List.mem_cons_of_mem _ (List.mem_cons_of_mem _ (List.mem_cons_self)) | exact List.mem_cons_of_mem _ (List.mem_cons_of_mem _ (List.mem_cons_of_mem _ (List.mem_cons_self))) | exact List.mem_cons_of_mem _ (List.mem_cons_of_mem _ (List.mem_cons_of_mem _ (List.mem_cons_of_mem _ (List.mem_cons_self)))) | exact List.mem_cons_of_mem _ (List.mem_cons_of_mem _ (List.mem_cons_of_mem _ (List.mem_cons_of_mem _ (List.mem_cons_of_mem _ (List.mem_cons_self))))) | exact List.mem_cons_of_mem _ (List.mem_cons_of_mem _ (List.mem_cons_of_mem _ (List.mem_cons_of_mem _ (List.mem_cons_of_mem _ (List.mem_cons_of_mem _ (List.mem_cons_self)))))))) ?_); (focus rfl)))
      rw [← HP2.out]
      go_roundw
      case rel => first | exact ⟨1, o2, by decide, rfl, hs.pop.pop.pop, HP2.out.symm, hn2, hβ2⟩ | ((repeat apply Exists.intro); exact ⟨⟨1, o2, by decide, rfl, hs.pop.pop.pop, HP2.out.symm, hn2, hβ2⟩, rfl⟩)
      case measure => (simp [intOf] <;> omega)
    · as_aux_lemma =>
      obtain ⟨I, hI, hI2⟩ : ∃ I : Nat, (L : Int) % 8 = (I : Int) ∧ I < 8 := ⟨L % 8, by omega, by omega⟩
      have hN : 2 * I + 2 ≤ 16 := by omega
      go_wp2_with (first | (with_reducible refine load_vec rfl _ rfl _ rfl _ (MV.at hs (by first | exact List.mem_cons_self | exact List.mem_cons_of_mem _ (List.mem_cons_self) | exact List.mem_cons_of_mem _ (List.mem_cons_of_mem _ (List.mem_cons_self)) | exact List.mem_cons_of_mem _ (List.mem_cons_of_mem _ (List.mem_cons_of_mem _ (List.mem_cons_self))) | exact List.mem_cons_of_mem _ (List.mem_cons_of_mem _ (List.mem_cons_of_mem _ (List.mem_cons_of_mem _ (List.mem_cons_self)))) | exact List.mem_cons_of_mem _ (List.mem_cons_of_mem _ (List.mem_cons_of_mem _ (List.mem_cons_of_mem _ (List.mem_cons_of_mem _ (List.mem_cons_self))))) | exact List.mem_cons_of_mem _ (List.mem_cons_of_mem _ (List.mem_cons_of_mem _ (List.mem_cons_of_mem _ (List.mem_cons_of_mem _ (List.mem_cons_of_mem _ (List.mem_cons_self)))))))) ?_))
      refine (vstore_59 o' v 0 40 I 0 (A : Int) (.slice none 0 0) (A + 40) _ hs.mem ⟨by omega, by omega⟩ (by decide) (by omega) hI2 (by rw [hn]; omega)).mono ?_
      rintro e u4 ⟨rfl, hm, hk⟩
      replace hs := hs.stored hm hk
      clear hm hk
      obtain ⟨o2, ho2⟩ : ∃ o2, o2 = withβ o' (storeN o'.β (A + 40) (getN v 16 I) 2) := ⟨_, rfl⟩
      have hn2 : o2.n = 131072 := by rw [ho2]; exact hn
      have hp2 : o'.p = o2.p := by rw [ho2]; rfl
      have hβ2 : ∀ k, k < 16 → o2.β (A + k) = getN v 8 k := fun k hk => by
        rw [ho2]
        show storeN o'.β (A + 40) (getN v 16 I) 2 (A + k) = _
        rw [storeN_get, if_neg (by omega)]
        exact hβ k hk
      have hX1 : loadN o2.β (A + 40) 2 = getN v 16 I := by
        rw [ho2]
        show loadN (storeN o'.β (A + 40) (getN v 16 I) 2) (A + 40) 2 = _
        rw [load_store, Nat.mod_eq_of_lt (getN_lt _ _ _)]
      have hX2 : loadN o2.β (A + 2 * I) 2 = getN v 16 I := load_lane o2.β v A (A + 2 * I) 2 I hβ2 rfl hN
      rw [← ho2] at hs
      rw [hp2]
      have HP2 := Lib.hid hp2
      clear ho2 hp2 hn hβ
      have HX1 := Lib.hid hX1
      have HX2 := Lib.hid hX2
      clear hX1 hX2
      go_wp2_with fail
      rw [← cells_zero]
      refine (vload_55 o2 0 0 40 I 0 (A : Int) (.slice none 0 0) (A + 40) _ hs.mem ⟨by omega, by omega⟩ (by decide) (by omega) hI2 (by rw [hn2]; omega)).mono ?_
      rintro e u5 ⟨rfl, hb⟩
      rw [HX1.out]
      replace hs := hs.below hb
      clear hb HX1
      go_wp2_with ((with_reducible refine store_vec rfl _ _ rfl _ _ rfl rfl 0 (heap_new_zero _) ?_); intro wA hA; replace hs := hs.push hA; clear hA)
      refine (of_none _).mono ?_
      rintro e u6 ⟨rfl, hb⟩
      replace hs := hs.below hb
      clear hb
      go_wp2_with fail
      refine (vload_55 o2 0 0 ((2 : Int) * (I : Int)) I 0 (A : Int) (.slice none 0 0) (A + 2 * I) _ hs.mem ⟨by omega, by omega⟩ ⟨by omega, by omega⟩ (by omega) hI2 (by rw [hn2]; omega)).mono ?_
      rintro e u7 ⟨rfl, hb⟩
      rw [HX2.out]
      replace hs := hs.below hb
      clear hb HX2
      go_wp2_with (first | ((with_reducible refine store_vec rfl _ _ rfl _ _ rfl rfl 0 (heap_new_zero _) ?_); intro wA hA; replace hs := hs.push hA; clear hA) | (with_reducible refine load_vec rfl _ rfl _ rfl _ (MV.at hs (by first | exact List.mem_cons_self | exact List.mem_cons_of_mem _ (List.mem_cons_self) | exact List.mem_cons_of_mem _ (List.mem_cons_of_mem _ (List.mem_cons_self)) | exact List.mem_cons_of_mem _ (List.mem_cons_of_mem _ (List.mem_cons_of_mem _ (List.mem_cons_self))) | exact List.mem_cons_of_mem _ (List.mem_cons_of_mem _ (List.mem_cons_of_mem _ (List.mem_cons_of_mem _ (List.mem_cons_self)))) | exact List.mem_cons_of_mem _ (List.mem_cons_of_mem _ (List.mem_cons_of_mem _ (List.mem_cons_of_mem _ (List.mem_cons_of_mem _ (List.mem_cons_self))))) | exact List.mem_cons_of_mem _ (List.mem_cons_of_mem _ (List.mem_cons_of_mem _ (List.mem_cons_of_mem _ (List.mem_cons_of_mem _ (List.mem_cons_of_mem _ (List.mem_cons_self)))))))) ?_))
      refine (get16z v _ I _ rfl hI2).mono ?_
      rintro e u8 ⟨rfl, hb⟩
      replace hs := hs.below hb
      clear hb
      go_wp2_with fail
      rw [← cells_zero]
      refine (set16z 0 _ _ I (getN v 16 I) _ rfl rfl hI2).mono ?_
      rintro e u9 ⟨rfl, hb⟩
      replace hs := hs.below hb
      clear hb
      have hE := fun V : Vec => eqv (rfl : V = V)
      go_wp2_with (first | ((with_reducible refine store_vec rfl _ _ rfl _ _ rfl rfl 0 (heap_new_zero _) ?_); intro wA hA; replace hs := hs.push hA; clear hA) | (with_reducible refine load_vec rfl _ rfl _ rfl _ (MV.at hs (by first | exact List.mem_cons_self | exact List.mem_cons_of_mem _ (List.mem_cons_self) | exact List.mem_cons_of_mem _ (List.mem_cons_of_mem _ (List.mem_cons_self)) | exact List.mem_cons_of_mem _ (List.mem_cons_of_mem _ (List.mem_cons_of_mem _ (List.mem_cons_self))) | exact List.mem_cons_of_mem _ (List.mem_cons_of_mem _ (List.mem_cons_of_mem _ (List.mem_cons_of_mem _ (List.mem_cons_self)))) | exact List.mem_cons_of_mem _ (List.mem_cons_of_mem _ (List.mem_cons_of_mem _ (List.mem_cons_of_mem _ (List.mem_cons_of_mem _ (List.mem_cons_self))))) | exact List.mem_cons_of_mem _ (List.mem_cons_of_mem _ (List.mem_cons_of_mem _ (List.mem_cons_of_mem _ (List.mem_cons_of_mem _ (List.mem_cons_of_mem _ (List.mem_cons_self)))))))) ?_) | ((with_reducible refine load_vec_g ?_ _ rfl _ rfl _ (MV.at hs (by first | exact List.mem_cons_self | exact List.mem_cons_of_mem _ (List.mem_cons_self) | exact List.mem_cons_of_mem _ (List.mem_cons_of_mem _ (List.mem_cons_self)) | exact List.mem_cons_of_mem _ (List.mem_cons_of_mem _ (List.mem_cons_of_mem _ (List.mem_cons_self))) | exact List.mem_cons_of_mem _ (List.mem_cons_of_mem _ (List.mem_cons_of_mem _ (List.mem_cons_of_mem _ (List.mem_cons_self)))) | exact List.mem_cons_of_mem _ (List.mem_cons_of_mem _ (List.mem_cons_of_mem _ (List.mem_cons_of_mem _ (List.mem_cons_of_mem _ (List.mem_cons_self))))) | exact List.mem_cons_of_mem _ (List.mem_cons_of_mem _ (List.mem_cons_of_mem _ (List.mem_cons_of_mem _ (List.mem_cons_of_mem _ (List.mem_cons_of_mem _ (List.mem_cons_self)))))))) ?_); (focus rfl)))
      rw [← HP2.out]
      go_roundw
      case rel => first | exact ⟨2, o2, by decide, rfl, hs.pop.pop.pop, HP2.out.symm, hn2, hβ2⟩ | ((repeat apply Exists.intro); exact ⟨⟨2, o2, by decide, rfl, hs.pop.pop.pop, HP2.out.symm, hn2, hβ2⟩, rfl⟩)
      case measure => (simp [intOf] <;> omega)
    · as_aux_lemma =>
      obtain ⟨I, hI, hI2⟩ : ∃ I : Nat, (L : Int) % 4 = (I : Int) ∧ I < 4 := ⟨L % 4, by omega, by omega⟩
      have hN : 4 * I + 4 ≤ 16 := by omega
      go_wp2_with (first | (with_reducible refine load_vec rfl _ rfl _ rfl _ (MV.at hs (by first | exact List.mem_cons_self | exact List.mem_cons_of_mem _ (List.mem_cons_self) | exact List.mem_cons_of_mem _ (List.mem_cons_of_mem _ (List.mem_cons_self)) | exact List.mem_cons_of_mem _ (List.mem_cons_of_mem _ (List.mem_cons_of_mem _ (List.mem_cons_self))) | exact List.mem_cons_of_mem _ (List.mem_cons_of_mem _ (List.mem_cons_of_mem _ (List.mem_cons_of_mem _ (List.mem_cons_self)))) | exact List.mem_cons_of_mem _ (List.mem_cons_of_mem _ (List.mem_cons_of_mem _ (List.mem_cons_of_mem _ (List.mem_cons_of_mem _ (List.mem_cons_self))))) | exact List.mem_cons_of_mem _ (List.mem_cons_of_mem _ (List.mem_cons_of_mem _ (List.mem_cons_of_mem _ (List.mem_cons_of_mem _ (List.mem_cons_of_mem _ (List.mem_cons_self)))))))) ?_))
      refine (vstore_5a o' v 0 40 I 0 (A : Int) (.slice none 0 0) (A + 40) _ hs.mem ⟨by omega, by omega⟩ (by decide) (by omega) hI2 (by rw [hn]; omega)).mono ?_
      rintro e u4 ⟨rfl, hm, hk⟩
      replace hs := hs.stored hm hk
      clear hm hk
      obtain ⟨o2, ho2⟩ : ∃ o2, o2 = withβ o' (storeN o'.β (A + 40) (getN v 32 I) 4) := ⟨_, rfl⟩
      have hn2 : o2.n = 131072 := by rw [ho2]; exact hn
      have hp2 : o'.p = o2.p := by rw [ho2]; rfl
      have hβ2 : ∀ k, k < 16 → o2.β (A + k) = getN v 8 k := fun k hk => by
        rw [ho2]
        show storeN o'.β (A + 40) (getN v 32 I) 4 (A + k) = _
        rw [storeN_get, if_neg (by omega)]
        exact hβ k hk
      have hX1 : loadN o2.β (A + 40) 4 = getN v 32 I := by
        rw [ho2]
        show loadN (storeN o'.β (A + 40) (getN v 32 I) 4) (A + 40) 4 = _
        rw [load_store, Nat.mod_eq_of_lt (getN_lt _ _ _)]
      have hX2 : loadN o2.β (A + 4 * I) 4 = getN v 32 I := load_lane o2.β v A (A + 4 * I) 4 I hβ2 rfl hN
      rw [← ho2] at hs
      rw [hp2]
      have HP2 := Lib.hid hp2
      clear ho2 hp2 hn hβ
      have HX1 := Lib.hid hX1
      have HX2 := Lib.hid hX2
      clear hX1 hX2
      go_wp2_with fail
      rw [← cells_zero]
      refine (vload_56 o2 0 0 40 I 0 (A : Int) (.slice none 0 0) (A + 40) _ hs.mem ⟨by omega, by omega⟩ (by decide) (by omega) hI2 (by rw [hn2]; omega)).mono ?_
      rintro e u5 ⟨rfl, hb⟩
      rw [HX1.out]
      replace hs := hs.below hb
      clear hb HX1
      go_wp2_with ((with_reducible refine store_vec rfl _ _ rfl _ _ rfl rfl 0 (heap_new_zero _) ?_); intro wA hA; replace hs := hs.push hA; clear hA)
      refine (of_none _).mono ?_
      rintro e u6 ⟨rfl, hb⟩
      replace hs := hs.below hb
      clear hb
      go_wp2_with fail
      refine (vload_56 o2 0 0 ((4 : Int) * (I : Int)) I 0 (A : Int) (.slice none 0 0) (A + 4 * I) _ hs.mem ⟨by omega, by omega⟩ ⟨by omega, by omega⟩ (by omega) hI2 (by rw [hn2]; omega)).mono ?_
      rintro e u7 ⟨rfl, hb⟩
      rw [HX2.out]
      replace hs := hs.below hb
      clear hb HX2
      go_wp2_with (first | ((with_reducible refine store_vec rfl _ _ rfl _ _ rfl rfl 0 (heap_new_zero _) ?_); intro wA hA; replace hs := hs.push hA; clear hA) | (with_reducible refine load_vec rfl _ rfl _ rfl _ (MV.at hs (by first | exact List.mem_cons_self | exact List.mem_cons_of_mem _ (List.mem_cons_self) | exact List.mem_cons_of_mem _ (List.mem_cons_of_mem _ (List.mem_cons_self)) | exact List.mem_cons_of_mem _ (List.mem_cons_of_mem _ (List.mem_cons_of_mem _ (List.mem_cons_self))) | exact List.mem_cons_of_mem _ (List.mem_cons_of_mem _ (List.mem_cons_of_mem _ (List.mem_cons_of_mem _ (List.mem_cons_self)))) | exact List.mem_cons_of_mem _ (List.mem_cons_of_mem _ (List.mem_cons_of_mem _ (List.mem_cons_of_mem _ (List.mem_cons_of_mem _ (List.mem_cons_self))))) | exact List.mem_cons_of_mem _ (List.mem_cons_of_mem _ (List.mem_cons_of_mem _ (List.mem_cons_of_mem _ (List.mem_cons_of_mem _ (List.mem_cons_of_mem _ (List.mem_cons_self)))))))) ?_))
      refine (get32z v _ I _ rfl hI2).mono ?_
      rintro e u8 ⟨rfl, hb⟩
      replace hs := hs.below hb
      clear hb
      go_wp2_with fail
      rw [← cells_zero]
      refine (set32z 0 _ _ I (getN v 32 I) _ rfl rfl hI2).mono ?_
      rintro e u9 ⟨rfl, hb⟩
      replace hs := hs.below hb
      clear hb
      have hE := fun V : Vec => eqv (rfl : V = V)
      go_wp2_with (first | ((with_reducible refine store_vec rfl _ _ rfl _ _ rfl rfl 0 (heap_new_zero _) ?_); intro wA hA; replace hs := hs.push hA; clear hA) | (with_reducible refine load_vec rfl _ rfl _ rfl _ (MV.at hs (by first | exact List.mem_cons_self | exact List.mem_cons_of_mem _ (List.mem_cons_self) | exact List.mem_cons_of_mem _ (List.mem_cons_of_mem _ (List.mem_cons_self)) | exact List.mem_cons_of_mem _ (List.mem_cons_of_mem _ (List.mem_cons_of_mem _ (List.mem_cons_self))) | exact List.mem_cons_of_mem _ (List.mem_cons_of_mem _ (List.mem_cons_of_mem _ (List.mem_cons_of_mem _ (List.mem_cons_self)))) | exact List.mem_cons_of_mem _ (List.mem_cons_of_mem _ (List.mem_cons_of_mem _ (List.mem_cons_of_mem _ (List.mem_cons_of_mem _ (List.mem_cons_self))))) | exact List.mem_cons_of_mem _ (List.mem_cons_of_mem _ (List.mem_cons_of_mem _ (List.mem_cons_of_mem _ (List.mem_cons_of_mem _ (List.mem_cons_of_mem _ (List.mem_cons_self)))))))) ?_) | ((with_reducible refine load_vec_g ?_ _ rfl _ rfl _ (MV.at hs (by first | exact List.mem_cons_self | exact List.mem_cons_of_mem _ (List.mem_cons_self) | exact List.mem_cons_of_mem _ (List.mem_cons_of_mem _ (List.mem_cons_self)) | exact List.mem_cons_of_mem _ (List.mem_cons_of_mem _ (List.mem_cons_of_mem _ (List.mem_cons_self))) | exact List.mem_cons_of_mem _ (List.mem_cons_of_mem _ (List.mem_cons_of_mem _ (List.mem_cons_of_mem _ (List.mem_cons_self)))) | exact List.mem_cons_of_mem _ (List.mem_cons_of_mem _ (List.mem_cons_of_mem _ (List.mem_cons_of_mem _ (List.mem_cons_of_mem _ (List.mem_cons_self))))) | exact List.mem_cons_of_mem _ (List.mem_cons_of_mem _ (List.mem_cons_of_mem _ (List.mem_cons_of_mem _ (List.mem_cons_of_mem _ (List.mem_cons_of_mem _ (List.mem_cons_self)))))))) ?_); (focus rfl)))
      rw [← HP2.out]
      go_roundw
      case rel => first | exact ⟨3, o2, by decide, rfl, hs.pop.pop.pop, HP2.out.symm, hn2, hβ2⟩ | ((repeat apply Exists.intro); exact ⟨⟨3, o2, by decide, rfl, hs.pop.pop.pop, HP2.out.symm, hn2, hβ2⟩, rfl⟩)
      case measure => (simp [intOf] <;> omega)
    · as_aux_lemma =>
      obtain ⟨I, hI, hI2⟩ : ∃ I : Nat, (L : Int) % 2 = (I : Int) ∧ I < 2 := ⟨L % 2, by omega, by omega⟩
      have hN : 8 * I + 8 ≤ 16 := by omega
      go_wp2_with (first | (with_reducible refine load_vec rfl _ rfl _ rfl _ (MV.at hs (by first | exact List.mem_cons_self | exact List.mem_cons_of_mem _ (List.mem_cons_self) | exact List.mem_cons_of_mem _ (List.mem_cons_of_mem _ (List.mem_cons_self)) | exact List.mem_cons_of_mem _ (List.mem_cons_of_mem _ (List.mem_cons_of_mem _ (List.mem_cons_self))) | exact List.mem_cons_of_mem _ (List.mem_cons_of_mem _ (List.mem_cons_of_mem _ (List.mem_cons_of_mem _ (List.mem_cons_self)))) | exact List.mem_cons_of_mem _ (List.mem_cons_of_mem _ (List.mem_cons_of_mem _ (List.mem_cons_of_mem _ (List.mem_cons_of_mem _ (List.mem_cons_self))))) | exact List.mem_cons_of_mem _ (List.mem_cons_of_mem _ (List.mem_cons_of_mem _ (List.mem_cons_of_mem _ (List.mem_cons_of_mem _ (List.mem_cons_of_mem _ (List.mem_cons_self)))))))) ?_))
      refine (vstore_5b o' v 0 40 I 0 (A : Int) (.slice none 0 0) (A + 40) _ hs.mem ⟨by omega, by omega⟩ (by decide) (by omega) hI2 (by rw [hn]; omega)).mono ?_
      rintro e u4 ⟨rfl, hm, hk⟩
      replace hs := hs.stored hm hk
      clear hm hk
      obtain ⟨o2, ho2⟩ : ∃ o2, o2 = withβ o' (storeN o'.β (A + 40) (getN v 64 I) 8) := ⟨_, rfl⟩
      have hn2 : o2.n = 131072 := by rw [ho2]; exact hn
      have hp2 : o'.p = o2.p := by rw [ho2]; rfl
      have hβ2 : ∀ k, k < 16 → o2.β (A + k) = getN v 8 k := fun k hk => by
        rw [ho2]
        show storeN o'.β (A + 40) (getN v 64 I) 8 (A + k) = _
        rw [storeN_get, if_neg (by omega)]
        exact hβ k hk
      have hX1 : loadN o2.β (A + 40) 8 = getN v 64 I := by
        rw [ho2]
        show loadN (storeN o'.β (A + 40) (getN v 64 I) 8) (A + 40) 8 = _
        rw [load_store, Nat.mod_eq_of_lt (getN_lt _ _ _)]
      have hX2 : loadN o2.β (A + 8 * I) 8 = getN v 64 I := load_lane o2.β v A (A + 8 * I) 8 I hβ2 rfl hN
      rw [← ho2] at hs
      rw [hp2]
      have HP2 := Lib.hid hp2
      clear ho2 hp2 hn hβ
      have HX1 := Lib.hid hX1
      have HX2 := Lib.hid hX2
      clear hX1 hX2
      go_wp2_with fail
      rw [← cells_zero]
      refine (vload_57 o2 0 0 40 I 0 (A : Int) (.slice none 0 0) (A + 40) _ hs.mem ⟨by omega, by omega⟩ (by decide) (by omega) hI2 (by rw [hn2]; omega)).mono ?_
      rintro e u5 ⟨rfl, hb⟩
      rw [HX1.out]
      replace hs := hs.below hb
      clear hb HX1
      go_wp2_with ((with_reducible refine store_vec rfl _ _ rfl _ _ rfl rfl 0 (heap_new_zero _) ?_); intro wA hA; replace hs := hs.push hA; clear hA)
      refine (of_none _).mono ?_
      rintro e u6 ⟨rfl, hb⟩
      replace hs := hs.below hb
      clear hb
      go_wp2_with fail
      refine (vload_57 o2 0 0 ((8 : Int) * (I : Int)) I 0 (A : Int) (.slice none 0 0) (A + 8 * I) _ hs.mem ⟨by omega, by omega⟩ ⟨by omega, by omega⟩ (by omega) hI2 (by rw [hn2]; omega)).mono ?_
      rintro e u7 ⟨rfl, hb⟩
      rw [HX2.out]
      replace hs := hs.below hb
      clear hb HX2
      go_wp2_with (first | ((with_reducible refine store_vec rfl _ _ rfl _ _ rfl rfl 0 (heap_new_zero _) ?_); intro wA hA; replace hs := hs.push hA; clear hA) | (with_reducible refine load_vec rfl _ rfl _ rfl _ (MV.at hs (by first | exact List.mem_cons_self | exact List.mem_cons_of_mem _ (List.mem_cons_self) | exact List.mem_cons_of_mem _ (List.mem_cons_of_mem _ (List.mem_cons_self)) | exact List.mem_cons_of_mem _ (List.mem_cons_of_mem _ (List.mem_cons_of_mem _ (List.mem_cons_self))) | exact List.mem_cons_of_mem _ (List.mem_cons_of_mem _ (List.mem_cons_of_mem _ (List.mem_cons_of_mem _ (List.mem_cons_self)))) | exact List.mem_cons_of_mem _ (List.mem_cons_of_mem _ (List.mem_cons_of_mem _ (List.mem_cons_of_mem _ (List.mem_cons_of_mem _ (List.mem_cons_self))))) | exact List.mem_cons_of_mem _ (List.mem_cons_of_mem _ (List.mem_cons_of_mem _ (List.mem_cons_of_mem _ (List.mem_cons_of_mem _ (List.mem_cons_of_mem _ (List.mem_cons_self)))))))) ?_))
      refine (get64z v _ I _ rfl hI2).mono ?_
      rintro e u8 ⟨rfl, hb⟩
      replace hs := hs.below hb
      clear hb
      go_wp2_with fail
      rw [← cells_zero]
      refine (set64z 0 _ _ I (getN v 64 I) _ rfl rfl hI2).mono ?_
      rintro e u9 ⟨rfl, hb⟩
      replace hs := hs.below hb
      clear hb
      have hE := fun V : Vec => eqv (rfl : V = V)
      go_wp2_with (first | ((with_reducible refine store_vec rfl _ _ rfl _ _ rfl rfl 0 (heap_new_zero _) ?_); intro wA hA; replace hs := hs.push hA; clear hA) | (with_reducible refine load_vec rfl _ rfl _ rfl _ (MV.at hs (by first | exact List.mem_cons_self | exact List.mem_cons_of_mem _ (List.mem_cons_self) | exact List.mem_cons_of_mem _ (List.mem_cons_of_mem _ (List.mem_cons_self)) | exact List.mem_cons_of_mem _ (List.mem_cons_of_mem _ (List.mem_cons_of_mem _ (List.mem_cons_self))) | exact List.mem_cons_of_mem _ (List.mem_cons_of_mem _ (List.mem_cons_of_mem _ (List.mem_cons_of_mem _ (List.mem_cons_self)))) | exact List.mem_cons_of_mem _ (List.mem_cons_of_mem _ (List.mem_cons_of_mem _ (List.mem_cons_of_mem _ (List.mem_cons_of_mem _ (List.mem_cons_self))))) | exact List.mem_cons_of_mem _ (List.mem_cons_of_mem _ (List.mem_cons_of_mem _ (List.mem_cons_of_mem _ (List.mem_cons_of_mem _ (List.mem_cons_of_mem _ (List.mem_cons_self)))))))) ?_) | ((with_reducible refine load_vec_g ?_ _ rfl _ rfl _ (MV.at hs (by first | exact List.mem_cons_self | exact List.mem_cons_of_mem _ (List.mem_cons_self) | exact List.mem_cons_of_mem _ (List.mem_cons_of_mem _ (List.mem_cons_self)) | exact List.mem_cons_of_mem _ (List.mem_cons_of_mem _ (List.mem_cons_of_mem _ (List.mem_cons_self))) | exact List.mem_cons_of_mem _ (List.mem_cons_of_mem _ (List.mem_cons_of_mem _ (List.mem_cons_of_mem _ (List.mem_cons_self)))) | exact List.mem_cons_of_mem _ (List.mem_cons_of_mem _ (List.mem_cons_of_mem _ (List.mem_cons_of_mem _ (List.mem_cons_of_mem _ (List.mem_cons_self))))) | exact List.mem_cons_of_mem _ (List.mem_cons_of_mem _ (List.mem_cons_of_mem _ (List.mem_cons_of_mem _ (List.mem_cons_of_mem _ (List.mem_cons_of_mem _ (List.mem_cons_self)))))))) ?_); (focus rfl)))
      rw [← HP2.out]
      go_roundw
      case rel => first | exact ⟨4, o2, by decide, rfl, hs.pop.pop.pop, HP2.out.symm, hn2, hβ2⟩ | ((repeat apply Exists.intro); exact ⟨⟨4, o2, by decide, rfl, hs.pop.pop.pop, HP2.out.symm, hn2, hβ2⟩, rfl⟩)
      case measure => (simp [intOf] <;> omega)
    · go_wp2_with fail
      go_ret
      exact ⟨rfl, hs.ms.bel⟩


end Go.Proofs.Ytlcndenbnokcjaa
