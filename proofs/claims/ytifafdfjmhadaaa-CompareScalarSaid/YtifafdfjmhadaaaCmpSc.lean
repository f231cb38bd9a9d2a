/-
  The walk of plaitlaw06.CompareScalar.
-/
import Derived.Test.YtifafdfjmhadaaaCmpLc
import Derived.Test.YtifafdfjmhadaaaCmpSN
import Derived.Test.YtifafdfjmhadaaaNumBin
set_option linter.unusedSimpArgs false
set_option linter.unusedVariables false
namespace Go.Proofs.Ytifafdfjmhadaaa
open Go.RowKit _root_.Nm Pl

structure SO (w : World) (l : List (Nat × Vec)) (OB : Nat) (u : World) : Prop where
  hl : HL w l u
  ho : u.heap[OB]? = some (.cells #[.int .i64 81, .int .i64 82, .int .i64 83, .int .i64 85, .int .i64 87, .int .i64 89] 49 (0, 0))
theorem SO.below {w u u1 : World} {l : List (Nat × Vec)} {OB : Nat} (h : SO w l OB u) (hb : Below u.heap.size u u1) : SO w l OB u1 := ⟨h.hl.below hb, blk_keep h.ho hb⟩
theorem SO.drew {w u : World} {l : List (Nat × Vec)} {OB : Nat} (h : SO w l OB u) : SO w l OB u.drew := ⟨h.hl.drew, h.ho⟩
theorem SO.push {w0 u u1 : World} {l : List (Nat × Vec)} {OB : Nat} {v : Vec} {x : Obj} (h : SO w0 l OB u) (hs : Sets (u.alloc x) u.heap.size v u1) : SO w0 ((u.heap.size, v) :: l) OB u1 :=
  ⟨HL.push h.hl hs, blk_sets (blk_alloc h.ho x) hs (Nat.ne_of_lt (block_lt h.ho))⟩
theorem SO.pop {w0 u : World} {q : Nat × Vec} {l : List (Nat × Vec)} {OB : Nat} (h : SO w0 (q :: l) OB u) : SO w0 l OB u := ⟨HL.pop h.hl, h.ho⟩
theorem nbc (op : Int) (A C v : Nat) (w : World) (ha : A < 18446744073709551616) (hc : C < 18446744073709551616) (hop : 70 ≤ op ∧ op ≤ 90) (he : (binB op (BitVec.ofNat 64 A) (BitVec.ofNat 64 C)).2 = 0) (hv : v = (bB op (BitVec.ofNat 64 A) (BitVec.ofNat 64 C)).toNat) :
    Calls Try.prog 22 #[.int .i64 op, .int .u64 (A : Int), .int .u64 (C : Int)] w fun e w' => e = .returned (.tuple #[.int .u64 (v : Int), .int .i64 0]) ∧ Below w.heap.size w w' := by
  have h := bin_any op (BitVec.ofNat 64 A) (BitVec.ofNat 64 C) w (by omega)
  have eA : (BitVec.ofNat 64 A).toNat = A := by rw [BitVec.toNat_ofNat]; omega
  have eC : (BitVec.ofNat 64 C).toNat = C := by rw [BitVec.toNat_ofNat]; omega
  rw [he, eA, eC] at h
  subst hv
  exact h.mono fun e w' ⟨h1, h2⟩ => ⟨h1, by subst h2; exact Below.refl _ _⟩
set_option maxRecDepth 100000 in
set_option maxHeartbeats 8000000 in
theorem cscalar_walk (a b : Vec) (w : World) :
    Calls Try.prog 9 #[.agg (cells a), .agg (cells b)] w fun e w' => e = .returned (.bool true) ∧ Below w.heap.size w w' := by
  have hs := HL.two w a b
  go_enter Try.func9, Try.ntmps9
  go_wp2_with (go_at_call 10; (with_reducible refine (awake_any _).mono ?_); rintro e u ⟨rfl, hb⟩; replace hs := hs.below hb; clear hb)
  go_loopw [5] (fun kv wr => ∃ k : Nat, k ≤ 10 ∧ kv = .int .i64 k ∧ HL w [(w.heap.size + 1, b), (w.heap.size, a)] wr) (fun kv _ => 10 - (intOf kv).toNat)
  case atStart => exact ⟨0, Nat.zero_le _, rfl, hs⟩
  case round =>
    clear hs
    obtain ⟨k, hk, rfl, hs⟩ := hrel
    by_cases hk10 : k < 10
    · as_aux_lemma =>
      obtain ⟨V, hV⟩ : ∃ v, v = CV 32 k a b := ⟨_, rfl⟩
      have w3 : IntKind.i64.wrap (64823 + (k : Int)) = 64823 + (k : Int) := IntWalk.i64_in _ (by omega)
      have HC := Lib.hid (fun W => lcv32 k hk10 a b W)
      rw [← hV] at HC
      have HV := Lib.hid hV
      clear hV
      go_wp2_with (first | (with_reducible refine load_vec rfl _ rfl _ rfl b (hs.hold (_, b) List.mem_cons_self) ?_) | (with_reducible refine load_vec rfl _ rfl _ rfl a (hs.hold (_, a) (List.mem_cons_of_mem _ List.mem_cons_self)) ?_) | (go_at_call 18; (with_reducible refine (HC.out _).mono ?_); rintro e u ⟨rfl, hb⟩; replace hs := hs.below hb; clear hb) | (with_reducible refine store_vec rfl _ _ rfl _ _ rfl rfl 0 (heap_new_zero _) ?_; intro wA hA; replace hs := HL.push hs hA; clear hA))
      obtain ⟨X, hX⟩ : ∃ x, x = u.heap.size := ⟨_, rfl⟩
      rw [← hX] at hs ⊢
      clear hX HC

      go_loopw [7] (fun iv wr => ∃ i : Nat, i ≤ 4 ∧ iv = .int .i64 i ∧ HL w [(X, V), (w.heap.size + 1, b), (w.heap.size, a)] wr) (fun iv _ => 4 - (intOf iv).toNat)
      case atStart => exact ⟨0, Nat.zero_le _, rfl, hs⟩
      case round =>
        clear hs
        obtain ⟨i, hi, rfl, hs⟩ := hrel
        by_cases hlt : i < 4
        · have la : getN a 32 i < 4294967296 := getN_lt a 32 i
          have lb : getN b 32 i < 4294967296 := getN_lt b 32 i
          obtain ⟨hq1, hq2⟩ := cs32 (k : Int) (by omega) a b i hlt
          rw [← HV.out] at hq1
          obtain ⟨xv, hxv⟩ : ∃ v, v = (bB (70 + (k : Int)) (BitVec.ofNat 64 (getN a 32 i)) (BitVec.ofNat 64 (getN b 32 i))).toNat := ⟨_, rfl⟩
          have hx1 : xv ≤ 1 := by rw [hxv]; exact bB_one _ _ _ (by omega)
          have NB1 := fun W => nbc (70 + (k : Int)) (getN a 32 i) (getN b 32 i) xv W (by omega) (by omega) (by omega) hq2 hxv
          rw [← hxv] at hq1
          have GX := fun W => signed32z V i i W rfl hlt
          rw [hq1] at GX
          have HB1 := Lib.hid NB1
          have HGX := Lib.hid GX
          clear NB1 GX hq1 hq2 hxv la lb
          have w0 : IntKind.i64.wrap (70 + (k : Int)) = 70 + (k : Int) := IntWalk.i64_in _ (by omega)
          have w1 : IntKind.i64.wrap (xv : Int) = xv := IntWalk.i64_in _ (by omega)
          have w2 : IntKind.i64.wrap (-(xv : Int)) = -xv := IntWalk.i64_in _ (by omega)
          go_wp2_with fail
          refine region_do (HL w [(X, V), (w.heap.size + 1, b), (w.heap.size, a)]) 13 (by kernel_rfl) (by kernel_rfl) hs.drew ?_
          simp only [List.take_succ_cons, List.take_zero, List.drop_succ_cons, List.drop_zero]
          repeat (first | (refine do_load rfl _ rfl _ rfl a (fun u hS => hS.hold (_, a) (List.mem_cons_of_mem _ (List.mem_cons_of_mem _ List.mem_cons_self))) ?_; simp only [Act.put, List.setIfInBounds_toArray, List.set_cons_zero, List.set_cons_succ]) | (refine do_load rfl _ rfl _ rfl b (fun u hS => hS.hold (_, b) (List.mem_cons_of_mem _ List.mem_cons_self)) ?_; simp only [Act.put, List.setIfInBounds_toArray, List.set_cons_zero, List.set_cons_succ]) | (refine wpD_pure (v := ?_) rfl (fun u => ?_) ?_; rotate_left; (focus (go_simp; (try with_reducible rfl); done)); simp only [Act.put, List.setIfInBounds_toArray, List.set_cons_zero, List.set_cons_succ]))
          (refine wpD_call (v := .int .u64 (getN a 32 i : Nat)) rfl 23 ?_ (fun u => ?_) (fun u hS => ?_) ?_; rotate_left 1; (focus (go_simp; (try with_reducible rfl); done)); (focus (refine (get32z a _ i _ rfl hlt).mono ?_; rintro e u2 ⟨rfl, hb⟩; exact ⟨rfl, hS.below hb⟩)); simp only [Act.put, List.setIfInBounds_toArray, List.set_cons_zero, List.set_cons_succ])
          repeat (first | (refine do_load rfl _ rfl _ rfl a (fun u hS => hS.hold (_, a) (List.mem_cons_of_mem _ (List.mem_cons_of_mem _ List.mem_cons_self))) ?_; simp only [Act.put, List.setIfInBounds_toArray, List.set_cons_zero, List.set_cons_succ]) | (refine do_load rfl _ rfl _ rfl b (fun u hS => hS.hold (_, b) (List.mem_cons_of_mem _ List.mem_cons_self)) ?_; simp only [Act.put, List.setIfInBounds_toArray, List.set_cons_zero, List.set_cons_succ]) | (refine wpD_pure (v := ?_) rfl (fun u => ?_) ?_; rotate_left; (focus (go_simp; (try with_reducible rfl); done)); simp only [Act.put, List.setIfInBounds_toArray, List.set_cons_zero, List.set_cons_succ]))
          (refine wpD_call (v := .int .u64 (getN b 32 i : Nat)) rfl 23 ?_ (fun u => ?_) (fun u hS => ?_) ?_; rotate_left 1; (focus (go_simp; (try with_reducible rfl); done)); (focus (refine (get32z b _ i _ rfl hlt).mono ?_; rintro e u2 ⟨rfl, hb⟩; exact ⟨rfl, hS.below hb⟩)); simp only [Act.put, List.setIfInBounds_toArray, List.set_cons_zero, List.set_cons_succ])
          repeat (first | (refine do_load rfl _ rfl _ rfl a (fun u hS => hS.hold (_, a) (List.mem_cons_of_mem _ (List.mem_cons_of_mem _ List.mem_cons_self))) ?_; simp only [Act.put, List.setIfInBounds_toArray, List.set_cons_zero, List.set_cons_succ]) | (refine do_load rfl _ rfl _ rfl b (fun u hS => hS.hold (_, b) (List.mem_cons_of_mem _ List.mem_cons_self)) ?_; simp only [Act.put, List.setIfInBounds_toArray, List.set_cons_zero, List.set_cons_succ]) | (refine wpD_pure (v := ?_) rfl (fun u => ?_) ?_; rotate_left; (focus (go_simp; (try with_reducible rfl); done)); simp only [Act.put, List.setIfInBounds_toArray, List.set_cons_zero, List.set_cons_succ]))
          (refine wpD_call (v := .tuple #[.int .u64 (xv : Int), .int .i64 0]) rfl 22 ?_ (fun u => ?_) (fun u hS => ?_) ?_; rotate_left 1; (focus (go_simp; (try with_reducible rfl); done)); (focus (refine (HB1.out _).mono ?_; rintro e u2 ⟨rfl, hb⟩; exact ⟨rfl, hS.below hb⟩)); simp only [Act.put, List.setIfInBounds_toArray, List.set_cons_zero, List.set_cons_succ])
          repeat (first | (refine do_load rfl _ rfl _ rfl a (fun u hS => hS.hold (_, a) (List.mem_cons_of_mem _ (List.mem_cons_of_mem _ List.mem_cons_self))) ?_; simp only [Act.put, List.setIfInBounds_toArray, List.set_cons_zero, List.set_cons_succ]) | (refine do_load rfl _ rfl _ rfl b (fun u hS => hS.hold (_, b) (List.mem_cons_of_mem _ List.mem_cons_self)) ?_; simp only [Act.put, List.setIfInBounds_toArray, List.set_cons_zero, List.set_cons_succ]) | (refine wpD_pure (v := ?_) rfl (fun u => ?_) ?_; rotate_left; (focus (go_simp; (try with_reducible rfl); done)); simp only [Act.put, List.setIfInBounds_toArray, List.set_cons_zero, List.set_cons_succ]))
          refine wpD_nil (fun wq hq => ?_)
          replace hs := hq
          clear hq HB1
          go_wp2_with (first | (with_reducible refine load_vec rfl _ rfl _ rfl V (hs.hold (_, V) List.mem_cons_self) ?_) | ((with_reducible refine load_vec_g ?_ _ rfl _ rfl V (hs.hold (_, V) List.mem_cons_self) ?_); (focus rfl)) | (go_at_call 20; (with_reducible refine (HGX.out _).mono ?_); rintro e u ⟨rfl, hb⟩; replace hs := hs.below hb; clear hb))
          go_roundw
          case rel => first | exact ⟨i + 1, by omega, by go_num, hs⟩ | ((repeat apply Exists.intro); exact ⟨⟨i + 1, by omega, by go_num, hs⟩, rfl⟩)
          case measure => (simp [intOf] <;> omega)
        · obtain rfl : i = 4 := by omega
          go_wp2_with fail
          go_roundw
          case rel => first | exact ⟨k + 1, by omega, by go_num, HL.pop hs⟩ | ((repeat apply Exists.intro); exact ⟨⟨k + 1, by omega, by go_num, HL.pop hs⟩, rfl⟩)
          case measure => (simp [intOf] <;> omega)

    · obtain rfl : k = 10 := by omega
      as_aux_lemma =>
      go_wp2_with fail
      skip

      obtain ⟨OB, hOB⟩ : ∃ B, B = wr.heap.size := ⟨_, rfl⟩
      have ho : (wr.alloc (.cells #[.int .i64 81, .int .i64 82, .int .i64 83, .int .i64 85, .int .i64 87, .int .i64 89] 49)).heap[OB]? = some (.cells #[.int .i64 81, .int .i64 82, .int .i64 83, .int .i64 85, .int .i64 87, .int .i64 89] 49 (0, 0)) := by rw [hOB]; exact heap_alloc_new _ _
      replace hs := HL.alloc hs (.cells #[.int .i64 81, .int .i64 82, .int .i64 83, .int .i64 85, .int .i64 87, .int .i64 89] 49)
      rw [← hOB]
      generalize wr.alloc (.cells #[.int .i64 81, .int .i64 82, .int .i64 83, .int .i64 85, .int .i64 87, .int .i64 89] 49) = W1 at hs ho ⊢
      clear hOB wr
      go_loopw [11] (fun kv wr => ∃ k : Int, (k = 0 ∨ k = 1 ∨ k = 2 ∨ k = 3 ∨ k = 4 ∨ k = 5 ∨ k = 6) ∧ kv = .int .i64 k ∧ SO w [(w.heap.size + 1, b), (w.heap.size, a)] OB wr) (fun kv _ => (6 - intOf kv).toNat)
      case atStart => exact ⟨0, .inl rfl, rfl, hs, ho⟩
      case round =>
        clear hs ho
        obtain ⟨k, hk, rfl, hs⟩ := hrel
        rcases hk with rfl | rfl | rfl | rfl | rfl | rfl | rfl
        · as_aux_lemma =>
          obtain ⟨V, hV⟩ : ∃ v, v = CV 64 0 a b := ⟨_, rfl⟩
          skip
          have HC := Lib.hid (fun W => lcv64_0 a b W)
          rw [← hV] at HC
          have HV := Lib.hid hV
          clear hV
          go_wp2_with (first | (with_reducible refine load_vec rfl _ rfl _ rfl b (hs.hl.hold (_, b) List.mem_cons_self) ?_) | (with_reducible refine load_vec rfl _ rfl _ rfl a (hs.hl.hold (_, a) (List.mem_cons_of_mem _ List.mem_cons_self)) ?_) | (go_at_call 18; (with_reducible refine (HC.out _).mono ?_); rintro e u ⟨rfl, hb⟩; replace hs := hs.below hb; clear hb) | (with_reducible refine store_vec rfl _ _ rfl _ _ rfl rfl 0 (heap_new_zero _) ?_; intro wA hA; replace hs := SO.push hs hA; clear hA))
          obtain ⟨X, hX⟩ : ∃ x, x = u.heap.size := ⟨_, rfl⟩
          rw [← hX] at hs ⊢
          clear hX HC
          go_loopw [13] (fun iv wr => ∃ i : Nat, i ≤ 2 ∧ iv = .int .i64 i ∧ SO w [(X, V), (w.heap.size + 1, b), (w.heap.size, a)] OB wr) (fun iv _ => 2 - (intOf iv).toNat)
          case atStart => exact ⟨0, Nat.zero_le _, rfl, hs⟩
          case round =>
            clear hs
            obtain ⟨i, hi, rfl, hs⟩ := hrel
            by_cases hlt : i < 2
            · have la : getN a 64 i < 18446744073709551616 := getN_lt a 64 i
              have lb : getN b 64 i < 18446744073709551616 := getN_lt b 64 i
              obtain ⟨hq1, hq2⟩ := cs64 81 0 (by decide) rfl a b i hlt
              rw [← HV.out] at hq1
              obtain ⟨xv, hxv⟩ : ∃ v, v = (bB 81 (BitVec.ofNat 64 (getN a 64 i)) (BitVec.ofNat 64 (getN b 64 i))).toNat := ⟨_, rfl⟩
              have hx1 : xv ≤ 1 := by rw [hxv]; exact bB_one _ _ _ (by omega)
              have NB1 := fun W => nbc 81 (getN a 64 i) (getN b 64 i) xv W (by omega) (by omega) (by omega) hq2 hxv
              rw [← hxv] at hq1
              have GX := fun W => signed64z V i i W rfl hlt
              rw [hq1] at GX
              have HB1 := Lib.hid NB1
              have HGX := Lib.hid GX
              clear NB1 GX hq1 hq2 hxv la lb
              skip
              have w1 : IntKind.i64.wrap (xv : Int) = xv := IntWalk.i64_in _ (by omega)
              have w2 : IntKind.i64.wrap (-(xv : Int)) = -xv := IntWalk.i64_in _ (by omega)
              go_wp2_with fail
              refine region_do (SO w [(X, V), (w.heap.size + 1, b), (w.heap.size, a)] OB) 14 (by kernel_rfl) (by kernel_rfl) hs.drew ?_
              simp only [List.take_succ_cons, List.take_zero, List.drop_succ_cons, List.drop_zero]
              repeat (first | (refine do_load rfl _ rfl _ rfl a (fun u hS => hS.hl.hold (_, a) (List.mem_cons_of_mem _ (List.mem_cons_of_mem _ List.mem_cons_self))) ?_; simp only [Act.put, List.setIfInBounds_toArray, List.set_cons_zero, List.set_cons_succ]) | (refine do_load rfl _ rfl _ rfl b (fun u hS => hS.hl.hold (_, b) (List.mem_cons_of_mem _ List.mem_cons_self)) ?_; simp only [Act.put, List.setIfInBounds_toArray, List.set_cons_zero, List.set_cons_succ]) | (refine do_loadK rfl _ rfl _ _ rfl (.int .i64 81) (fun u hS => by rw [cell_of_row u _ _ _ _ _ hS.ho]; rfl) ?_; simp only [Act.put, List.setIfInBounds_toArray, List.set_cons_zero, List.set_cons_succ]) | (refine wpD_pure (v := ?_) rfl (fun u => ?_) ?_; rotate_left; (focus (go_simp; (try with_reducible rfl); done)); simp only [Act.put, List.setIfInBounds_toArray, List.set_cons_zero, List.set_cons_succ]))
              (refine wpD_call (v := .int .u64 (getN a 64 i : Nat)) rfl 23 ?_ (fun u => ?_) (fun u hS => ?_) ?_; rotate_left 1; (focus (go_simp; (try with_reducible rfl); done)); (focus (refine (get64z a _ i _ rfl hlt).mono ?_; rintro e u2 ⟨rfl, hb⟩; exact ⟨rfl, hS.below hb⟩)); simp only [Act.put, List.setIfInBounds_toArray, List.set_cons_zero, List.set_cons_succ])
              repeat (first | (refine do_load rfl _ rfl _ rfl a (fun u hS => hS.hl.hold (_, a) (List.mem_cons_of_mem _ (List.mem_cons_of_mem _ List.mem_cons_self))) ?_; simp only [Act.put, List.setIfInBounds_toArray, List.set_cons_zero, List.set_cons_succ]) | (refine do_load rfl _ rfl _ rfl b (fun u hS => hS.hl.hold (_, b) (List.mem_cons_of_mem _ List.mem_cons_self)) ?_; simp only [Act.put, List.setIfInBounds_toArray, List.set_cons_zero, List.set_cons_succ]) | (refine do_loadK rfl _ rfl _ _ rfl (.int .i64 81) (fun u hS => by rw [cell_of_row u _ _ _ _ _ hS.ho]; rfl) ?_; simp only [Act.put, List.setIfInBounds_toArray, List.set_cons_zero, List.set_cons_succ]) | (refine wpD_pure (v := ?_) rfl (fun u => ?_) ?_; rotate_left; (focus (go_simp; (try with_reducible rfl); done)); simp only [Act.put, List.setIfInBounds_toArray, List.set_cons_zero, List.set_cons_succ]))
              (refine wpD_call (v := .int .u64 (getN b 64 i : Nat)) rfl 23 ?_ (fun u => ?_) (fun u hS => ?_) ?_; rotate_left 1; (focus (go_simp; (try with_reducible rfl); done)); (focus (refine (get64z b _ i _ rfl hlt).mono ?_; rintro e u2 ⟨rfl, hb⟩; exact ⟨rfl, hS.below hb⟩)); simp only [Act.put, List.setIfInBounds_toArray, List.set_cons_zero, List.set_cons_succ])
              repeat (first | (refine do_load rfl _ rfl _ rfl a (fun u hS => hS.hl.hold (_, a) (List.mem_cons_of_mem _ (List.mem_cons_of_mem _ List.mem_cons_self))) ?_; simp only [Act.put, List.setIfInBounds_toArray, List.set_cons_zero, List.set_cons_succ]) | (refine do_load rfl _ rfl _ rfl b (fun u hS => hS.hl.hold (_, b) (List.mem_cons_of_mem _ List.mem_cons_self)) ?_; simp only [Act.put, List.setIfInBounds_toArray, List.set_cons_zero, List.set_cons_succ]) | (refine do_loadK rfl _ rfl _ _ rfl (.int .i64 81) (fun u hS => by rw [cell_of_row u _ _ _ _ _ hS.ho]; rfl) ?_; simp only [Act.put, List.setIfInBounds_toArray, List.set_cons_zero, List.set_cons_succ]) | (refine wpD_pure (v := ?_) rfl (fun u => ?_) ?_; rotate_left; (focus (go_simp; (try with_reducible rfl); done)); simp only [Act.put, List.setIfInBounds_toArray, List.set_cons_zero, List.set_cons_succ]))
              (refine wpD_call (v := .tuple #[.int .u64 (xv : Int), .int .i64 0]) rfl 22 ?_ (fun u => ?_) (fun u hS => ?_) ?_; rotate_left 1; (focus (go_simp; (try with_reducible rfl); done)); (focus (refine (HB1.out _).mono ?_; rintro e u2 ⟨rfl, hb⟩; exact ⟨rfl, hS.below hb⟩)); simp only [Act.put, List.setIfInBounds_toArray, List.set_cons_zero, List.set_cons_succ])
              repeat (first | (refine do_load rfl _ rfl _ rfl a (fun u hS => hS.hl.hold (_, a) (List.mem_cons_of_mem _ (List.mem_cons_of_mem _ List.mem_cons_self))) ?_; simp only [Act.put, List.setIfInBounds_toArray, List.set_cons_zero, List.set_cons_succ]) | (refine do_load rfl _ rfl _ rfl b (fun u hS => hS.hl.hold (_, b) (List.mem_cons_of_mem _ List.mem_cons_self)) ?_; simp only [Act.put, List.setIfInBounds_toArray, List.set_cons_zero, List.set_cons_succ]) | (refine do_loadK rfl _ rfl _ _ rfl (.int .i64 81) (fun u hS => by rw [cell_of_row u _ _ _ _ _ hS.ho]; rfl) ?_; simp only [Act.put, List.setIfInBounds_toArray, List.set_cons_zero, List.set_cons_succ]) | (refine wpD_pure (v := ?_) rfl (fun u => ?_) ?_; rotate_left; (focus (go_simp; (try with_reducible rfl); done)); simp only [Act.put, List.setIfInBounds_toArray, List.set_cons_zero, List.set_cons_succ]))
              refine wpD_nil (fun wq hq => ?_)
              replace hs := hq
              clear hq HB1
              go_wp2_with (first | (with_reducible refine load_vec rfl _ rfl _ rfl V (hs.hl.hold (_, V) List.mem_cons_self) ?_) | ((with_reducible refine load_vec_g ?_ _ rfl _ rfl V (hs.hl.hold (_, V) List.mem_cons_self) ?_); (focus rfl)) | (go_at_call 20; (with_reducible refine (HGX.out _).mono ?_); rintro e u ⟨rfl, hb⟩; replace hs := hs.below hb; clear hb))
              go_roundw
              case rel => first | exact ⟨i + 1, by omega, by go_num, hs⟩ | ((repeat apply Exists.intro); exact ⟨⟨i + 1, by omega, by go_num, hs⟩, rfl⟩)
              case measure => (simp [intOf] <;> omega)
            · obtain rfl : i = 2 := by omega
              go_wp2_with fail
              go_roundw
              case rel => first | exact ⟨1, by omega, rfl, SO.pop hs⟩ | ((repeat apply Exists.intro); exact ⟨⟨1, by omega, rfl, SO.pop hs⟩, rfl⟩)
              case measure => (simp [intOf] <;> omega)

        · as_aux_lemma =>
          obtain ⟨V, hV⟩ : ∃ v, v = CV 64 1 a b := ⟨_, rfl⟩
          skip
          have HC := Lib.hid (fun W => lcv64_1 a b W)
          rw [← hV] at HC
          have HV := Lib.hid hV
          clear hV
          go_wp2_with (first | (with_reducible refine load_vec rfl _ rfl _ rfl b (hs.hl.hold (_, b) List.mem_cons_self) ?_) | (with_reducible refine load_vec rfl _ rfl _ rfl a (hs.hl.hold (_, a) (List.mem_cons_of_mem _ List.mem_cons_self)) ?_) | (go_at_call 18; (with_reducible refine (HC.out _).mono ?_); rintro e u ⟨rfl, hb⟩; replace hs := hs.below hb; clear hb) | (with_reducible refine store_vec rfl _ _ rfl _ _ rfl rfl 0 (heap_new_zero _) ?_; intro wA hA; replace hs := SO.push hs hA; clear hA))
          obtain ⟨X, hX⟩ : ∃ x, x = u.heap.size := ⟨_, rfl⟩
          rw [← hX] at hs ⊢
          clear hX HC
          go_loopw [13] (fun iv wr => ∃ i : Nat, i ≤ 2 ∧ iv = .int .i64 i ∧ SO w [(X, V), (w.heap.size + 1, b), (w.heap.size, a)] OB wr) (fun iv _ => 2 - (intOf iv).toNat)
          case atStart => exact ⟨0, Nat.zero_le _, rfl, hs⟩
          case round =>
            clear hs
            obtain ⟨i, hi, rfl, hs⟩ := hrel
            by_cases hlt : i < 2
            · have la : getN a 64 i < 18446744073709551616 := getN_lt a 64 i
              have lb : getN b 64 i < 18446744073709551616 := getN_lt b 64 i
              obtain ⟨hq1, hq2⟩ := cs64 82 1 (by decide) rfl a b i hlt
              rw [← HV.out] at hq1
              obtain ⟨xv, hxv⟩ : ∃ v, v = (bB 82 (BitVec.ofNat 64 (getN a 64 i)) (BitVec.ofNat 64 (getN b 64 i))).toNat := ⟨_, rfl⟩
              have hx1 : xv ≤ 1 := by rw [hxv]; exact bB_one _ _ _ (by omega)
              have NB1 := fun W => nbc 82 (getN a 64 i) (getN b 64 i) xv W (by omega) (by omega) (by omega) hq2 hxv
              rw [← hxv] at hq1
              have GX := fun W => signed64z V i i W rfl hlt
              rw [hq1] at GX
              have HB1 := Lib.hid NB1
              have HGX := Lib.hid GX
              clear NB1 GX hq1 hq2 hxv la lb
              skip
              have w1 : IntKind.i64.wrap (xv : Int) = xv := IntWalk.i64_in _ (by omega)
              have w2 : IntKind.i64.wrap (-(xv : Int)) = -xv := IntWalk.i64_in _ (by omega)
              go_wp2_with fail
              refine region_do (SO w [(X, V), (w.heap.size + 1, b), (w.heap.size, a)] OB) 14 (by kernel_rfl) (by kernel_rfl) hs.drew ?_
              simp only [List.take_succ_cons, List.take_zero, List.drop_succ_cons, List.drop_zero]
              repeat (first | (refine do_load rfl _ rfl _ rfl a (fun u hS => hS.hl.hold (_, a) (List.mem_cons_of_mem _ (List.mem_cons_of_mem _ List.mem_cons_self))) ?_; simp only [Act.put, List.setIfInBounds_toArray, List.set_cons_zero, List.set_cons_succ]) | (refine do_load rfl _ rfl _ rfl b (fun u hS => hS.hl.hold (_, b) (List.mem_cons_of_mem _ List.mem_cons_self)) ?_; simp only [Act.put, List.setIfInBounds_toArray, List.set_cons_zero, List.set_cons_succ]) | (refine do_loadK rfl _ rfl _ _ rfl (.int .i64 82) (fun u hS => by rw [cell_of_row u _ _ _ _ _ hS.ho]; rfl) ?_; simp only [Act.put, List.setIfInBounds_toArray, List.set_cons_zero, List.set_cons_succ]) | (refine wpD_pure (v := ?_) rfl (fun u => ?_) ?_; rotate_left; (focus (go_simp; (try with_reducible rfl); done)); simp only [Act.put, List.setIfInBounds_toArray, List.set_cons_zero, List.set_cons_succ]))
              (refine wpD_call (v := .int .u64 (getN a 64 i : Nat)) rfl 23 ?_ (fun u => ?_) (fun u hS => ?_) ?_; rotate_left 1; (focus (go_simp; (try with_reducible rfl); done)); (focus (refine (get64z a _ i _ rfl hlt).mono ?_; rintro e u2 ⟨rfl, hb⟩; exact ⟨rfl, hS.below hb⟩)); simp only [Act.put, List.setIfInBounds_toArray, List.set_cons_zero, List.set_cons_succ])
              repeat (first | (refine do_load rfl _ rfl _ rfl a (fun u hS => hS.hl.hold (_, a) (List.mem_cons_of_mem _ (List.mem_cons_of_mem _ List.mem_cons_self))) ?_; simp only [Act.put, List.setIfInBounds_toArray, List.set_cons_zero, List.set_cons_succ]) | (refine do_load rfl _ rfl _ rfl b (fun u hS => hS.hl.hold (_, b) (List.mem_cons_of_mem _ List.mem_cons_self)) ?_; simp only [Act.put, List.setIfInBounds_toArray, List.set_cons_zero, List.set_cons_succ]) | (refine do_loadK rfl _ rfl _ _ rfl (.int .i64 82) (fun u hS => by rw [cell_of_row u _ _ _ _ _ hS.ho]; rfl) ?_; simp only [Act.put, List.setIfInBounds_toArray, List.set_cons_zero, List.set_cons_succ]) | (refine wpD_pure (v := ?_) rfl (fun u => ?_) ?_; rotate_left; (focus (go_simp; (try with_reducible rfl); done)); simp only [Act.put, List.setIfInBounds_toArray, List.set_cons_zero, List.set_cons_succ]))
              (refine wpD_call (v := .int .u64 (getN b 64 i : Nat)) rfl 23 ?_ (fun u => ?_) (fun u hS => ?_) ?_; rotate_left 1; (focus (go_simp; (try with_reducible rfl); done)); (focus (refine (get64z b _ i _ rfl hlt).mono ?_; rintro e u2 ⟨rfl, hb⟩; exact ⟨rfl, hS.below hb⟩)); simp only [Act.put, List.setIfInBounds_toArray, List.set_cons_zero, List.set_cons_succ])
              repeat (first | (refine do_load rfl _ rfl _ rfl a (fun u hS => hS.hl.hold (_, a) (List.mem_cons_of_mem _ (List.mem_cons_of_mem _ List.mem_cons_self))) ?_; simp only [Act.put, List.setIfInBounds_toArray, List.set_cons_zero, List.set_cons_succ]) | (refine do_load rfl _ rfl _ rfl b (fun u hS => hS.hl.hold (_, b) (List.mem_cons_of_mem _ List.mem_cons_self)) ?_; simp only [Act.put, List.setIfInBounds_toArray, List.set_cons_zero, List.set_cons_succ]) | (refine do_loadK rfl _ rfl _ _ rfl (.int .i64 82) (fun u hS => by rw [cell_of_row u _ _ _ _ _ hS.ho]; rfl) ?_; simp only [Act.put, List.setIfInBounds_toArray, List.set_cons_zero, List.set_cons_succ]) | (refine wpD_pure (v := ?_) rfl (fun u => ?_) ?_; rotate_left; (focus (go_simp; (try with_reducible rfl); done)); simp only [Act.put, List.setIfInBounds_toArray, List.set_cons_zero, List.set_cons_succ]))
              (refine wpD_call (v := .tuple #[.int .u64 (xv : Int), .int .i64 0]) rfl 22 ?_ (fun u => ?_) (fun u hS => ?_) ?_; rotate_left 1; (focus (go_simp; (try with_reducible rfl); done)); (focus (refine (HB1.out _).mono ?_; rintro e u2 ⟨rfl, hb⟩; exact ⟨rfl, hS.below hb⟩)); simp only [Act.put, List.setIfInBounds_toArray, List.set_cons_zero, List.set_cons_succ])
              repeat (first | (refine do_load rfl _ rfl _ rfl a (fun u hS => hS.hl.hold (_, a) (List.mem_cons_of_mem _ (List.mem_cons_of_mem _ List.mem_cons_self))) ?_; simp only [Act.put, List.setIfInBounds_toArray, List.set_cons_zero, List.set_cons_succ]) | (refine do_load rfl _ rfl _ rfl b (fun u hS => hS.hl.hold (_, b) (List.mem_cons_of_mem _ List.mem_cons_self)) ?_; simp only [Act.put, List.setIfInBounds_toArray, List.set_cons_zero, List.set_cons_succ]) | (refine do_loadK rfl _ rfl _ _ rfl (.int .i64 82) (fun u hS => by rw [cell_of_row u _ _ _ _ _ hS.ho]; rfl) ?_; simp only [Act.put, List.setIfInBounds_toArray, List.set_cons_zero, List.set_cons_succ]) | (refine wpD_pure (v := ?_) rfl (fun u => ?_) ?_; rotate_left; (focus (go_simp; (try with_reducible rfl); done)); simp only [Act.put, List.setIfInBounds_toArray, List.set_cons_zero, List.set_cons_succ]))
              refine wpD_nil (fun wq hq => ?_)
              replace hs := hq
              clear hq HB1
              go_wp2_with (first | (with_reducible refine load_vec rfl _ rfl _ rfl V (hs.hl.hold (_, V) List.mem_cons_self) ?_) | ((with_reducible refine load_vec_g ?_ _ rfl _ rfl V (hs.hl.hold (_, V) List.mem_cons_self) ?_); (focus rfl)) | (go_at_call 20; (with_reducible refine (HGX.out _).mono ?_); rintro e u ⟨rfl, hb⟩; replace hs := hs.below hb; clear hb))
              go_roundw
              case rel => first | exact ⟨i + 1, by omega, by go_num, hs⟩ | ((repeat apply Exists.intro); exact ⟨⟨i + 1, by omega, by go_num, hs⟩, rfl⟩)
              case measure => (simp [intOf] <;> omega)
            · obtain rfl : i = 2 := by omega
              go_wp2_with fail
              go_roundw
              case rel => first | exact ⟨2, by omega, rfl, SO.pop hs⟩ | ((repeat apply Exists.intro); exact ⟨⟨2, by omega, rfl, SO.pop hs⟩, rfl⟩)
              case measure => (simp [intOf] <;> omega)

        · as_aux_lemma =>
          obtain ⟨V, hV⟩ : ∃ v, v = CV 64 2 a b := ⟨_, rfl⟩
          skip
          have HC := Lib.hid (fun W => lcv64_2 a b W)
          rw [← hV] at HC
          have HV := Lib.hid hV
          clear hV
          go_wp2_with (first | (with_reducible refine load_vec rfl _ rfl _ rfl b (hs.hl.hold (_, b) List.mem_cons_self) ?_) | (with_reducible refine load_vec rfl _ rfl _ rfl a (hs.hl.hold (_, a) (List.mem_cons_of_mem _ List.mem_cons_self)) ?_) | (go_at_call 18; (with_reducible refine (HC.out _).mono ?_); rintro e u ⟨rfl, hb⟩; replace hs := hs.below hb; clear hb) | (with_reducible refine store_vec rfl _ _ rfl _ _ rfl rfl 0 (heap_new_zero _) ?_; intro wA hA; replace hs := SO.push hs hA; clear hA))
          obtain ⟨X, hX⟩ : ∃ x, x = u.heap.size := ⟨_, rfl⟩
          rw [← hX] at hs ⊢
          clear hX HC
          go_loopw [13] (fun iv wr => ∃ i : Nat, i ≤ 2 ∧ iv = .int .i64 i ∧ SO w [(X, V), (w.heap.size + 1, b), (w.heap.size, a)] OB wr) (fun iv _ => 2 - (intOf iv).toNat)
          case atStart => exact ⟨0, Nat.zero_le _, rfl, hs⟩
          case round =>
            clear hs
            obtain ⟨i, hi, rfl, hs⟩ := hrel
            by_cases hlt : i < 2
            · have la : getN a 64 i < 18446744073709551616 := getN_lt a 64 i
              have lb : getN b 64 i < 18446744073709551616 := getN_lt b 64 i
              obtain ⟨hq1, hq2⟩ := cs64 83 2 (by decide) rfl a b i hlt
              rw [← HV.out] at hq1
              obtain ⟨xv, hxv⟩ : ∃ v, v = (bB 83 (BitVec.ofNat 64 (getN a 64 i)) (BitVec.ofNat 64 (getN b 64 i))).toNat := ⟨_, rfl⟩
              have hx1 : xv ≤ 1 := by rw [hxv]; exact bB_one _ _ _ (by omega)
              have NB1 := fun W => nbc 83 (getN a 64 i) (getN b 64 i) xv W (by omega) (by omega) (by omega) hq2 hxv
              rw [← hxv] at hq1
              have GX := fun W => signed64z V i i W rfl hlt
              rw [hq1] at GX
              have HB1 := Lib.hid NB1
              have HGX := Lib.hid GX
              clear NB1 GX hq1 hq2 hxv la lb
              skip
              have w1 : IntKind.i64.wrap (xv : Int) = xv := IntWalk.i64_in _ (by omega)
              have w2 : IntKind.i64.wrap (-(xv : Int)) = -xv := IntWalk.i64_in _ (by omega)
              go_wp2_with fail
              refine region_do (SO w [(X, V), (w.heap.size + 1, b), (w.heap.size, a)] OB) 14 (by kernel_rfl) (by kernel_rfl) hs.drew ?_
              simp only [List.take_succ_cons, List.take_zero, List.drop_succ_cons, List.drop_zero]
              repeat (first | (refine do_load rfl _ rfl _ rfl a (fun u hS => hS.hl.hold (_, a) (List.mem_cons_of_mem _ (List.mem_cons_of_mem _ List.mem_cons_self))) ?_; simp only [Act.put, List.setIfInBounds_toArray, List.set_cons_zero, List.set_cons_succ]) | (refine do_load rfl _ rfl _ rfl b (fun u hS => hS.hl.hold (_, b) (List.mem_cons_of_mem _ List.mem_cons_self)) ?_; simp only [Act.put, List.setIfInBounds_toArray, List.set_cons_zero, List.set_cons_succ]) | (refine do_loadK rfl _ rfl _ _ rfl (.int .i64 83) (fun u hS => by rw [cell_of_row u _ _ _ _ _ hS.ho]; rfl) ?_; simp only [Act.put, List.setIfInBounds_toArray, List.set_cons_zero, List.set_cons_succ]) | (refine wpD_pure (v := ?_) rfl (fun u => ?_) ?_; rotate_left; (focus (go_simp; (try with_reducible rfl); done)); simp only [Act.put, List.setIfInBounds_toArray, List.set_cons_zero, List.set_cons_succ]))
              (refine wpD_call (v := .int .u64 (getN a 64 i : Nat)) rfl 23 ?_ (fun u => ?_) (fun u hS => ?_) ?_; rotate_left 1; (focus (go_simp; (try with_reducible rfl); done)); (focus (refine (get64z a _ i _ rfl hlt).mono ?_; rintro e u2 ⟨rfl, hb⟩; exact ⟨rfl, hS.below hb⟩)); simp only [Act.put, List.setIfInBounds_toArray, List.set_cons_zero, List.set_cons_succ])
              repeat (first | (refine do_load rfl _ rfl _ rfl a (fun u hS => hS.hl.hold (_, a) (List.mem_cons_of_mem _ (List.mem_cons_of_mem _ List.mem_cons_self))) ?_; simp only [Act.put, List.setIfInBounds_toArray, List.set_cons_zero, List.set_cons_succ]) | (refine do_load rfl _ rfl _ rfl b (fun u hS => hS.hl.hold (_, b) (List.mem_cons_of_mem _ List.mem_cons_self)) ?_; simp only [Act.put, List.setIfInBounds_toArray, List.set_cons_zero, List.set_cons_succ]) | (refine do_loadK rfl _ rfl _ _ rfl (.int .i64 83) (fun u hS => by rw [cell_of_row u _ _ _ _ _ hS.ho]; rfl) ?_; simp only [Act.put, List.setIfInBounds_toArray, List.set_cons_zero, List.set_cons_succ]) | (refine wpD_pure (v := ?_) rfl (fun u => ?_) ?_; rotate_left; (focus (go_simp; (try with_reducible rfl); done)); simp only [Act.put, List.setIfInBounds_toArray, List.set_cons_zero, List.set_cons_succ]))
              (refine wpD_call (v := .int .u64 (getN b 64 i : Nat)) rfl 23 ?_ (fun u => ?_) (fun u hS => ?_) ?_; rotate_left 1; (focus (go_simp; (try with_reducible rfl); done)); (focus (refine (get64z b _ i _ rfl hlt).mono ?_; rintro e u2 ⟨rfl, hb⟩; exact ⟨rfl, hS.below hb⟩)); simp only [Act.put, List.setIfInBounds_toArray, List.set_cons_zero, List.set_cons_succ])
              repeat (first | (refine do_load rfl _ rfl _ rfl a (fun u hS => hS.hl.hold (_, a) (List.mem_cons_of_mem _ (List.mem_cons_of_mem _ List.mem_cons_self))) ?_; simp only [Act.put, List.setIfInBounds_toArray, List.set_cons_zero, List.set_cons_succ]) | (refine do_load rfl _ rfl _ rfl b (fun u hS => hS.hl.hold (_, b) (List.mem_cons_of_mem _ List.mem_cons_self)) ?_; simp only [Act.put, List.setIfInBounds_toArray, List.set_cons_zero, List.set_cons_succ]) | (refine do_loadK rfl _ rfl _ _ rfl (.int .i64 83) (fun u hS => by rw [cell_of_row u _ _ _ _ _ hS.ho]; rfl) ?_; simp only [Act.put, List.setIfInBounds_toArray, List.set_cons_zero, List.set_cons_succ]) | (refine wpD_pure (v := ?_) rfl (fun u => ?_) ?_; rotate_left; (focus (go_simp; (try with_reducible rfl); done)); simp only [Act.put, List.setIfInBounds_toArray, List.set_cons_zero, List.set_cons_succ]))
              (refine wpD_call (v := .tuple #[.int .u64 (xv : Int), .int .i64 0]) rfl 22 ?_ (fun u => ?_) (fun u hS => ?_) ?_; rotate_left 1; (focus (go_simp; (try with_reducible rfl); done)); (focus (refine (HB1.out _).mono ?_; rintro e u2 ⟨rfl, hb⟩; exact ⟨rfl, hS.below hb⟩)); simp only [Act.put, List.setIfInBounds_toArray, List.set_cons_zero, List.set_cons_succ])
              repeat (first | (refine do_load rfl _ rfl _ rfl a (fun u hS => hS.hl.hold (_, a) (List.mem_cons_of_mem _ (List.mem_cons_of_mem _ List.mem_cons_self))) ?_; simp only [Act.put, List.setIfInBounds_toArray, List.set_cons_zero, List.set_cons_succ]) | (refine do_load rfl _ rfl _ rfl b (fun u hS => hS.hl.hold (_, b) (List.mem_cons_of_mem _ List.mem_cons_self)) ?_; simp only [Act.put, List.setIfInBounds_toArray, List.set_cons_zero, List.set_cons_succ]) | (refine do_loadK rfl _ rfl _ _ rfl (.int .i64 83) (fun u hS => by rw [cell_of_row u _ _ _ _ _ hS.ho]; rfl) ?_; simp only [Act.put, List.setIfInBounds_toArray, List.set_cons_zero, List.set_cons_succ]) | (refine wpD_pure (v := ?_) rfl (fun u => ?_) ?_; rotate_left; (focus (go_simp; (try with_reducible rfl); done)); simp only [Act.put, List.setIfInBounds_toArray, List.set_cons_zero, List.set_cons_succ]))
              refine wpD_nil (fun wq hq => ?_)
              replace hs := hq
              clear hq HB1
              go_wp2_with (first | (with_reducible refine load_vec rfl _ rfl _ rfl V (hs.hl.hold (_, V) List.mem_cons_self) ?_) | ((with_reducible refine load_vec_g ?_ _ rfl _ rfl V (hs.hl.hold (_, V) List.mem_cons_self) ?_); (focus rfl)) | (go_at_call 20; (with_reducible refine (HGX.out _).mono ?_); rintro e u ⟨rfl, hb⟩; replace hs := hs.below hb; clear hb))
              go_roundw
              case rel => first | exact ⟨i + 1, by omega, by go_num, hs⟩ | ((repeat apply Exists.intro); exact ⟨⟨i + 1, by omega, by go_num, hs⟩, rfl⟩)
              case measure => (simp [intOf] <;> omega)
            · obtain rfl : i = 2 := by omega
              go_wp2_with fail
              go_roundw
              case rel => first | exact ⟨3, by omega, rfl, SO.pop hs⟩ | ((repeat apply Exists.intro); exact ⟨⟨3, by omega, rfl, SO.pop hs⟩, rfl⟩)
              case measure => (simp [intOf] <;> omega)

        · as_aux_lemma =>
          obtain ⟨V, hV⟩ : ∃ v, v = CV 64 4 a b := ⟨_, rfl⟩
          skip
          have HC := Lib.hid (fun W => lcv64_4 a b W)
          rw [← hV] at HC
          have HV := Lib.hid hV
          clear hV
          go_wp2_with (first | (with_reducible refine load_vec rfl _ rfl _ rfl b (hs.hl.hold (_, b) List.mem_cons_self) ?_) | (with_reducible refine load_vec rfl _ rfl _ rfl a (hs.hl.hold (_, a) (List.mem_cons_of_mem _ List.mem_cons_self)) ?_) | (go_at_call 18; (with_reducible refine (HC.out _).mono ?_); rintro e u ⟨rfl, hb⟩; replace hs := hs.below hb; clear hb) | (with_reducible refine store_vec rfl _ _ rfl _ _ rfl rfl 0 (heap_new_zero _) ?_; intro wA hA; replace hs := SO.push hs hA; clear hA))
          obtain ⟨X, hX⟩ : ∃ x, x = u.heap.size := ⟨_, rfl⟩
          rw [← hX] at hs ⊢
          clear hX HC
          go_loopw [13] (fun iv wr => ∃ i : Nat, i ≤ 2 ∧ iv = .int .i64 i ∧ SO w [(X, V), (w.heap.size + 1, b), (w.heap.size, a)] OB wr) (fun iv _ => 2 - (intOf iv).toNat)
          case atStart => exact ⟨0, Nat.zero_le _, rfl, hs⟩
          case round =>
            clear hs
            obtain ⟨i, hi, rfl, hs⟩ := hrel
            by_cases hlt : i < 2
            · have la : getN a 64 i < 18446744073709551616 := getN_lt a 64 i
              have lb : getN b 64 i < 18446744073709551616 := getN_lt b 64 i
              obtain ⟨hq1, hq2⟩ := cs64 85 4 (by decide) rfl a b i hlt
              rw [← HV.out] at hq1
              obtain ⟨xv, hxv⟩ : ∃ v, v = (bB 85 (BitVec.ofNat 64 (getN a 64 i)) (BitVec.ofNat 64 (getN b 64 i))).toNat := ⟨_, rfl⟩
              have hx1 : xv ≤ 1 := by rw [hxv]; exact bB_one _ _ _ (by omega)
              have NB1 := fun W => nbc 85 (getN a 64 i) (getN b 64 i) xv W (by omega) (by omega) (by omega) hq2 hxv
              rw [← hxv] at hq1
              have GX := fun W => signed64z V i i W rfl hlt
              rw [hq1] at GX
              have HB1 := Lib.hid NB1
              have HGX := Lib.hid GX
              clear NB1 GX hq1 hq2 hxv la lb
              skip
              have w1 : IntKind.i64.wrap (xv : Int) = xv := IntWalk.i64_in _ (by omega)
              have w2 : IntKind.i64.wrap (-(xv : Int)) = -xv := IntWalk.i64_in _ (by omega)
              go_wp2_with fail
              refine region_do (SO w [(X, V), (w.heap.size + 1, b), (w.heap.size, a)] OB) 14 (by kernel_rfl) (by kernel_rfl) hs.drew ?_
              simp only [List.take_succ_cons, List.take_zero, List.drop_succ_cons, List.drop_zero]
              repeat (first | (refine do_load rfl _ rfl _ rfl a (fun u hS => hS.hl.hold (_, a) (List.mem_cons_of_mem _ (List.mem_cons_of_mem _ List.mem_cons_self))) ?_; simp only [Act.put, List.setIfInBounds_toArray, List.set_cons_zero, List.set_cons_succ]) | (refine do_load rfl _ rfl _ rfl b (fun u hS => hS.hl.hold (_, b) (List.mem_cons_of_mem _ List.mem_cons_self)) ?_; simp only [Act.put, List.setIfInBounds_toArray, List.set_cons_zero, List.set_cons_succ]) | (refine do_loadK rfl _ rfl _ _ rfl (.int .i64 85) (fun u hS => by rw [cell_of_row u _ _ _ _ _ hS.ho]; rfl) ?_; simp only [Act.put, List.setIfInBounds_toArray, List.set_cons_zero, List.set_cons_succ]) | (refine wpD_pure (v := ?_) rfl (fun u => ?_) ?_; rotate_left; (focus (go_simp; (try with_reducible rfl); done)); simp only [Act.put, List.setIfInBounds_toArray, List.set_cons_zero, List.set_cons_succ]))
              (refine wpD_call (v := .int .u64 (getN a 64 i : Nat)) rfl 23 ?_ (fun u => ?_) (fun u hS => ?_) ?_; rotate_left 1; (focus (go_simp; (try with_reducible rfl); done)); (focus (refine (get64z a _ i _ rfl hlt).mono ?_; rintro e u2 ⟨rfl, hb⟩; exact ⟨rfl, hS.below hb⟩)); simp only [Act.put, List.setIfInBounds_toArray, List.set_cons_zero, List.set_cons_succ])
              repeat (first | (refine do_load rfl _ rfl _ rfl a (fun u hS => hS.hl.hold (_, a) (List.mem_cons_of_mem _ (List.mem_cons_of_mem _ List.mem_cons_self))) ?_; simp only [Act.put, List.setIfInBounds_toArray, List.set_cons_zero, List.set_cons_succ]) | (refine do_load rfl _ rfl _ rfl b (fun u hS => hS.hl.hold (_, b) (List.mem_cons_of_mem _ List.mem_cons_self)) ?_; simp only [Act.put, List.setIfInBounds_toArray, List.set_cons_zero, List.set_cons_succ]) | (refine do_loadK rfl _ rfl _ _ rfl (.int .i64 85) (fun u hS => by rw [cell_of_row u _ _ _ _ _ hS.ho]; rfl) ?_; simp only [Act.put, List.setIfInBounds_toArray, List.set_cons_zero, List.set_cons_succ]) | (refine wpD_pure (v := ?_) rfl (fun u => ?_) ?_; rotate_left; (focus (go_simp; (try with_reducible rfl); done)); simp only [Act.put, List.setIfInBounds_toArray, List.set_cons_zero, List.set_cons_succ]))
              (refine wpD_call (v := .int .u64 (getN b 64 i : Nat)) rfl 23 ?_ (fun u => ?_) (fun u hS => ?_) ?_; rotate_left 1; (focus (go_simp; (try with_reducible rfl); done)); (focus (refine (get64z b _ i _ rfl hlt).mono ?_; rintro e u2 ⟨rfl, hb⟩; exact ⟨rfl, hS.below hb⟩)); simp only [Act.put, List.setIfInBounds_toArray, List.set_cons_zero, List.set_cons_succ])
              repeat (first | (refine do_load rfl _ rfl _ rfl a (fun u hS => hS.hl.hold (_, a) (List.mem_cons_of_mem _ (List.mem_cons_of_mem _ List.mem_cons_self))) ?_; simp only [Act.put, List.setIfInBounds_toArray, List.set_cons_zero, List.set_cons_succ]) | (refine do_load rfl _ rfl _ rfl b (fun u hS => hS.hl.hold (_, b) (List.mem_cons_of_mem _ List.mem_cons_self)) ?_; simp only [Act.put, List.setIfInBounds_toArray, List.set_cons_zero, List.set_cons_succ]) | (refine do_loadK rfl _ rfl _ _ rfl (.int .i64 85) (fun u hS => by rw [cell_of_row u _ _ _ _ _ hS.ho]; rfl) ?_; simp only [Act.put, List.setIfInBounds_toArray, List.set_cons_zero, List.set_cons_succ]) | (refine wpD_pure (v := ?_) rfl (fun u => ?_) ?_; rotate_left; (focus (go_simp; (try with_reducible rfl); done)); simp only [Act.put, List.setIfInBounds_toArray, List.set_cons_zero, List.set_cons_succ]))
              (refine wpD_call (v := .tuple #[.int .u64 (xv : Int), .int .i64 0]) rfl 22 ?_ (fun u => ?_) (fun u hS => ?_) ?_; rotate_left 1; (focus (go_simp; (try with_reducible rfl); done)); (focus (refine (HB1.out _).mono ?_; rintro e u2 ⟨rfl, hb⟩; exact ⟨rfl, hS.below hb⟩)); simp only [Act.put, List.setIfInBounds_toArray, List.set_cons_zero, List.set_cons_succ])
              repeat (first | (refine do_load rfl _ rfl _ rfl a (fun u hS => hS.hl.hold (_, a) (List.mem_cons_of_mem _ (List.mem_cons_of_mem _ List.mem_cons_self))) ?_; simp only [Act.put, List.setIfInBounds_toArray, List.set_cons_zero, List.set_cons_succ]) | (refine do_load rfl _ rfl _ rfl b (fun u hS => hS.hl.hold (_, b) (List.mem_cons_of_mem _ List.mem_cons_self)) ?_; simp only [Act.put, List.setIfInBounds_toArray, List.set_cons_zero, List.set_cons_succ]) | (refine do_loadK rfl _ rfl _ _ rfl (.int .i64 85) (fun u hS => by rw [cell_of_row u _ _ _ _ _ hS.ho]; rfl) ?_; simp only [Act.put, List.setIfInBounds_toArray, List.set_cons_zero, List.set_cons_succ]) | (refine wpD_pure (v := ?_) rfl (fun u => ?_) ?_; rotate_left; (focus (go_simp; (try with_reducible rfl); done)); simp only [Act.put, List.setIfInBounds_toArray, List.set_cons_zero, List.set_cons_succ]))
              refine wpD_nil (fun wq hq => ?_)
              replace hs := hq
              clear hq HB1
              go_wp2_with (first | (with_reducible refine load_vec rfl _ rfl _ rfl V (hs.hl.hold (_, V) List.mem_cons_self) ?_) | ((with_reducible refine load_vec_g ?_ _ rfl _ rfl V (hs.hl.hold (_, V) List.mem_cons_self) ?_); (focus rfl)) | (go_at_call 20; (with_reducible refine (HGX.out _).mono ?_); rintro e u ⟨rfl, hb⟩; replace hs := hs.below hb; clear hb))
              go_roundw
              case rel => first | exact ⟨i + 1, by omega, by go_num, hs⟩ | ((repeat apply Exists.intro); exact ⟨⟨i + 1, by omega, by go_num, hs⟩, rfl⟩)
              case measure => (simp [intOf] <;> omega)
            · obtain rfl : i = 2 := by omega
              go_wp2_with fail
              go_roundw
              case rel => first | exact ⟨4, by omega, rfl, SO.pop hs⟩ | ((repeat apply Exists.intro); exact ⟨⟨4, by omega, rfl, SO.pop hs⟩, rfl⟩)
              case measure => (simp [intOf] <;> omega)

        · as_aux_lemma =>
          obtain ⟨V, hV⟩ : ∃ v, v = CV 64 6 a b := ⟨_, rfl⟩
          skip
          have HC := Lib.hid (fun W => lcv64_6 a b W)
          rw [← hV] at HC
          have HV := Lib.hid hV
          clear hV
          go_wp2_with (first | (with_reducible refine load_vec rfl _ rfl _ rfl b (hs.hl.hold (_, b) List.mem_cons_self) ?_) | (with_reducible refine load_vec rfl _ rfl _ rfl a (hs.hl.hold (_, a) (List.mem_cons_of_mem _ List.mem_cons_self)) ?_) | (go_at_call 18; (with_reducible refine (HC.out _).mono ?_); rintro e u ⟨rfl, hb⟩; replace hs := hs.below hb; clear hb) | (with_reducible refine store_vec rfl _ _ rfl _ _ rfl rfl 0 (heap_new_zero _) ?_; intro wA hA; replace hs := SO.push hs hA; clear hA))
          obtain ⟨X, hX⟩ : ∃ x, x = u.heap.size := ⟨_, rfl⟩
          rw [← hX] at hs ⊢
          clear hX HC
          go_loopw [13] (fun iv wr => ∃ i : Nat, i ≤ 2 ∧ iv = .int .i64 i ∧ SO w [(X, V), (w.heap.size + 1, b), (w.heap.size, a)] OB wr) (fun iv _ => 2 - (intOf iv).toNat)
          case atStart => exact ⟨0, Nat.zero_le _, rfl, hs⟩
          case round =>
            clear hs
            obtain ⟨i, hi, rfl, hs⟩ := hrel
            by_cases hlt : i < 2
            · have la : getN a 64 i < 18446744073709551616 := getN_lt a 64 i
              have lb : getN b 64 i < 18446744073709551616 := getN_lt b 64 i
              obtain ⟨hq1, hq2⟩ := cs64 87 6 (by decide) rfl a b i hlt
              rw [← HV.out] at hq1
              obtain ⟨xv, hxv⟩ : ∃ v, v = (bB 87 (BitVec.ofNat 64 (getN a 64 i)) (BitVec.ofNat 64 (getN b 64 i))).toNat := ⟨_, rfl⟩
              have hx1 : xv ≤ 1 := by rw [hxv]; exact bB_one _ _ _ (by omega)
              have NB1 := fun W => nbc 87 (getN a 64 i) (getN b 64 i) xv W (by omega) (by omega) (by omega) hq2 hxv
              rw [← hxv] at hq1
              have GX := fun W => signed64z V i i W rfl hlt
              rw [hq1] at GX
              have HB1 := Lib.hid NB1
              have HGX := Lib.hid GX
              clear NB1 GX hq1 hq2 hxv la lb
              skip
              have w1 : IntKind.i64.wrap (xv : Int) = xv := IntWalk.i64_in _ (by omega)
              have w2 : IntKind.i64.wrap (-(xv : Int)) = -xv := IntWalk.i64_in _ (by omega)
              go_wp2_with fail
              refine region_do (SO w [(X, V), (w.heap.size + 1, b), (w.heap.size, a)] OB) 14 (by kernel_rfl) (by kernel_rfl) hs.drew ?_
              simp only [List.take_succ_cons, List.take_zero, List.drop_succ_cons, List.drop_zero]
              repeat (first | (refine do_load rfl _ rfl _ rfl a (fun u hS => hS.hl.hold (_, a) (List.mem_cons_of_mem _ (List.mem_cons_of_mem _ List.mem_cons_self))) ?_; simp only [Act.put, List.setIfInBounds_toArray, List.set_cons_zero, List.set_cons_succ]) | (refine do_load rfl _ rfl _ rfl b (fun u hS => hS.hl.hold (_, b) (List.mem_cons_of_mem _ List.mem_cons_self)) ?_; simp only [Act.put, List.setIfInBounds_toArray, List.set_cons_zero, List.set_cons_succ]) | (refine do_loadK rfl _ rfl _ _ rfl (.int .i64 87) (fun u hS => by rw [cell_of_row u _ _ _ _ _ hS.ho]; rfl) ?_; simp only [Act.put, List.setIfInBounds_toArray, List.set_cons_zero, List.set_cons_succ]) | (refine wpD_pure (v := ?_) rfl (fun u => ?_) ?_; rotate_left; (focus (go_simp; (try with_reducible rfl); done)); simp only [Act.put, List.setIfInBounds_toArray, List.set_cons_zero, List.set_cons_succ]))
              (refine wpD_call (v := .int .u64 (getN a 64 i : Nat)) rfl 23 ?_ (fun u => ?_) (fun u hS => ?_) ?_; rotate_left 1; (focus (go_simp; (try with_reducible rfl); done)); (focus (refine (get64z a _ i _ rfl hlt).mono ?_; rintro e u2 ⟨rfl, hb⟩; exact ⟨rfl, hS.below hb⟩)); simp only [Act.put, List.setIfInBounds_toArray, List.set_cons_zero, List.set_cons_succ])
              repeat (first | (refine do_load rfl _ rfl _ rfl a (fun u hS => hS.hl.hold (_, a) (List.mem_cons_of_mem _ (List.mem_cons_of_mem _ List.mem_cons_self))) ?_; simp only [Act.put, List.setIfInBounds_toArray, List.set_cons_zero, List.set_cons_succ]) | (refine do_load rfl _ rfl _ rfl b (fun u hS => hS.hl.hold (_, b) (List.mem_cons_of_mem _ List.mem_cons_self)) ?_; simp only [Act.put, List.setIfInBounds_toArray, List.set_cons_zero, List.set_cons_succ]) | (refine do_loadK rfl _ rfl _ _ rfl (.int .i64 87) (fun u hS => by rw [cell_of_row u _ _ _ _ _ hS.ho]; rfl) ?_; simp only [Act.put, List.setIfInBounds_toArray, List.set_cons_zero, List.set_cons_succ]) | (refine wpD_pure (v := ?_) rfl (fun u => ?_) ?_; rotate_left; (focus (go_simp; (try with_reducible rfl); done)); simp only [Act.put, List.setIfInBounds_toArray, List.set_cons_zero, List.set_cons_succ]))
              (refine wpD_call (v := .int .u64 (getN b 64 i : Nat)) rfl 23 ?_ (fun u => ?_) (fun u hS => ?_) ?_; rotate_left 1; (focus (go_simp; (try with_reducible rfl); done)); (focus (refine (get64z b _ i _ rfl hlt).mono ?_; rintro e u2 ⟨rfl, hb⟩; exact ⟨rfl, hS.below hb⟩)); simp only [Act.put, List.setIfInBounds_toArray, List.set_cons_zero, List.set_cons_succ])
              repeat (first | (refine do_load rfl _ rfl _ rfl a (fun u hS => hS.hl.hold (_, a) (List.mem_cons_of_mem _ (List.mem_cons_of_mem _ List.mem_cons_self))) ?_; simp only [Act.put, List.setIfInBounds_toArray, List.set_cons_zero, List.set_cons_succ]) | (refine do_load rfl _ rfl _ rfl b (fun u hS => hS.hl.hold (_, b) (List.mem_cons_of_mem _ List.mem_cons_self)) ?_; simp only [Act.put, List.setIfInBounds_toArray, List.set_cons_zero, List.set_cons_succ]) | (refine do_loadK rfl _ rfl _ _ rfl (.int .i64 87) (fun u hS => by rw [cell_of_row u _ _ _ _ _ hS.ho]; rfl) ?_; simp only [Act.put, List.setIfInBounds_toArray, List.set_cons_zero, List.set_cons_succ]) | (refine wpD_pure (v := ?_) rfl (fun u => ?_) ?_; rotate_left; (focus (go_simp; (try with_reducible rfl); done)); simp only [Act.put, List.setIfInBounds_toArray, List.set_cons_zero, List.set_cons_succ]))
              (refine wpD_call (v := .tuple #[.int .u64 (xv : Int), .int .i64 0]) rfl 22 ?_ (fun u => ?_) (fun u hS => ?_) ?_; rotate_left 1; (focus (go_simp; (try with_reducible rfl); done)); (focus (refine (HB1.out _).mono ?_; rintro e u2 ⟨rfl, hb⟩; exact ⟨rfl, hS.below hb⟩)); simp only [Act.put, List.setIfInBounds_toArray, List.set_cons_zero, List.set_cons_succ])
              repeat (first | (refine do_load rfl _ rfl _ rfl a (fun u hS => hS.hl.hold (_, a) (List.mem_cons_of_mem _ (List.mem_cons_of_mem _ List.mem_cons_self))) ?_; simp only [Act.put, List.setIfInBounds_toArray, List.set_cons_zero, List.set_cons_succ]) | (refine do_load rfl _ rfl _ rfl b (fun u hS => hS.hl.hold (_, b) (List.mem_cons_of_mem _ List.mem_cons_self)) ?_; simp only [Act.put, List.setIfInBounds_toArray, List.set_cons_zero, List.set_cons_succ]) | (refine do_loadK rfl _ rfl _ _ rfl (.int .i64 87) (fun u hS => by rw [cell_of_row u _ _ _ _ _ hS.ho]; rfl) ?_; simp only [Act.put, List.setIfInBounds_toArray, List.set_cons_zero, List.set_cons_succ]) | (refine wpD_pure (v := ?_) rfl (fun u => ?_) ?_; rotate_left; (focus (go_simp; (try with_reducible rfl); done)); simp only [Act.put, List.setIfInBounds_toArray, List.set_cons_zero, List.set_cons_succ]))
              refine wpD_nil (fun wq hq => ?_)
              replace hs := hq
              clear hq HB1
              go_wp2_with (first | (with_reducible refine load_vec rfl _ rfl _ rfl V (hs.hl.hold (_, V) List.mem_cons_self) ?_) | ((with_reducible refine load_vec_g ?_ _ rfl _ rfl V (hs.hl.hold (_, V) List.mem_cons_self) ?_); (focus rfl)) | (go_at_call 20; (with_reducible refine (HGX.out _).mono ?_); rintro e u ⟨rfl, hb⟩; replace hs := hs.below hb; clear hb))
              go_roundw
              case rel => first | exact ⟨i + 1, by omega, by go_num, hs⟩ | ((repeat apply Exists.intro); exact ⟨⟨i + 1, by omega, by go_num, hs⟩, rfl⟩)
              case measure => (simp [intOf] <;> omega)
            · obtain rfl : i = 2 := by omega
              go_wp2_with fail
              go_roundw
              case rel => first | exact ⟨5, by omega, rfl, SO.pop hs⟩ | ((repeat apply Exists.intro); exact ⟨⟨5, by omega, rfl, SO.pop hs⟩, rfl⟩)
              case measure => (simp [intOf] <;> omega)

        · as_aux_lemma =>
          obtain ⟨V, hV⟩ : ∃ v, v = CV 64 8 a b := ⟨_, rfl⟩
          skip
          have HC := Lib.hid (fun W => lcv64_8 a b W)
          rw [← hV] at HC
          have HV := Lib.hid hV
          clear hV
          go_wp2_with (first | (with_reducible refine load_vec rfl _ rfl _ rfl b (hs.hl.hold (_, b) List.mem_cons_self) ?_) | (with_reducible refine load_vec rfl _ rfl _ rfl a (hs.hl.hold (_, a) (List.mem_cons_of_mem _ List.mem_cons_self)) ?_) | (go_at_call 18; (with_reducible refine (HC.out _).mono ?_); rintro e u ⟨rfl, hb⟩; replace hs := hs.below hb; clear hb) | (with_reducible refine store_vec rfl _ _ rfl _ _ rfl rfl 0 (heap_new_zero _) ?_; intro wA hA; replace hs := SO.push hs hA; clear hA))
          obtain ⟨X, hX⟩ : ∃ x, x = u.heap.size := ⟨_, rfl⟩
          rw [← hX] at hs ⊢
          clear hX HC
          go_loopw [13] (fun iv wr => ∃ i : Nat, i ≤ 2 ∧ iv = .int .i64 i ∧ SO w [(X, V), (w.heap.size + 1, b), (w.heap.size, a)] OB wr) (fun iv _ => 2 - (intOf iv).toNat)
          case atStart => exact ⟨0, Nat.zero_le _, rfl, hs⟩
          case round =>
            clear hs
            obtain ⟨i, hi, rfl, hs⟩ := hrel
            by_cases hlt : i < 2
            · have la : getN a 64 i < 18446744073709551616 := getN_lt a 64 i
              have lb : getN b 64 i < 18446744073709551616 := getN_lt b 64 i
              obtain ⟨hq1, hq2⟩ := cs64 89 8 (by decide) rfl a b i hlt
              rw [← HV.out] at hq1
              obtain ⟨xv, hxv⟩ : ∃ v, v = (bB 89 (BitVec.ofNat 64 (getN a 64 i)) (BitVec.ofNat 64 (getN b 64 i))).toNat := ⟨_, rfl⟩
              have hx1 : xv ≤ 1 := by rw [hxv]; exact bB_one _ _ _ (by omega)
              have NB1 := fun W => nbc 89 (getN a 64 i) (getN b 64 i) xv W (by omega) (by omega) (by omega) hq2 hxv
              rw [← hxv] at hq1
              have GX := fun W => signed64z V i i W rfl hlt
              rw [hq1] at GX
              have HB1 := Lib.hid NB1
              have HGX := Lib.hid GX
              clear NB1 GX hq1 hq2 hxv la lb
              skip
              have w1 : IntKind.i64.wrap (xv : Int) = xv := IntWalk.i64_in _ (by omega)
              have w2 : IntKind.i64.wrap (-(xv : Int)) = -xv := IntWalk.i64_in _ (by omega)
              go_wp2_with fail
              refine region_do (SO w [(X, V), (w.heap.size + 1, b), (w.heap.size, a)] OB) 14 (by kernel_rfl) (by kernel_rfl) hs.drew ?_
              simp only [List.take_succ_cons, List.take_zero, List.drop_succ_cons, List.drop_zero]
              repeat (first | (refine do_load rfl _ rfl _ rfl a (fun u hS => hS.hl.hold (_, a) (List.mem_cons_of_mem _ (List.mem_cons_of_mem _ List.mem_cons_self))) ?_; simp only [Act.put, List.setIfInBounds_toArray, List.set_cons_zero, List.set_cons_succ]) | (refine do_load rfl _ rfl _ rfl b (fun u hS => hS.hl.hold (_, b) (List.mem_cons_of_mem _ List.mem_cons_self)) ?_; simp only [Act.put, List.setIfInBounds_toArray, List.set_cons_zero, List.set_cons_succ]) | (refine do_loadK rfl _ rfl _ _ rfl (.int .i64 89) (fun u hS => by rw [cell_of_row u _ _ _ _ _ hS.ho]; rfl) ?_; simp only [Act.put, List.setIfInBounds_toArray, List.set_cons_zero, List.set_cons_succ]) | (refine wpD_pure (v := ?_) rfl (fun u => ?_) ?_; rotate_left; (focus (go_simp; (try with_reducible rfl); done)); simp only [Act.put, List.setIfInBounds_toArray, List.set_cons_zero, List.set_cons_succ]))
              (refine wpD_call (v := .int .u64 (getN a 64 i : Nat)) rfl 23 ?_ (fun u => ?_) (fun u hS => ?_) ?_; rotate_left 1; (focus (go_simp; (try with_reducible rfl); done)); (focus (refine (get64z a _ i _ rfl hlt).mono ?_; rintro e u2 ⟨rfl, hb⟩; exact ⟨rfl, hS.below hb⟩)); simp only [Act.put, List.setIfInBounds_toArray, List.set_cons_zero, List.set_cons_succ])
              repeat (first | (refine do_load rfl _ rfl _ rfl a (fun u hS => hS.hl.hold (_, a) (List.mem_cons_of_mem _ (List.mem_cons_of_mem _ List.mem_cons_self))) ?_; simp only [Act.put, List.setIfInBounds_toArray, List.set_cons_zero, List.set_cons_succ]) | (refine do_load rfl _ rfl _ rfl b (fun u hS => hS.hl.hold (_, b) (List.mem_cons_of_mem _ List.mem_cons_self)) ?_; simp only [Act.put, List.setIfInBounds_toArray, List.set_cons_zero, List.set_cons_succ]) | (refine do_loadK rfl _ rfl _ _ rfl (.int .i64 89) (fun u hS => by rw [cell_of_row u _ _ _ _ _ hS.ho]; rfl) ?_; simp only [Act.put, List.setIfInBounds_toArray, List.set_cons_zero, List.set_cons_succ]) | (refine wpD_pure (v := ?_) rfl (fun u => ?_) ?_; rotate_left; (focus (go_simp; (try with_reducible rfl); done)); simp only [Act.put, List.setIfInBounds_toArray, List.set_cons_zero, List.set_cons_succ]))
              (refine wpD_call (v := .int .u64 (getN b 64 i : Nat)) rfl 23 ?_ (fun u => ?_) (fun u hS => ?_) ?_; rotate_left 1; (focus (go_simp; (try with_reducible rfl); done)); (focus (refine (get64z b _ i _ rfl hlt).mono ?_; rintro e u2 ⟨rfl, hb⟩; exact ⟨rfl, hS.below hb⟩)); simp only [Act.put, List.setIfInBounds_toArray, List.set_cons_zero, List.set_cons_succ])
              repeat (first | (refine do_load rfl _ rfl _ rfl a (fun u hS => hS.hl.hold (_, a) (List.mem_cons_of_mem _ (List.mem_cons_of_mem _ List.mem_cons_self))) ?_; simp only [Act.put, List.setIfInBounds_toArray, List.set_cons_zero, List.set_cons_succ]) | (refine do_load rfl _ rfl _ rfl b (fun u hS => hS.hl.hold (_, b) (List.mem_cons_of_mem _ List.mem_cons_self)) ?_; simp only [Act.put, List.setIfInBounds_toArray, List.set_cons_zero, List.set_cons_succ]) | (refine do_loadK rfl _ rfl _ _ rfl (.int .i64 89) (fun u hS => by rw [cell_of_row u _ _ _ _ _ hS.ho]; rfl) ?_; simp only [Act.put, List.setIfInBounds_toArray, List.set_cons_zero, List.set_cons_succ]) | (refine wpD_pure (v := ?_) rfl (fun u => ?_) ?_; rotate_left; (focus (go_simp; (try with_reducible rfl); done)); simp only [Act.put, List.setIfInBounds_toArray, List.set_cons_zero, List.set_cons_succ]))
              (refine wpD_call (v := .tuple #[.int .u64 (xv : Int), .int .i64 0]) rfl 22 ?_ (fun u => ?_) (fun u hS => ?_) ?_; rotate_left 1; (focus (go_simp; (try with_reducible rfl); done)); (focus (refine (HB1.out _).mono ?_; rintro e u2 ⟨rfl, hb⟩; exact ⟨rfl, hS.below hb⟩)); simp only [Act.put, List.setIfInBounds_toArray, List.set_cons_zero, List.set_cons_succ])
              repeat (first | (refine do_load rfl _ rfl _ rfl a (fun u hS => hS.hl.hold (_, a) (List.mem_cons_of_mem _ (List.mem_cons_of_mem _ List.mem_cons_self))) ?_; simp only [Act.put, List.setIfInBounds_toArray, List.set_cons_zero, List.set_cons_succ]) | (refine do_load rfl _ rfl _ rfl b (fun u hS => hS.hl.hold (_, b) (List.mem_cons_of_mem _ List.mem_cons_self)) ?_; simp only [Act.put, List.setIfInBounds_toArray, List.set_cons_zero, List.set_cons_succ]) | (refine do_loadK rfl _ rfl _ _ rfl (.int .i64 89) (fun u hS => by rw [cell_of_row u _ _ _ _ _ hS.ho]; rfl) ?_; simp only [Act.put, List.setIfInBounds_toArray, List.set_cons_zero, List.set_cons_succ]) | (refine wpD_pure (v := ?_) rfl (fun u => ?_) ?_; rotate_left; (focus (go_simp; (try with_reducible rfl); done)); simp only [Act.put, List.setIfInBounds_toArray, List.set_cons_zero, List.set_cons_succ]))
              refine wpD_nil (fun wq hq => ?_)
              replace hs := hq
              clear hq HB1
              go_wp2_with (first | (with_reducible refine load_vec rfl _ rfl _ rfl V (hs.hl.hold (_, V) List.mem_cons_self) ?_) | ((with_reducible refine load_vec_g ?_ _ rfl _ rfl V (hs.hl.hold (_, V) List.mem_cons_self) ?_); (focus rfl)) | (go_at_call 20; (with_reducible refine (HGX.out _).mono ?_); rintro e u ⟨rfl, hb⟩; replace hs := hs.below hb; clear hb))
              go_roundw
              case rel => first | exact ⟨i + 1, by omega, by go_num, hs⟩ | ((repeat apply Exists.intro); exact ⟨⟨i + 1, by omega, by go_num, hs⟩, rfl⟩)
              case measure => (simp [intOf] <;> omega)
            · obtain rfl : i = 2 := by omega
              go_wp2_with fail
              go_roundw
              case rel => first | exact ⟨6, by omega, rfl, SO.pop hs⟩ | ((repeat apply Exists.intro); exact ⟨⟨6, by omega, rfl, SO.pop hs⟩, rfl⟩)
              case measure => (simp [intOf] <;> omega)

        · go_wp2_with fail
          go_ret
          exact ⟨rfl, hs.hl.bel⟩

end Go.Proofs.Ytifafdfjmhadaaa
