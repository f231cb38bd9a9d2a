/-
  The walk of plaitlaw08.WidenQ15.
-/
import Derived.Test.YtnjhojjpajnbhaaWidF
namespace Go.Proofs.Ytnjhojjpajnbhaa
open Go.RowKit Pl
set_option linter.unusedVariables false

theorem q15_lane (a b : Vec) (k : Nat) (hk : k < 8) : sgn 16 (getN (buildOn 0#128 16 (q15N a b) 8) 16 k) = min ((sgn 16 (getN a 16 k) * sgn 16 (getN b 16 k) + 16384) / 32768) 32767 := by
  have hm := mul_bd16 _ _ (bd16 a k) (bd16 b k)
  generalize hp : sgn 16 (getN a 16 k) * sgn 16 (getN b 16 k) = p at *
  have hb : -32768 ≤ min ((p + 16384) / 32768) 32767 ∧ min ((p + 16384) / 32768) 32767 ≤ 32767 := by omega
  refine sgn_16of _ _ ?_ hb
  rw [getN_buildOn _ _ _ _ _ (by decide), if_pos hk]
  unfold q15N
  rw [hp]
  generalize min ((p + 16384) / 32768) 32767 = z at *
  rw [show (2 : Nat) ^ 16 = 65536 from rfl]
  unfold Pl.u64
  omega
theorem q15_not (x y : Int) (hx : -32768 ≤ x ∧ x ≤ 32767) (hy : -32768 ≤ y ∧ y ≤ 32767) (h : ¬ (x = -32768 ∧ y = -32768)) : x * y ≤ 1073709056 ∧ -1073741824 ≤ x * y := by
  have h1 : (x * y).natAbs = x.natAbs * y.natAbs := Int.natAbs_mul x y
  by_cases hx2 : x = -32768
  · have h2 : x.natAbs * y.natAbs ≤ 32768 * 32767 ∨ 0 < y := by
      by_cases hy0 : 0 < y
      · exact .inr hy0
      · exact .inl (Nat.mul_le_mul (by omega) (by omega))
    have := mul_bd16 x y hx hy
    subst hx2
    omega
  · have h2 : x.natAbs * y.natAbs ≤ 32767 * 32768 := Nat.mul_le_mul (by omega) (by omega)
    have := mul_bd16 x y hx hy
    omega
theorem q15_cases (a b : Vec) (k : Nat) (hk : k < 8) :
    ((sgn 16 (getN a 16 k) == -32768) = true ∧ (sgn 16 (getN b 16 k) == -32768) = true ∧ (sgn 16 (getN (buildOn 0#128 16 (q15N a b) 8) 16 k) != 32767) = false) ∨
    (((sgn 16 (getN a 16 k) == -32768) = false ∨ (sgn 16 (getN a 16 k) == -32768) = true ∧ (sgn 16 (getN b 16 k) == -32768) = false) ∧
      ∃ r : Int, wrap64 (wrap64 (sgn 16 (getN a 16 k) * sgn 16 (getN b 16 k)) - wrap64 (sgn 16 (getN (buildOn 0#128 16 (q15N a b) 8) 16 k) * 32768)) = r ∧ -16384 ≤ r ∧ r < 16384) := by
  have hq := q15_lane a b k hk
  have hx := bd16 a k
  have hy := bd16 b k
  generalize sgn 16 (getN (buildOn 0#128 16 (q15N a b) 8) 16 k) = z at *
  generalize sgn 16 (getN a 16 k) = x at *
  generalize sgn 16 (getN b 16 k) = y at *
  by_cases h : x = -32768 ∧ y = -32768
  · obtain ⟨rfl, rfl⟩ := h
    exact .inl ⟨rfl, rfl, by rw [hq]; rfl⟩
  · have hm := q15_not x y hx hy h
    refine .inr ⟨?_, _, rfl, ?_⟩
    · by_cases h1 : x = -32768
      · exact .inr ⟨by rw [h1]; rfl, beq_eq_false_iff_ne.2 fun h2 => h ⟨h1, h2⟩⟩
      · exact .inl (beq_eq_false_iff_ne.2 h1)
    · rw [IntWalk.wrap64_in (x * y) (by omega), IntWalk.wrap64_in (z * 32768) (by omega), IntWalk.wrap64_in _ (by omega)]
      omega
def half : Vec := buildOn 0 16 (fun i => [16384, 16384, 16384, 16384, 16384, 16384, 16384, 16384].getD i 0) 8
theorem half_lane (k : Nat) (hk : k < 8) : sgn 16 (getN half 16 k) = 16384 := by
  have : ∀ k : Fin 8, sgn 16 (getN half 16 k.val) = 16384 := by decide +kernel
  exact this ⟨k, hk⟩
theorem half_eq (a : Vec) (k : Nat) (hk : k < 8) : sgn 16 (getN (buildOn 0#128 16 (q15N a half) 8) 16 k) = (sgn 16 (getN a 16 k) + 1) / 2 := by
  rw [q15_lane a half k hk, half_lane k hk]
  have hx := bd16 a k
  omega
theorem q15_comm (a b : Vec) : (buildOn 0#128 16 (q15N b a) 8) = (buildOn 0#128 16 (q15N a b) 8) := by
  have : q15N b a = q15N a b := funext fun i => by unfold q15N; rw [Int.mul_comm]
  rw [this]

theorem half_of (w : World) (b : Nat) (fr : Nat × Nat) (t : TypeId) (hb : w.heap[b]? = some (.cells #[.int .u64 16384, .int .u64 16384, .int .u64 16384, .int .u64 16384, .int .u64 16384, .int .u64 16384, .int .u64 16384, .int .u64 16384] t fr)) :
    Calls Try.prog 18 #[.int .i64 16, .slice (some ⟨b, 0, none⟩) 8 8] w fun e w' => e = .returned (.agg (cells half)) ∧ Below w.heap.size w w' :=
  of16 [16384, 16384, 16384, 16384, 16384, 16384, 16384, 16384] 8 8 w b fr t (by decide) (by decide) (by decide) rfl hb
theorem H3.newb {w0 u u1 : World} {a b d : Vec} {D : Nat} {x : Obj} (h : H3 w0 a b d D u) (hb : Below (u.alloc x).heap.size (u.alloc x) u1) : H3 w0 a b d D u1 :=
  ⟨⟨below_new h.h2.bel (Nat.le_refl _) x hb, blk_keep (blk_alloc h.h2.fst x) hb, blk_keep (blk_alloc h.h2.snd x) hb⟩, blk_keep (blk_alloc h.dd x) hb⟩
theorem H3.store {w0 u u1 : World} {a b d v : Vec} {D : Nat} {x : Obj} (h : H3 w0 a b d D u) (hs : Sets (u.alloc x) u.heap.size v u1) : H3 w0 a b d D u1 :=
  ⟨h.h2.store hs, blk_sets (blk_alloc h.dd x) hs (Nat.ne_of_lt (block_lt h.dd))⟩
structure H4 (w0 : World) (a b d : Vec) (D : Nat) (e : Vec) (E : Nat) (u : World) : Prop where
  h3 : H3 w0 a b d D u
  ee : u.heap[E]? = some (.cells (cells e) 23 (0, 0))
theorem H4.below {w0 u u1 : World} {a b d e : Vec} {D E : Nat} (h : H4 w0 a b d D e E u) (hb : Below u.heap.size u u1) : H4 w0 a b d D e E u1 := ⟨h.h3.below hb, blk_keep h.ee hb⟩
theorem H4.drew {w0 u : World} {a b d e : Vec} {D E : Nat} (h : H4 w0 a b d D e E u) : H4 w0 a b d D e E u.drew := ⟨h.h3.drew, h.ee⟩
theorem q15_back (a b : Vec) : (binW 64898 b a).1 = (buildOn 0#128 16 (q15N a b) 8) := q15_comm a b


set_option maxHeartbeats 8000000 in
set_option maxRecDepth 100000 in
theorem q15_walk (a b : Vec) (w : World) :
    Calls Try.prog 7 #[.agg (cells a), .agg (cells b)] w fun e w' => e = .returned (.bool true) ∧ Below w.heap.size w w' := by
  go_enter Try.func7, Try.ntmps7
  go_wp2_with fail
  refine (awake_any _).mono ?_
  rintro e w1 ⟨rfl, hb1⟩
  have hs : H2 w a b w1 := H2.start a b hb1
  clear hb1
  go_wp2_with (first | (with_reducible refine load_vec rfl _ rfl _ rfl _ hs.fst ?_) | (with_reducible refine load_vec rfl _ rfl _ rfl _ hs.snd ?_) | (go_at_call 17; (with_reducible refine (lbin_z 130 64898 a b (buildOn 0#128 16 (q15N a b) 8) _ (by decide) rfl rfl).mono ?_); rintro e u ⟨rfl, hb⟩; replace hs := hs.below hb; clear hb) | (with_reducible refine store_vec rfl _ _ rfl _ _ rfl rfl 0 (heap_new_zero _) ?_; intro wA hA; replace hs := hs.store hA))
  obtain ⟨D, hD⟩ : ∃ D, D = u.heap.size := ⟨_, rfl⟩
  have hdd := hA.this
  rw [← hD] at hdd ⊢
  have h3 : H3 w a b (buildOn 0#128 16 (q15N a b) 8) D wA := ⟨hs, hdd⟩
  clear hA hD hs hdd
  go_outline
  go_loopw [6] (fun iv wr => ∃ k : Nat, k ≤ 8 ∧ iv = .int .i64 k ∧ H3 w a b (buildOn 0#128 16 (q15N a b) 8) D wr) (fun iv _ => 8 - (intOf iv).toNat)
  case atStart => exact ⟨0, by omega, rfl, h3⟩
  case round =>
    clear h3
    obtain ⟨k, hk, rfl, hs⟩ := hrel
    by_cases hlt : k < 8
    · rcases q15_cases a b k hlt with ⟨t1, t2, t3⟩ | ⟨t1 | ⟨t1, t2⟩, r, t3, t4, t5⟩
      all_goals
        go_wp2_with (first | (with_reducible refine load_vec rfl _ rfl _ rfl _ hs.h2.fst ?_) | (with_reducible refine load_vec rfl _ rfl _ rfl _ hs.h2.snd ?_) | (with_reducible refine load_vec rfl _ rfl _ rfl _ hs.dd ?_) | (go_at_call 14; (with_reducible refine (signed16z a _ k _ rfl (by omega)).mono ?_); rintro e u ⟨rfl, hb⟩; replace hs := hs.below hb; clear hb) | (go_at_call 14; (with_reducible refine (signed16z b _ k _ rfl (by omega)).mono ?_); rintro e u ⟨rfl, hb⟩; replace hs := hs.below hb; clear hb) | (go_at_call 14; (with_reducible refine (signed16z (buildOn 0#128 16 (q15N a b) 8) _ k _ rfl (by omega)).mono ?_); rintro e u ⟨rfl, hb⟩; replace hs := hs.below hb; clear hb))
        go_roundw
        case rel => exact ⟨k + 1, by omega, by go_num, hs⟩
        case measure => (simp [intOf] <;> omega)
    · obtain rfl : k = 8 := by omega
      go_wp2_with fail
      refine (half_of _ _ _ _ (heap_alloc_new _ _)).mono ?_
      rintro e u ⟨rfl, hb⟩
      have h5 := hs.newb hb
      clear hs hb hk hlt
      go_wp2_with (first | (with_reducible refine load_vec rfl _ rfl _ rfl _ h6.h2.fst ?_) | (with_reducible refine load_vec rfl _ rfl _ rfl _ hh ?_) | (with_reducible refine store_vec rfl _ _ rfl _ _ rfl rfl 0 (heap_new_zero _) ?_; intro wB hB; have h6 := h5.store hB; have hh := hB.this; clear h5 hB) | (go_at_call 17; (with_reducible refine (lbin_z 130 64898 a half (buildOn 0#128 16 (q15N a half) 8) _ (by decide) rfl rfl).mono ?_); rintro e u ⟨rfl, hb⟩; have h7 := h6.below hb; clear hb h6 hh) | (with_reducible refine store_vec rfl _ _ rfl _ _ rfl rfl 0 (heap_new_zero _) ?_; intro wC hC; have h8 := h7.store hC; clear h7))
      obtain ⟨E, hE⟩ : ∃ E, E = u.heap.size := ⟨_, rfl⟩
      have hdd := hC.this
      rw [← hE] at hdd ⊢
      have h4 : H4 w a b (buildOn 0#128 16 (q15N a b) 8) D (buildOn 0#128 16 (q15N a half) 8) E wC := ⟨h8, hdd⟩
      clear hC hE h8 hdd
      go_loopw [13] (fun iv wr => ∃ k : Nat, k ≤ 8 ∧ iv = .int .i64 k ∧ H4 w a b (buildOn 0#128 16 (q15N a b) 8) D (buildOn 0#128 16 (q15N a half) 8) E wr) (fun iv _ => 8 - (intOf iv).toNat)
      case atStart => exact ⟨0, by omega, rfl, h4⟩
      case round =>
        clear h4
        obtain ⟨k, hk, rfl, hs⟩ := hrel
        by_cases hlt : k < 8
        · have t1 : (sgn 16 (getN (buildOn 0#128 16 (q15N a half) 8) 16 k) != (sgn 16 (getN a 16 k) + 1) / 2) = false := eq_testI (half_eq a k hlt)
          obtain ⟨b1, b2⟩ := bd16 a k
          have e1 : IntKind.i64.wrap (sgn 16 (getN a 16 k) + 1) = sgn 16 (getN a 16 k) + 1 := IntWalk.i64_in _ (by omega)
          go_wp2_with fail
          refine region_do (H4 w a b (buildOn 0#128 16 (q15N a b) 8) D (buildOn 0#128 16 (q15N a half) 8) E) 8 (by kernel_rfl) (by kernel_rfl) hs.drew ?_
          simp only [List.take_succ_cons, List.take_zero, List.drop_succ_cons, List.drop_zero]
          repeat (first | (refine do_loadg rfl _ rfl _ rfl _ (fun u hS => hS.ee) ?_; simp only [Act.put, List.setIfInBounds_toArray, List.set_cons_zero, List.set_cons_succ]) | (refine wpD_pure (v := ?_) rfl (fun u => ?_) ?_; rotate_left; (focus (go_simp; (try with_reducible rfl); done)); simp only [Act.put, List.setIfInBounds_toArray, List.set_cons_zero, List.set_cons_succ]))
          (refine wpD_callg (v := .int .i64 (sgn 16 (getN (buildOn 0#128 16 (q15N a half) 8) 16 k))) rfl 14 ?_ (fun u => ?_) (fun u hS => ?_) ?_; rotate_left 1; (focus (go_simp; (try with_reducible rfl); done)); (focus (refine (signed16z (buildOn 0#128 16 (q15N a half) 8) _ k _ rfl (by omega)).mono ?_; rintro e u2 ⟨rfl, hb⟩; exact ⟨rfl, hS.below hb⟩)); simp only [Act.put, List.setIfInBounds_toArray, List.set_cons_zero, List.set_cons_succ])
          repeat (first | (refine do_loadg rfl _ rfl _ rfl _ (fun u hS => hS.h3.h2.fst) ?_; simp only [Act.put, List.setIfInBounds_toArray, List.set_cons_zero, List.set_cons_succ]) | (refine wpD_pure (v := ?_) rfl (fun u => ?_) ?_; rotate_left; (focus (go_simp; (try with_reducible rfl); done)); simp only [Act.put, List.setIfInBounds_toArray, List.set_cons_zero, List.set_cons_succ]))
          (refine wpD_callg (v := .int .i64 (sgn 16 (getN a 16 k))) rfl 14 ?_ (fun u => ?_) (fun u hS => ?_) ?_; rotate_left 1; (focus (go_simp; (try with_reducible rfl); done)); (focus (refine (signed16z a _ k _ rfl (by omega)).mono ?_; rintro e u2 ⟨rfl, hb⟩; exact ⟨rfl, hS.below hb⟩)); simp only [Act.put, List.setIfInBounds_toArray, List.set_cons_zero, List.set_cons_succ])
          repeat (refine wpD_pure (v := ?_) rfl (fun u => ?_) ?_; rotate_left; (focus (go_simp; (try with_reducible rfl); done)); simp only [Act.put, List.setIfInBounds_toArray, List.set_cons_zero, List.set_cons_succ])
          refine wpD_nil (fun wr2 hr => ?_)
          go_wp2_with fail
          go_roundw
          case rel => exact ⟨k + 1, by omega, by go_num, hr⟩
          case measure => (simp [intOf] <;> omega)
        · obtain rfl : k = 8 := by omega
          have hE := equal_vec (buildOn 0#128 16 (q15N a b) 8) (buildOn 0#128 16 (q15N a b) 8)
          simp only [decide_true] at hE
          go_wp2_with fail
          refine region_do (H4 w a b (buildOn 0#128 16 (q15N a b) 8) D (buildOn 0#128 16 (q15N a half) 8) E) 5 (by kernel_rfl) (by kernel_rfl) hs.drew ?_
          simp only [List.take_succ_cons, List.take_zero, List.drop_succ_cons, List.drop_zero]
          (refine do_loadg rfl _ rfl _ rfl _ (fun u hS => hS.h3.h2.snd) ?_; simp only [Act.put, List.setIfInBounds_toArray, List.set_cons_zero, List.set_cons_succ])
          (refine do_loadg rfl _ rfl _ rfl _ (fun u hS => hS.h3.h2.fst) ?_; simp only [Act.put, List.setIfInBounds_toArray, List.set_cons_zero, List.set_cons_succ])
          (refine wpD_callg (v := .agg (cells (buildOn 0#128 16 (q15N a b) 8))) rfl 17 ?_ (fun u => ?_) (fun u hS => ?_) ?_; rotate_left 1; (focus (go_simp; (try with_reducible rfl); done)); (focus (refine (lbin_z 130 64898 b a (buildOn 0#128 16 (q15N a b) 8) _ (by decide) rfl (q15_back a b)).mono ?_; rintro e u2 ⟨rfl, hb⟩; exact ⟨rfl, hS.below hb⟩)); simp only [Act.put, List.setIfInBounds_toArray, List.set_cons_zero, List.set_cons_succ])
          (refine do_loadg rfl _ rfl _ rfl _ (fun u hS => hS.h3.dd) ?_; simp only [Act.put, List.setIfInBounds_toArray, List.set_cons_zero, List.set_cons_succ])
          repeat (refine wpD_pure (v := ?_) rfl (fun u => ?_) ?_; rotate_left; (focus (go_simp; (try with_reducible rfl); done)); simp only [Act.put, List.setIfInBounds_toArray, List.set_cons_zero, List.set_cons_succ])
          refine wpD_nil (fun wr2 hr => ?_)
          go_wp2_with fail
          go_ret
          exact ⟨rfl, hr.h3.h2.bel⟩

end Go.Proofs.Ytnjhojjpajnbhaa
