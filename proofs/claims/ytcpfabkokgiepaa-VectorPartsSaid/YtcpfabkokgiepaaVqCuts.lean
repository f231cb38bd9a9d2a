/-
  For every opcode, five numbers and upper bits plaitlaw09.VectorCuts returns true; no condition. (It is proved of the program's text over the formal model.)
-/
import Derived.Test.YtcpfabkokgiepaaVqDo
import Derived.Deep.Cut
import Derived.Test.YtcpfabkokgiepaaOpen
import Derived.Deep.Slices
import Derived.Deep.MidRow
set_option linter.unusedSimpArgs false
set_option linter.unusedVariables false
namespace Go.Proofs.Ytcpfabkokgiepaa
open Go.RowKit Pl

theorem run_ixu {o : Oper} {a : Act} {w : World} (x i : Operand) (ho : o.op = .indexAddr 26 x i) (b off n c : Nat) (hx : a.eval x = .slice (some ⟨b, off, none⟩) n c) (z : Int) (hi : a.eval i = .int .i64 z) (k : Nat) (hz : z = k) (hk : k < n) :
    (execOp a.eval o).run Try.prog w = .ok (.value (.pointer (some ⟨b, off + k, none⟩))) w := by
  have h2 : (0 ≤ z ∧ z < (n : Int)) := by omega
  unfold execOp
  simp only [ho, hx, hi, Sem.run_bind, run_indexAt_slice (h := under_su)]
  rw [if_pos h2, size_su]
  subst hz
  simp [Go.Addr.add_mid, go_sem]
set_option maxRecDepth 100000 in
theorem same_no (xa ya : Option Addr) (l m : List Int) (xc yc : Nat) (w : World) (hlen : l.length ≠ m.length) :
    Calls Try.prog 12 #[.slice xa l.length xc, .slice ya m.length yc] w fun e w' => e = .returned (.bool (decide (l = m))) ∧ Below w.heap.size w w' := by
  have hf : decide (l = m) = false := by
    simp only [decide_eq_false_iff_not]
    intro h
    exact hlen (by rw [h])
  rw [hf]
  have hne : (l.length : Int) ≠ (m.length : Int) := by omega
  clear hf hlen
  generalize l.length = p at hne ⊢
  generalize m.length = q at hne ⊢
  go_enter Try.func12, Try.ntmps12
  go_wp2_with fail
  go_ret
  exact ⟨rfl, Below.refl _ _⟩
set_option maxRecDepth 100000 in
set_option maxHeartbeats 1000000 in
theorem same_k (x y : Value) (l m : List Int) (w : World) (hx : LView .u64 w x l) (hy : LView .u64 w y m) (hl : l.length ≤ 1000) :
    Calls Try.prog 12 #[x, y] w fun e w' => e = .returned (.bool (decide (l = m))) ∧ Below w.heap.size w w' := by
  obtain ⟨xa, xc, rfl, hxc, hx2⟩ := hx.ex
  obtain ⟨ya, yc, rfl, hyc, hy2⟩ := hy.ex
  have HX := Lib.hid hx
  have HY := Lib.hid hy
  clear hx hy hx2 hy2
  by_cases hlen : l.length = m.length
  · obtain ⟨BB, hBB⟩ : ∃ B : Bool, B = decide (l = m) := ⟨_, rfl⟩
    rw [← hBB]
    have HB := Lib.hid hBB
    have HLEN := Lib.hid hlen
    obtain ⟨n, hn⟩ : ∃ n, n = m.length := ⟨_, rfl⟩
    have HN := Lib.hid hn
    have hn9 : n ≤ 1000 := by omega
    clear hl
    rw [hlen, ← hn]
    clear hBB hlen
    clear hn
    go_enter Try.func12, Try.ntmps12
    go_wp2_with fail
    go_loopw [5] (fun iv wr => ∃ i : Nat, i ≤ n ∧ iv = .int .i64 i ∧ Hid (∀ j, j < i → l[j]? = m[j]?) ∧ Below w.heap.size w wr) (fun iv _ => n - (intOf iv).toNat)
    case atStart => exact ⟨0, Nat.zero_le _, rfl, Lib.hid (fun j hj => absurd hj (Nat.not_lt_zero _)), Below.refl _ _⟩
    case round =>
      obtain ⟨i, hi, rfl, HE, hb⟩ := hrel
      by_cases hlt : i < n
      · have hl1 : i < l.length := by rw [HLEN.out, ← HN.out]; exact hlt
        have hm1 : i < m.length := by rw [← HN.out]; exact hlt
        obtain ⟨xb, xo, xc2, ex, _, hxb, hxx⟩ := HX.out.get i hl1
        obtain ⟨yb, yo, yc2, ey, _, hyb, hyy⟩ := HY.out.get i hm1
        injection ex with ex1 ex2 ex3
        injection ey with ey1 ey2 ey3
        subst ex1 ey1
        obtain ⟨zx, hzx⟩ : ∃ z, l[i]? = some z := ⟨_, List.getElem?_eq_getElem hl1⟩
        obtain ⟨zy, hzy⟩ : ∃ z, m[i]? = some z := ⟨_, List.getElem?_eq_getElem hm1⟩
        have c1 := cell_b (hxx i zx hzx) hxb hb
        have c2 := cell_b (hyy i zy hzy) hyb hb
        have HZX := Lib.hid hzx
        have HZY := Lib.hid hzy
        clear hxx hyy hzx hzy hl1 hm1 ex2 ex3 ey2 ey3
        go_wp2_with fail
        refine region_do (fun u => Below wr.heap.size wr u) 8 (by kernel_rfl) (by kernel_rfl) (Below.refl _ _).drew ?_
        simp only [List.take_succ_cons, List.take_zero, List.drop_succ_cons, List.drop_zero]
        repeat (first | (refine wpD_hereg rfl (fun u hS => run_ixu _ _ rfl xb xo n xc rfl _ rfl i rfl hlt) ?_; simp only [Act.put, List.setIfInBounds_toArray, List.set_cons_zero, List.set_cons_succ]) | (refine wpD_hereg rfl (fun u hS => run_ixu _ _ rfl yb yo n yc rfl _ rfl i rfl hlt) ?_; simp only [Act.put, List.setIfInBounds_toArray, List.set_cons_zero, List.set_cons_succ]) | (refine wpD_hereg rfl (fun u hS => run_ldc _ isAgg_u64 _ rfl xb (xo + i) rfl _ (cell_b c1 (World.block_lt_of_cell? _ _ c1) hS)) ?_; simp only [Act.put, List.setIfInBounds_toArray, List.set_cons_zero, List.set_cons_succ]) | (refine wpD_hereg rfl (fun u hS => run_ldc _ isAgg_u64 _ rfl yb (yo + i) rfl _ (cell_b c2 (World.block_lt_of_cell? _ _ c2) hS)) ?_; simp only [Act.put, List.setIfInBounds_toArray, List.set_cons_zero, List.set_cons_succ]) | (refine wpD_pure (v := ?_) rfl (fun u => ?_) ?_; rotate_left; (focus (go_simp; (try with_reducible rfl); done)); simp only [Act.put, List.setIfInBounds_toArray, List.set_cons_zero, List.set_cons_succ]))
        refine wpD_nil (fun w2 h2 => ?_)
        replace hb := hb.trans (h2.mono hb.size)
        clear h2 c1 c2
        by_cases he : zx = zy
        · subst he
          have HE2 : Hid (∀ j, j < i + 1 → l[j]? = m[j]?) := Lib.hid (fun j hj => by
            by_cases e : j = i
            · subst e; rw [HZX.out, HZY.out]
            · exact HE.out j (by omega))
          as_aux_lemma =>
            go_wp2_with fail
            exact ⟨⟨i + 1, by omega, by go_num, HE2, hb⟩, by simp [intOf]; omega⟩
        · have hf : BB = false := by
            rw [HB.out]
            simp only [decide_eq_false_iff_not]
            intro hlm
            have := HZX.out
            rw [hlm, HZY.out] at this
            injection this with this
            exact he this.symm
          subst hf
          as_aux_lemma =>
            go_wp2_with fail
            go_ret
            exact ⟨rfl, hb⟩
      · obtain rfl : i = n := by omega
        have hf : BB = true := by
          rw [HB.out]
          simp only [decide_eq_true_eq]
          apply List.ext_getElem?
          intro j
          by_cases hj : j < i
          · exact HE.out j hj
          · have e1 : l.length ≤ j := by have := HLEN.out; have := HN.out; omega
            have e2 : m.length ≤ j := by have := HN.out; omega
            rw [List.getElem?_eq_none e1, List.getElem?_eq_none e2]
        subst hf
        as_aux_lemma =>
          go_wp2_with fail
          go_ret
          exact ⟨rfl, hb⟩
  · exact same_no xa ya l m xc yc w hlen
end Go.Proofs.Ytcpfabkokgiepaa
namespace Go.Proofs.Ytcpfabkokgiepaa
open Go.RowKit Pl

theorem DoIs.view {B : Nat} {R : List Nat × Int} {e : Ending} {w : World} (h : DoIs B R e w) : ∃ rv, e = .returned (.tuple #[rv, .int .i64 R.2]) ∧ LView .u64 w rv (R.1.map Nat.cast) := by
  obtain ⟨rv, he, hx⟩ := h.ex
  refine ⟨rv, he, ?_⟩
  rcases hx with ⟨h1, rfl⟩ | ⟨h1, b, _, rfl, hb⟩
  · rw [h1]
    exact ⟨none, 0, rfl, Nat.le_refl _, .inl rfl⟩
  · refine ⟨_, R.1.length, by rw [List.length_map], by rw [List.length_map]; exact Nat.le_refl _, .inr ⟨b, 0, rfl, block_lt hb, fun i z hi => ?_⟩⟩
    rw [Nat.zero_add, cell_of_row w b i _ _ _ hb]
    rw [List.getElem?_map] at hi
    simp only [List.getElem?_toArray, List.getElem?_map]
    cases hr : R.1[i]? with
    | none => rw [hr] at hi; cases hi
    | some n => rw [hr] at hi; injection hi with hi; subst hi; rfl
theorem lv_lit {w : World} {b : Nat} (l : List Int) (h : w.heap[b]? = some (.cells (l.map (Value.int .u64)).toArray 22 (0, 0))) : LView .u64 w (.slice (some ⟨b, 0, none⟩) l.length l.length) l :=
  ⟨_, _, rfl, Nat.le_refl _, .inr ⟨b, 0, rfl, block_lt h, fun i z hi => by rw [Nat.zero_add, cell_of_row w b i _ _ _ h]; simp [hi]⟩⟩
theorem same_tt (x y : Value) (l : List Int) (w : World) (hx : LView .u64 w x l) (hy : LView .u64 w y l) (hl : l.length ≤ 1000) : Calls Try.prog 12 #[x, y] w fun e w' => e = .returned (.bool true) ∧ Below w.heap.size w w' := by
  have := same_k x y l l w hx hy hl
  simpa using this
theorem same_two (x : Value) (a b : Int) (w : World) (b0 : Nat) (hx : LView .u64 w x [a, b]) (hb : w.heap[b0]? = some (.cells #[.int .u64 a, .int .u64 b] 22 (0, 0))) : Calls Try.prog 12 #[x, .slice (some ⟨b0, 0, none⟩) 2 2] w fun e w' => e = .returned (.bool true) ∧ Below w.heap.size w w' :=
  same_tt x _ [a, b] w hx (lv_lit [a, b] hb) (by decide : (2 : Nat) ≤ 1000)
theorem aw1 : doV 64878 0 0 0 [72340172838076673, 72340172838076673, 144680345676153346, 144680345676153346] = ([217020518514230019, 217020518514230019], 0) := by decide +kernel
theorem aw2 : doV 64785 0 0 0 [4294967301] = ([21474836485, 21474836485], 0) := by decide +kernel
theorem aw3 : doV 64768 0 0 0 [1] = ([], 1) := by decide +kernel
theorem aw4 : isB 64878 = true := by decide +kernel
/-- Do on a slice that was just made. -/
theorem do_lit (op : Int) (hs : List Nat) (R : List Nat × Int) (hR : doV op 0 0 0 hs = R) (w : World) (b : Nat) (ho : -9223372036854775808 ≤ op ∧ op ≤ 9223372036854775807) (hl : ∀ x ∈ hs, x < 18446744073709551616)
    (hb : w.heap[b]? = some (.cells ((hs.map (Nat.cast : Nat → Int)).map (Value.int .u64)).toArray 22 (0, 0))) :
    Calls Try.prog 10 #[.agg #[.int .i64 op, .int .i64 0, .int .i64 0, .int .u64 0, .int .u64 0, .slice none 0 0], .slice (some ⟨b, 0, none⟩) hs.length hs.length] w fun e w' => (∃ rv, e = .returned (.tuple #[rv, .int .i64 R.2]) ∧ LView .u64 w' rv (R.1.map Nat.cast)) ∧ Below w.heap.size w w' := by
  have hv := lv_lit _ hb
  rw [List.length_map] at hv
  refine (do_k op 0 0 0 0 (.slice none 0 0) _ hs w ho hv hl).mono fun e w' h => ⟨?_, h.2⟩
  rw [hR] at h
  exact h.1.view
set_option maxRecDepth 100000 in
set_option maxHeartbeats 1000000 in
theorem awake_k (w : World) : Calls Try.prog 9 #[] w fun e w' => e = .returned (.bool true) ∧ Below w.heap.size w w' := by
  go_enter Try.func9, Try.ntmps9
  go_upto_region 2 with (first | (go_at_call 10; refine (do_lit 64878 [72340172838076673, 72340172838076673, 144680345676153346, 144680345676153346] ([217020518514230019, 217020518514230019], 0) aw1 _ _ (by decide) (by decide) (heap_alloc_new _ _)).mono ?_; rintro e u1 ⟨⟨r1, rfl, hv1⟩, hb1⟩))
  have hZ1 := below_new (Below.refl w.heap.size w) (Nat.le_refl _) _ hb1
  clear hb1
  go_upto_region 3 with (first | (go_at_call 10; refine (do_lit 64785 [4294967301] ([21474836485, 21474836485], 0) aw2 _ _ (by decide) (by decide) (heap_alloc_new _ _)).mono ?_; rintro e u2 ⟨⟨r2, rfl, hv2⟩, hb2⟩))
  have hZ2 := below_new hZ1 (Nat.le_refl _) _ hb2
  replace hv1 := hv1.below (below_new (Below.refl u1.heap.size u1) (Nat.le_refl _) _ hb2)
  clear hb2 hZ1
  go_upto_region 4 with (first | (go_at_call 10; refine (do_lit 64768 [1] ([], 1) aw3 _ _ (by decide) (by decide) (heap_alloc_new _ _)).mono ?_; rintro e u3 ⟨⟨r3, rfl, hv3⟩, hb3⟩))
  have hZ3 := below_new hZ2 (Nat.le_refl _) _ hb3
  replace hv1 := hv1.below (below_new (Below.refl u2.heap.size u2) (Nat.le_refl _) _ hb3)
  replace hv2 := hv2.below (below_new (Below.refl u2.heap.size u2) (Nat.le_refl _) _ hb3)
  clear hb3 hZ2
  replace hv1 : LView .u64 u3 r1 [217020518514230019, 217020518514230019] := hv1
  replace hv2 : LView .u64 u3 r2 [21474836485, 21474836485] := hv2
  have hB4 := fun W => is_k 64878 W (by decide)
  rw [aw4] at hB4
  have HB4 := Lib.hid hB4
  clear hB4
  go_wp2_with (first
    | (go_at_call 12; (with_reducible refine (same_two r1 _ _ _ _ (hv1.below ((Below.refl _ _).alloc (Nat.le_refl _) _)) (heap_alloc_new _ _)).mono ?_); rintro e u4 ⟨rfl, hb4⟩; have hZ4 := below_new hZ3 (Nat.le_refl _) _ hb4; have hv3' := hv2.below (below_new (Below.refl u3.heap.size u3) (Nat.le_refl _) _ hb4))
    | (go_at_call 12; (with_reducible refine (same_two r2 _ _ _ _ (hv3'.below ((Below.refl _ _).alloc (Nat.le_refl _) _)) (heap_alloc_new _ _)).mono ?_); rintro e u5 ⟨rfl, hb5⟩; have hZ5 := below_new hZ4 (Nat.le_refl _) _ hb5)
    | (go_at_call 13; refine (HB4.out _).mono ?_; rintro e u6 ⟨rfl, hb6⟩; have hZ6 := hZ5.trans (hb6.mono hZ5.size)))
  go_ret
  exact ⟨rfl, hZ6⟩
end Go.Proofs.Ytcpfabkokgiepaa
namespace Go.Proofs.Ytcpfabkokgiepaa
open Go.RowKit Pl

end Go.Proofs.Ytcpfabkokgiepaa
namespace Pl
open Go
open Go.Proofs.Ytcpfabkokgiepaa
def tyAt (κ : Nat) : List Int := match vrowAt (64768 + (κ : Int)) with | none => [] | some r => tyIn r
theorem cut_ops : ∀ κ : Fin 256, isB (64768 + (κ.val : Int)) = true → (tyAt κ.val).getLast? = some 127 → (tyAt κ.val = [127] ∧ κ.val ∈ [15, 16, 17]) ∨ (tyAt κ.val = [123, 127] ∧ κ.val ∈ [23, 26, 28, 107, 108, 109, 139, 140, 141, 171, 172, 173, 203, 204, 205]) := by decide +kernel
theorem cut_1 (x : Nat) : ((doV 64783 0 0 0 [x]).2 = 0 ∧ (doV 64783 0 0 0 [x]).1.length = 2) ∧ ((doV 64784 0 0 0 [x]).2 = 0 ∧ (doV 64784 0 0 0 [x]).1.length = 2) ∧ ((doV 64785 0 0 0 [x]).2 = 0 ∧ (doV 64785 0 0 0 [x]).1.length = 2) := ⟨⟨by kernel_rfl, by kernel_rfl⟩, ⟨by kernel_rfl, by kernel_rfl⟩, ⟨by kernel_rfl, by kernel_rfl⟩⟩
theorem cut_3 (x y z : Nat) : ((doV 64791 0 0 0 [x, y, z]).2 = 0 ∧ (doV 64791 0 0 0 [x, y, z]).1.length = 2) ∧ ((doV 64794 0 0 0 [x, y, z]).2 = 0 ∧ (doV 64794 0 0 0 [x, y, z]).1.length = 2) ∧ ((doV 64796 0 0 0 [x, y, z]).2 = 0 ∧ (doV 64796 0 0 0 [x, y, z]).1.length = 2) ∧ ((doV 64875 0 0 0 [x, y, z]).2 = 0 ∧ (doV 64875 0 0 0 [x, y, z]).1.length = 2) ∧ ((doV 64876 0 0 0 [x, y, z]).2 = 0 ∧ (doV 64876 0 0 0 [x, y, z]).1.length = 2) ∧ ((doV 64877 0 0 0 [x, y, z]).2 = 0 ∧ (doV 64877 0 0 0 [x, y, z]).1.length = 2) ∧ ((doV 64907 0 0 0 [x, y, z]).2 = 0 ∧ (doV 64907 0 0 0 [x, y, z]).1.length = 2) ∧ ((doV 64908 0 0 0 [x, y, z]).2 = 0 ∧ (doV 64908 0 0 0 [x, y, z]).1.length = 2) ∧ ((doV 64909 0 0 0 [x, y, z]).2 = 0 ∧ (doV 64909 0 0 0 [x, y, z]).1.length = 2) ∧ ((doV 64939 0 0 0 [x, y, z]).2 = 0 ∧ (doV 64939 0 0 0 [x, y, z]).1.length = 2) ∧ ((doV 64940 0 0 0 [x, y, z]).2 = 0 ∧ (doV 64940 0 0 0 [x, y, z]).1.length = 2) ∧ ((doV 64941 0 0 0 [x, y, z]).2 = 0 ∧ (doV 64941 0 0 0 [x, y, z]).1.length = 2) ∧ ((doV 64971 0 0 0 [x, y, z]).2 = 0 ∧ (doV 64971 0 0 0 [x, y, z]).1.length = 2) ∧ ((doV 64972 0 0 0 [x, y, z]).2 = 0 ∧ (doV 64972 0 0 0 [x, y, z]).1.length = 2) ∧ ((doV 64973 0 0 0 [x, y, z]).2 = 0 ∧ (doV 64973 0 0 0 [x, y, z]).1.length = 2) := ⟨⟨by kernel_rfl, by kernel_rfl⟩, ⟨by kernel_rfl, by kernel_rfl⟩, ⟨by kernel_rfl, by kernel_rfl⟩, ⟨by kernel_rfl, by kernel_rfl⟩, ⟨by kernel_rfl, by kernel_rfl⟩, ⟨by kernel_rfl, by kernel_rfl⟩, ⟨by kernel_rfl, by kernel_rfl⟩, ⟨by kernel_rfl, by kernel_rfl⟩, ⟨by kernel_rfl, by kernel_rfl⟩, ⟨by kernel_rfl, by kernel_rfl⟩, ⟨by kernel_rfl, by kernel_rfl⟩, ⟨by kernel_rfl, by kernel_rfl⟩, ⟨by kernel_rfl, by kernel_rfl⟩, ⟨by kernel_rfl, by kernel_rfl⟩, ⟨by kernel_rfl, by kernel_rfl⟩⟩
theorem cut_ok1 (κ : Nat) (h : κ ∈ [15, 16, 17]) (x : Nat) : (doV (64768 + (κ : Int)) 0 0 0 [x]).2 = 0 ∧ (doV (64768 + (κ : Int)) 0 0 0 [x]).1.length = 2 := by
  obtain ⟨c15, c16, c17⟩ := cut_1 x
  simp only [List.mem_cons, List.not_mem_nil, or_false] at h
  rcases h with rfl | rfl | rfl
  · exact c15
  · exact c16
  · exact c17
theorem cut_ok3 (κ : Nat) (h : κ ∈ [23, 26, 28, 107, 108, 109, 139, 140, 141, 171, 172, 173, 203, 204, 205]) (x y z : Nat) : (doV (64768 + (κ : Int)) 0 0 0 [x, y, z]).2 = 0 ∧ (doV (64768 + (κ : Int)) 0 0 0 [x, y, z]).1.length = 2 := by
  obtain ⟨c23, c26, c28, c107, c108, c109, c139, c140, c141, c171, c172, c173, c203, c204, c205⟩ := cut_3 x y z
  simp only [List.mem_cons, List.not_mem_nil, or_false] at h
  rcases h with rfl | rfl | rfl | rfl | rfl | rfl | rfl | rfl | rfl | rfl | rfl | rfl | rfl | rfl | rfl
  · exact c23
  · exact c26
  · exact c28
  · exact c107
  · exact c108
  · exact c109
  · exact c139
  · exact c140
  · exact c141
  · exact c171
  · exact c172
  · exact c173
  · exact c203
  · exact c204
  · exact c205
theorem doV_low {op A : Int} {lo hi : Nat} {hs hs' : List Nat} (h : ∀ r, vrowAt op = some r → takeV (tyIn r) hs = takeV (tyIn r) hs') : doV op A lo hi hs = doV op A lo hi hs' := by
  unfold doV
  cases hr : vrowAt op with
  | none => rfl
  | some r =>
    dsimp only
    unfold doR
    rw [h r hr]
theorem low_xor (x h : Nat) : (x ^^^ (h * 4294967296)) % 4294967296 = x % 4294967296 := by
  apply Nat.eq_of_testBit_eq
  intro i
  rw [show (4294967296 : Nat) = 2 ^ 32 from rfl, Nat.testBit_mod_two_pow, Nat.testBit_mod_two_pow, Nat.testBit_xor, Nat.testBit_mul_two_pow]
  by_cases hi : i < 32
  · simp [hi, show ¬ 32 ≤ i by omega]
  · simp [hi]
end Pl
namespace Go.Proofs.Ytcpfabkokgiepaa
open Go.RowKit Pl

theorem a5under : Try.prog.underlying 35 = some (.array 5 22) := by kernel_rfl
theorem a5size (a b c d e : Value) : (Try.prog.info? 35).map (·.size) = some #[a, b, c, d, e].size := by kernel_rfl
theorem load_a5 {ops : Array Oper} {rest : List Oper} {o : Oper} {a : Act} {w : World} {Q : Exit → Act → World → Prop} (hgd : o.guard = none) (x : Operand) (ho : o.op = .load 35 x) (b : Nat) (hx : a.eval x = .pointer (some ⟨b, 0, none⟩)) (c0 c1 c2 c3 c4 : Value)
    (hb : w.heap[b]? = some (.cells #[c0, c1, c2, c3, c4] 35 (0, 0))) (h : wpList Try.prog ops Q rest (a.put o.dst (.agg #[c0, c1, c2, c3, c4])) w) : wpList Try.prog ops Q (o :: rest) a w :=
  wpList_load_mid hgd 35 x ho b 0 hx [c0, c1, c2, c3, c4] _ (fun j v hj => by simp only [World.cell?, hb, Nat.zero_add]; simpa using hj) a5under rfl (a5size c0 c1 c2 c3 c4) h
theorem all5u (a b c d e : Int) : (#[.int .u64 a, .int .u64 b, .int .u64 c, .int .u64 d, .int .u64 e] : Array Value).all (·.oneCell') = true := by
  rw [← Array.all_toList]; rfl
theorem lv_a5 {w : World} {b : Nat} (x0 x1 x2 x3 x4 : Int) (h : w.heap[b]? = some (.cells #[.int .u64 x0, .int .u64 x1, .int .u64 x2, .int .u64 x3, .int .u64 x4] 35 (0, 0))) (n : Nat) (hn : n ≤ 5) : LView .u64 w (.slice (some ⟨b, 0, none⟩) n 5) ([x0, x1, x2, x3, x4].take n) := by
  have hl : ([x0, x1, x2, x3, x4].take n).length = n := by rw [List.length_take]; simp; omega
  refine ⟨_, 5, by rw [hl], by rw [hl]; exact hn, .inr ⟨b, 0, rfl, block_lt h, fun i z hi => ?_⟩⟩
  rw [Nat.zero_add, cell_of_row w b i _ _ _ h]
  rw [List.getElem?_take] at hi
  split at hi
  · match i, hi with
    | 0, hi => injection hi with hi; subst hi; rfl
    | 1, hi => injection hi with hi; subst hi; rfl
    | 2, hi => injection hi with hi; subst hi; rfl
    | 3, hi => injection hi with hi; subst hi; rfl
    | 4, hi => injection hi with hi; subst hi; rfl
    | i + 5, hi => cases hi
  · cases hi
theorem ix1_w {ops : Array Oper} {rest : List Oper} {o : Oper} {a : Act} {w : World} {Q : Exit → Act → World → Prop} (hw : Region.wanted o (yielded ops a.tmps) = true) (T : TypeId) (hs : ∀ u, (sizeOf (Try.prog.elem T)).run Try.prog u = .ok 1 u) (hu : Try.prog.underlying T = some (.slice (Try.prog.elem T))) (x i : Operand) (ho : o.op = .indexAddr T x i) (b off n c : Nat) (hx : a.eval x = .slice (some ⟨b, off, none⟩) n c) (z : Int) (hi : a.eval i = .int .i64 z) (k : Nat) (hz : z = k) (hk : k < n)
    (h : wpList Try.prog ops Q rest (a.put o.dst (.pointer (some ⟨b, off + k, none⟩))) w) : wpList Try.prog ops Q (o :: rest) a w := by
  have h2 : (0 ≤ z ∧ z < (n : Int)) := by omega
  refine wpList_step fun K hK => ?_
  rw [if_pos hw]
  unfold Oper.wp execOp
  simp only [ho, hx, hi, Sem.run_bind, run_indexAt_slice (h := hu)]
  rw [if_pos h2, hs]
  subst hz
  have := hK _ _ h
  simpa [Go.Addr.add_mid, go_sem] using this
theorem ld1_w {ops : Array Oper} {rest : List Oper} {o : Oper} {a : Act} {w : World} {Q : Exit → Act → World → Prop} (hw : Region.wanted o (yielded ops a.tmps) = true) (T : TypeId) (ha : ∀ w, (isAgg T).run Try.prog w = .ok false w) (x : Operand) (ho : o.op = .load T x) (ad : Addr) (hx : a.eval x = .pointer (some ad)) (v : Value) (hc : w.cell? ad = some v)
    (h : wpList Try.prog ops Q rest (a.put o.dst v) w) : wpList Try.prog ops Q (o :: rest) a w := by
  refine wpList_step fun K hK => ?_
  rw [if_pos hw]
  have ha := ha w
  unfold Oper.wp execOp
  simp only [ho, hx, Instr.loadAt, Instr.sureAddr, Sem.run_bind, Sem.run_pure, Result.andThen_ok]
  simp only [loadVar, Sem.run_bind, ha, Result.andThen_ok]
  simp [hc, go_sem]
  exact hK _ _ h
end Go.Proofs.Ytcpfabkokgiepaa
namespace Go.Proofs.Ytcpfabkokgiepaa
open Go.RowKit Pl

set_option maxRecDepth 100000 in
set_option maxHeartbeats 1000000 in
theorem cuts_none (op form lim : Int) (to : List Int) (U κ x0 x1 x2 x3 x4 h : Nat) (w : World) (hU : IntKind.u64.wrap op = (U : Int)) (hκ : U % 256 = κ) (HOF : ∀ W, Calls Try.prog 15 #[.int .i64 (64768 + (κ : Int))] W fun e w' => e = .returned (.tuple #[.agg #[.int .i64 0, .int .i64 0, .bool false, .slice none 0 0, .slice none 0 0], .bool false]) ∧ Below W.heap.size W w') (HIS : ∀ W, Calls Try.prog 13 #[.int .i64 (64768 + (κ : Int))] W fun e w' => e = .returned (.bool false) ∧ Below W.heap.size W w') :
    Calls Try.prog 7 #[.int .i64 op, .agg #[.int .u64 (x0 : Nat), .int .u64 (x1 : Nat), .int .u64 (x2 : Nat), .int .u64 (x3 : Nat), .int .u64 (x4 : Nat)], .int .u32 (h : Nat)] w fun e w' => e = .returned (.bool true) ∧ Below w.heap.size w w' := by
  replace HOF := Lib.hid HOF
  replace HIS := Lib.hid HIS
  have hk2 : κ < 256 := by omega
  have hkk : (U : Int) % 256 = (κ : Int) := by omega
  have hkt : (U : Int).tmod 256 = (κ : Int) := by rw [Int.tmod_eq_emod_of_nonneg (Int.natCast_nonneg _)]; exact hkk
  have h1 : IntKind.i64.wrap (κ : Int) = κ := IntWalk.i64_in _ (by omega)
  have h2 : IntKind.i64.wrap (64768 + (κ : Int)) = 64768 + (κ : Int) := IntWalk.i64_in _ (by omega)
  have h3 : IntKind.u64.wrap (κ : Int) = κ := IntWalk.u64_in _ (by omega)
  go_enter Try.func7, Try.ntmps7
  go_wp2_with (first | (go_at_call 9; refine (awake_k _).mono ?_; rintro e u0 ⟨rfl, hb0⟩; have hA := blk_keep (heap_alloc_new w (.cells #[.int .u64 (x0 : Nat), .int .u64 (x1 : Nat), .int .u64 (x2 : Nat), .int .u64 (x3 : Nat), .int .u64 (x4 : Nat)] 35)) hb0; have hZ := below_new (Below.refl w.heap.size w) (Nat.le_refl _) _ hb0; clear hb0) | (go_at_call 15; refine (HOF.out _).mono ?_; rintro e u1 ⟨rfl, hb1⟩; replace hA := blk_keep hA hb1; replace hZ := hZ.trans (hb1.mono hZ.size); clear hb1) | (go_at_call 13; refine (HIS.out _).mono ?_; rintro e u3 ⟨rfl, hb3⟩; replace hZ := below_new hZ (Nat.le_refl _) _ hb3))
  go_ret
  exact ⟨rfl, hZ⟩
set_option maxRecDepth 100000 in
set_option maxHeartbeats 1000000 in
theorem cuts_isnot (ti : List Int) (op form lim : Int) (to : List Int) (U κ x0 x1 x2 x3 x4 h : Nat) (w : World) (hU : IntKind.u64.wrap op = (U : Int)) (hκ : U % 256 = κ) (HOF : ∀ W, Calls Try.prog 15 #[.int .i64 (64768 + (κ : Int))] W fun e w' => ∃ (s t : Value) (pl : Bool), e = .returned (.tuple #[.agg #[.int .i64 form, .int .i64 lim, .bool pl, s, t], .bool true]) ∧ w'.ownsRow W.heap.size 3 1 s (ti).length ((ti).map (Value.int .i64)) ∧ w'.ownsRow W.heap.size 3 1 t to.length (to.map (Value.int .i64)) ∧ Below W.heap.size W w') (HIS : ∀ W, Calls Try.prog 13 #[.int .i64 (64768 + (κ : Int))] W fun e w' => e = .returned (.bool false) ∧ Below W.heap.size W w') :
    Calls Try.prog 7 #[.int .i64 op, .agg #[.int .u64 (x0 : Nat), .int .u64 (x1 : Nat), .int .u64 (x2 : Nat), .int .u64 (x3 : Nat), .int .u64 (x4 : Nat)], .int .u32 (h : Nat)] w fun e w' => e = .returned (.bool true) ∧ Below w.heap.size w w' := by
  replace HOF := Lib.hid HOF
  replace HIS := Lib.hid HIS
  have hk2 : κ < 256 := by omega
  have hkk : (U : Int) % 256 = (κ : Int) := by omega
  have hkt : (U : Int).tmod 256 = (κ : Int) := by rw [Int.tmod_eq_emod_of_nonneg (Int.natCast_nonneg _)]; exact hkk
  have h1 : IntKind.i64.wrap (κ : Int) = κ := IntWalk.i64_in _ (by omega)
  have h2 : IntKind.i64.wrap (64768 + (κ : Int)) = 64768 + (κ : Int) := IntWalk.i64_in _ (by omega)
  have h3 : IntKind.u64.wrap (κ : Int) = κ := IntWalk.u64_in _ (by omega)
  go_enter Try.func7, Try.ntmps7
  go_wp2_with (first | (go_at_call 9; refine (awake_k _).mono ?_; rintro e u0 ⟨rfl, hb0⟩; have hA := blk_keep (heap_alloc_new w (.cells #[.int .u64 (x0 : Nat), .int .u64 (x1 : Nat), .int .u64 (x2 : Nat), .int .u64 (x3 : Nat), .int .u64 (x4 : Nat)] 35)) hb0; have hZ := below_new (Below.refl w.heap.size w) (Nat.le_refl _) _ hb0; clear hb0) | (go_at_call 15; refine (HOF.out _).mono ?_; rintro e u1 ⟨s, t, pl, rfl, hss, hst, hb1⟩; replace hA := blk_keep hA hb1; replace hZ := hZ.trans (hb1.mono hZ.size); clear hb1) | ((with_reducible refine store_newk rfl 40 _ _ rfl _ _ rfl rfl (infsize _ _ _ _ _) (five_sz _ _ _ _ _ _ _ _ _ _) (all5 _ _ _ (owns_one hss).1 (owns_one hst).1) ?_); intro u2 hb2 hF lF; replace hA := blk_keep hA hb2; replace hZ := hZ.trans (hb2.mono hZ.size); have vT := (LView.of_own hss).below hb2; clear hb2 hss hst lF) | (go_at_call 13; refine (HIS.out _).mono ?_; rintro e u3 ⟨rfl, hb3⟩; replace hA := blk_keep hA hb3; replace hZ := hZ.trans (hb3.mono hZ.size)))
  go_ret
  exact ⟨rfl, hZ⟩
set_option maxRecDepth 100000 in
set_option maxHeartbeats 1000000 in
theorem cuts_empty (op form lim : Int) (to : List Int) (U κ x0 x1 x2 x3 x4 h : Nat) (w : World) (hU : IntKind.u64.wrap op = (U : Int)) (hκ : U % 256 = κ) (HOF : ∀ W, Calls Try.prog 15 #[.int .i64 (64768 + (κ : Int))] W fun e w' => ∃ (s t : Value) (pl : Bool), e = .returned (.tuple #[.agg #[.int .i64 form, .int .i64 lim, .bool pl, s, t], .bool true]) ∧ w'.ownsRow W.heap.size 3 1 s (([] : List Int)).length ((([] : List Int)).map (Value.int .i64)) ∧ w'.ownsRow W.heap.size 3 1 t to.length (to.map (Value.int .i64)) ∧ Below W.heap.size W w') (HIS : ∀ W, Calls Try.prog 13 #[.int .i64 (64768 + (κ : Int))] W fun e w' => e = .returned (.bool true) ∧ Below W.heap.size W w') :
    Calls Try.prog 7 #[.int .i64 op, .agg #[.int .u64 (x0 : Nat), .int .u64 (x1 : Nat), .int .u64 (x2 : Nat), .int .u64 (x3 : Nat), .int .u64 (x4 : Nat)], .int .u32 (h : Nat)] w fun e w' => e = .returned (.bool true) ∧ Below w.heap.size w w' := by
  replace HOF := Lib.hid HOF
  replace HIS := Lib.hid HIS
  have hk2 : κ < 256 := by omega
  have hkk : (U : Int) % 256 = (κ : Int) := by omega
  have hkt : (U : Int).tmod 256 = (κ : Int) := by rw [Int.tmod_eq_emod_of_nonneg (Int.natCast_nonneg _)]; exact hkk
  have h1 : IntKind.i64.wrap (κ : Int) = κ := IntWalk.i64_in _ (by omega)
  have h2 : IntKind.i64.wrap (64768 + (κ : Int)) = 64768 + (κ : Int) := IntWalk.i64_in _ (by omega)
  have h3 : IntKind.u64.wrap (κ : Int) = κ := IntWalk.u64_in _ (by omega)
  go_enter Try.func7, Try.ntmps7
  go_wp2_with (first | (go_at_call 9; refine (awake_k _).mono ?_; rintro e u0 ⟨rfl, hb0⟩; have hA := blk_keep (heap_alloc_new w (.cells #[.int .u64 (x0 : Nat), .int .u64 (x1 : Nat), .int .u64 (x2 : Nat), .int .u64 (x3 : Nat), .int .u64 (x4 : Nat)] 35)) hb0; have hZ := below_new (Below.refl w.heap.size w) (Nat.le_refl _) _ hb0; clear hb0) | (go_at_call 15; refine (HOF.out _).mono ?_; rintro e u1 ⟨s, t, pl, rfl, hss, hst, hb1⟩; replace hA := blk_keep hA hb1; replace hZ := hZ.trans (hb1.mono hZ.size); clear hb1) | ((with_reducible refine store_newk rfl 40 _ _ rfl _ _ rfl rfl (infsize _ _ _ _ _) (five_sz _ _ _ _ _ _ _ _ _ _) (all5 _ _ _ (owns_one hss).1 (owns_one hst).1) ?_); intro u2 hb2 hF lF; replace hA := blk_keep hA hb2; replace hZ := hZ.trans (hb2.mono hZ.size); have vT := (LView.of_own hss).below hb2; clear hb2 hss hst lF) | (go_at_call 13; refine (HIS.out _).mono ?_; rintro e u3 ⟨rfl, hb3⟩; replace hA := blk_keep hA hb3; replace hZ := hZ.trans (hb3.mono hZ.size); replace hF := blk_keep hF hb3; obtain ⟨sa, sc, es, _, _⟩ := vT.ex; replace es : s = .slice sa 0 sc := es; subst es) | ((with_reducible refine load_w ?_ 23 isAgg_slint _ rfl _ _ rfl _ _ hF _ rfl ?_); (focus rfl)))
  go_ret
  exact ⟨rfl, hZ⟩
set_option maxRecDepth 100000 in
set_option maxHeartbeats 1000000 in
theorem cuts_last1 (z : Int) (op form lim : Int) (to : List Int) (U κ x0 x1 x2 x3 x4 h : Nat) (w : World) (hU : IntKind.u64.wrap op = (U : Int)) (hκ : U % 256 = κ) (HOF : ∀ W, Calls Try.prog 15 #[.int .i64 (64768 + (κ : Int))] W fun e w' => ∃ (s t : Value) (pl : Bool), e = .returned (.tuple #[.agg #[.int .i64 form, .int .i64 lim, .bool pl, s, t], .bool true]) ∧ w'.ownsRow W.heap.size 3 1 s ([z]).length (([z]).map (Value.int .i64)) ∧ w'.ownsRow W.heap.size 3 1 t to.length (to.map (Value.int .i64)) ∧ Below W.heap.size W w') (HIS : ∀ W, Calls Try.prog 13 #[.int .i64 (64768 + (κ : Int))] W fun e w' => e = .returned (.bool true) ∧ Below W.heap.size W w') (hz : z ≠ 127) :
    Calls Try.prog 7 #[.int .i64 op, .agg #[.int .u64 (x0 : Nat), .int .u64 (x1 : Nat), .int .u64 (x2 : Nat), .int .u64 (x3 : Nat), .int .u64 (x4 : Nat)], .int .u32 (h : Nat)] w fun e w' => e = .returned (.bool true) ∧ Below w.heap.size w w' := by
  replace HOF := Lib.hid HOF
  replace HIS := Lib.hid HIS
  have hkl : 0 < ([z]).length := by simp
  have hkm : 0 < 1 := by decide
  have hk2 : κ < 256 := by omega
  have hkk : (U : Int) % 256 = (κ : Int) := by omega
  have hkt : (U : Int).tmod 256 = (κ : Int) := by rw [Int.tmod_eq_emod_of_nonneg (Int.natCast_nonneg _)]; exact hkk
  have h1 : IntKind.i64.wrap (κ : Int) = κ := IntWalk.i64_in _ (by omega)
  have h2 : IntKind.i64.wrap (64768 + (κ : Int)) = 64768 + (κ : Int) := IntWalk.i64_in _ (by omega)
  have h3 : IntKind.u64.wrap (κ : Int) = κ := IntWalk.u64_in _ (by omega)
  go_enter Try.func7, Try.ntmps7
  go_wp2_with (first | (go_at_call 9; refine (awake_k _).mono ?_; rintro e u0 ⟨rfl, hb0⟩; have hA := blk_keep (heap_alloc_new w (.cells #[.int .u64 (x0 : Nat), .int .u64 (x1 : Nat), .int .u64 (x2 : Nat), .int .u64 (x3 : Nat), .int .u64 (x4 : Nat)] 35)) hb0; have hZ := below_new (Below.refl w.heap.size w) (Nat.le_refl _) _ hb0; clear hb0) | (go_at_call 15; refine (HOF.out _).mono ?_; rintro e u1 ⟨s, t, pl, rfl, hss, hst, hb1⟩; replace hA := blk_keep hA hb1; replace hZ := hZ.trans (hb1.mono hZ.size); clear hb1) | ((with_reducible refine store_newk rfl 40 _ _ rfl _ _ rfl rfl (infsize _ _ _ _ _) (five_sz _ _ _ _ _ _ _ _ _ _) (all5 _ _ _ (owns_one hss).1 (owns_one hst).1) ?_); intro u2 hb2 hF lF; replace hA := blk_keep hA hb2; replace hZ := hZ.trans (hb2.mono hZ.size); have vT := (LView.of_own hss).below hb2; clear hb2 hss hst lF) | (go_at_call 13; refine (HIS.out _).mono ?_; rintro e u3 ⟨rfl, hb3⟩; replace hA := blk_keep hA hb3; replace hZ := hZ.trans (hb3.mono hZ.size); replace hF := blk_keep hF hb3; obtain ⟨sb, so, sc, es, _, hsb, hsx⟩ := (vT.below hb3).get 0 hkl; replace es : s = .slice (some ⟨sb, so, none⟩) 1 sc := es; subst es; have hc := hsx 0 z rfl; clear hsx vT) | ((with_reducible refine load_w ?_ 23 isAgg_slint _ rfl _ _ rfl _ _ hF _ rfl ?_); (focus rfl)) | ((with_reducible refine ix1_w ?_ 23 size_si under_si _ _ rfl sb so _ _ rfl _ rfl 0 rfl hkm ?_); (focus rfl)) | ((with_reducible refine ld1_w ?_ 3 isAgg_int _ rfl _ rfl _ hc ?_); (focus rfl)))
  go_ret
  exact ⟨rfl, hZ⟩
set_option maxRecDepth 100000 in
set_option maxHeartbeats 1000000 in
theorem cuts_last2 (z0 z : Int) (op form lim : Int) (to : List Int) (U κ x0 x1 x2 x3 x4 h : Nat) (w : World) (hU : IntKind.u64.wrap op = (U : Int)) (hκ : U % 256 = κ) (HOF : ∀ W, Calls Try.prog 15 #[.int .i64 (64768 + (κ : Int))] W fun e w' => ∃ (s t : Value) (pl : Bool), e = .returned (.tuple #[.agg #[.int .i64 form, .int .i64 lim, .bool pl, s, t], .bool true]) ∧ w'.ownsRow W.heap.size 3 1 s ([z0, z]).length (([z0, z]).map (Value.int .i64)) ∧ w'.ownsRow W.heap.size 3 1 t to.length (to.map (Value.int .i64)) ∧ Below W.heap.size W w') (HIS : ∀ W, Calls Try.prog 13 #[.int .i64 (64768 + (κ : Int))] W fun e w' => e = .returned (.bool true) ∧ Below W.heap.size W w') (hz : z ≠ 127) :
    Calls Try.prog 7 #[.int .i64 op, .agg #[.int .u64 (x0 : Nat), .int .u64 (x1 : Nat), .int .u64 (x2 : Nat), .int .u64 (x3 : Nat), .int .u64 (x4 : Nat)], .int .u32 (h : Nat)] w fun e w' => e = .returned (.bool true) ∧ Below w.heap.size w w' := by
  replace HOF := Lib.hid HOF
  replace HIS := Lib.hid HIS
  have hkl : 1 < ([z0, z]).length := by simp
  have hkm : 1 < 2 := by decide
  have hk2 : κ < 256 := by omega
  have hkk : (U : Int) % 256 = (κ : Int) := by omega
  have hkt : (U : Int).tmod 256 = (κ : Int) := by rw [Int.tmod_eq_emod_of_nonneg (Int.natCast_nonneg _)]; exact hkk
  have h1 : IntKind.i64.wrap (κ : Int) = κ := IntWalk.i64_in _ (by omega)
  have h2 : IntKind.i64.wrap (64768 + (κ : Int)) = 64768 + (κ : Int) := IntWalk.i64_in _ (by omega)
  have h3 : IntKind.u64.wrap (κ : Int) = κ := IntWalk.u64_in _ (by omega)
  go_enter Try.func7, Try.ntmps7
  go_wp2_with (first | (go_at_call 9; refine (awake_k _).mono ?_; rintro e u0 ⟨rfl, hb0⟩; have hA := blk_keep (heap_alloc_new w (.cells #[.int .u64 (x0 : Nat), .int .u64 (x1 : Nat), .int .u64 (x2 : Nat), .int .u64 (x3 : Nat), .int .u64 (x4 : Nat)] 35)) hb0; have hZ := below_new (Below.refl w.heap.size w) (Nat.le_refl _) _ hb0; clear hb0) | (go_at_call 15; refine (HOF.out _).mono ?_; rintro e u1 ⟨s, t, pl, rfl, hss, hst, hb1⟩; replace hA := blk_keep hA hb1; replace hZ := hZ.trans (hb1.mono hZ.size); clear hb1) | ((with_reducible refine store_newk rfl 40 _ _ rfl _ _ rfl rfl (infsize _ _ _ _ _) (five_sz _ _ _ _ _ _ _ _ _ _) (all5 _ _ _ (owns_one hss).1 (owns_one hst).1) ?_); intro u2 hb2 hF lF; replace hA := blk_keep hA hb2; replace hZ := hZ.trans (hb2.mono hZ.size); have vT := (LView.of_own hss).below hb2; clear hb2 hss hst lF) | (go_at_call 13; refine (HIS.out _).mono ?_; rintro e u3 ⟨rfl, hb3⟩; replace hA := blk_keep hA hb3; replace hZ := hZ.trans (hb3.mono hZ.size); replace hF := blk_keep hF hb3; obtain ⟨sb, so, sc, es, _, hsb, hsx⟩ := (vT.below hb3).get 1 hkl; replace es : s = .slice (some ⟨sb, so, none⟩) 2 sc := es; subst es; have hc := hsx 1 z rfl; clear hsx vT) | ((with_reducible refine load_w ?_ 23 isAgg_slint _ rfl _ _ rfl _ _ hF _ rfl ?_); (focus rfl)) | ((with_reducible refine ix1_w ?_ 23 size_si under_si _ _ rfl sb so _ _ rfl _ rfl 1 rfl hkm ?_); (focus rfl)) | ((with_reducible refine ld1_w ?_ 3 isAgg_int _ rfl _ rfl _ hc ?_); (focus rfl)))
  go_ret
  exact ⟨rfl, hZ⟩
set_option maxRecDepth 100000 in
set_option maxHeartbeats 1000000 in
theorem cuts_last3 (z0 z1 z : Int) (op form lim : Int) (to : List Int) (U κ x0 x1 x2 x3 x4 h : Nat) (w : World) (hU : IntKind.u64.wrap op = (U : Int)) (hκ : U % 256 = κ) (HOF : ∀ W, Calls Try.prog 15 #[.int .i64 (64768 + (κ : Int))] W fun e w' => ∃ (s t : Value) (pl : Bool), e = .returned (.tuple #[.agg #[.int .i64 form, .int .i64 lim, .bool pl, s, t], .bool true]) ∧ w'.ownsRow W.heap.size 3 1 s ([z0, z1, z]).length (([z0, z1, z]).map (Value.int .i64)) ∧ w'.ownsRow W.heap.size 3 1 t to.length (to.map (Value.int .i64)) ∧ Below W.heap.size W w') (HIS : ∀ W, Calls Try.prog 13 #[.int .i64 (64768 + (κ : Int))] W fun e w' => e = .returned (.bool true) ∧ Below W.heap.size W w') (hz : z ≠ 127) :
    Calls Try.prog 7 #[.int .i64 op, .agg #[.int .u64 (x0 : Nat), .int .u64 (x1 : Nat), .int .u64 (x2 : Nat), .int .u64 (x3 : Nat), .int .u64 (x4 : Nat)], .int .u32 (h : Nat)] w fun e w' => e = .returned (.bool true) ∧ Below w.heap.size w w' := by
  replace HOF := Lib.hid HOF
  replace HIS := Lib.hid HIS
  have hkl : 2 < ([z0, z1, z]).length := by simp
  have hkm : 2 < 3 := by decide
  have hk2 : κ < 256 := by omega
  have hkk : (U : Int) % 256 = (κ : Int) := by omega
  have hkt : (U : Int).tmod 256 = (κ : Int) := by rw [Int.tmod_eq_emod_of_nonneg (Int.natCast_nonneg _)]; exact hkk
  have h1 : IntKind.i64.wrap (κ : Int) = κ := IntWalk.i64_in _ (by omega)
  have h2 : IntKind.i64.wrap (64768 + (κ : Int)) = 64768 + (κ : Int) := IntWalk.i64_in _ (by omega)
  have h3 : IntKind.u64.wrap (κ : Int) = κ := IntWalk.u64_in _ (by omega)
  go_enter Try.func7, Try.ntmps7
  go_wp2_with (first | (go_at_call 9; refine (awake_k _).mono ?_; rintro e u0 ⟨rfl, hb0⟩; have hA := blk_keep (heap_alloc_new w (.cells #[.int .u64 (x0 : Nat), .int .u64 (x1 : Nat), .int .u64 (x2 : Nat), .int .u64 (x3 : Nat), .int .u64 (x4 : Nat)] 35)) hb0; have hZ := below_new (Below.refl w.heap.size w) (Nat.le_refl _) _ hb0; clear hb0) | (go_at_call 15; refine (HOF.out _).mono ?_; rintro e u1 ⟨s, t, pl, rfl, hss, hst, hb1⟩; replace hA := blk_keep hA hb1; replace hZ := hZ.trans (hb1.mono hZ.size); clear hb1) | ((with_reducible refine store_newk rfl 40 _ _ rfl _ _ rfl rfl (infsize _ _ _ _ _) (five_sz _ _ _ _ _ _ _ _ _ _) (all5 _ _ _ (owns_one hss).1 (owns_one hst).1) ?_); intro u2 hb2 hF lF; replace hA := blk_keep hA hb2; replace hZ := hZ.trans (hb2.mono hZ.size); have vT := (LView.of_own hss).below hb2; clear hb2 hss hst lF) | (go_at_call 13; refine (HIS.out _).mono ?_; rintro e u3 ⟨rfl, hb3⟩; replace hA := blk_keep hA hb3; replace hZ := hZ.trans (hb3.mono hZ.size); replace hF := blk_keep hF hb3; obtain ⟨sb, so, sc, es, _, hsb, hsx⟩ := (vT.below hb3).get 2 hkl; replace es : s = .slice (some ⟨sb, so, none⟩) 3 sc := es; subst es; have hc := hsx 2 z rfl; clear hsx vT) | ((with_reducible refine load_w ?_ 23 isAgg_slint _ rfl _ _ rfl _ _ hF _ rfl ?_); (focus rfl)) | ((with_reducible refine ix1_w ?_ 23 size_si under_si _ _ rfl sb so _ _ rfl _ rfl 2 rfl hkm ?_); (focus rfl)) | ((with_reducible refine ld1_w ?_ 3 isAgg_int _ rfl _ rfl _ hc ?_); (focus rfl)))
  go_ret
  exact ⟨rfl, hZ⟩
theorem do_two (op : Int) (hs : List Nat) (p q : Nat) (hR : doV op 0 0 0 hs = ([p, q], 0)) (w : World) (hv : Value) (ho : -9223372036854775808 ≤ op ∧ op ≤ 9223372036854775807) (hH : LView .u64 w hv (hs.map Nat.cast)) (hl : ∀ x ∈ hs, x < 18446744073709551616) :
    Calls Try.prog 10 #[.agg #[.int .i64 op, .int .i64 0, .int .i64 0, .int .u64 0, .int .u64 0, .slice none 0 0], hv] w fun e w' => ∃ ad c, e = .returned (.tuple #[.slice ad 2 c, .int .i64 0]) ∧ LView .u64 w' (.slice ad 2 c) [(p : Int), (q : Int)] ∧ Below w.heap.size w w' := by
  refine (do_k op 0 0 0 0 (.slice none 0 0) hv hs w ho hH hl).mono fun e w' h => ?_
  rw [hR] at h
  obtain ⟨rv, rfl, hvw⟩ := h.1.view
  obtain ⟨ad, c, he, _, _⟩ := hvw.ex
  have he' : rv = .slice ad 2 c := he
  subst he'
  exact ⟨ad, c, rfl, hvw, h.2⟩
theorem size_u64 : (Try.prog.info? 22).map (·.size) = some 1 := by kernel_rfl
theorem xor_y (x h y : Nat) (hx : x < 18446744073709551616) (hh : h < 4294967296) (hy : x ^^^ (h * 4294967296) = y) : bits BinOp.xor .u64 (x : Int) ((h : Int) * 4294967296) = (y : Int) := by
  have := u64_xor_nat x (h * 4294967296) hx (by omega)
  rw [show ((h * 4294967296 : Nat) : Int) = (h : Int) * 4294967296 by simp] at this
  rw [this, hy]
theorem at_xor0 {u : World} {g : Nat} {a b c d e : Value} {z y : Int} (hz : z = y) (h : u.heap[g]? = some (.cells (#[a, b, c, d, e].setIfInBounds 0 (.int .u64 z)) 35 (0, 0))) : u.heap[g]? = some (.cells #[.int .u64 y, b, c, d, e] 35 (0, 0)) := by
  subst hz; exact h
theorem at_xor2 {u : World} {g : Nat} {a b c d e : Value} {z y : Int} (hz : z = y) (h : u.heap[g]? = some (.cells (#[a, b, c, d, e].setIfInBounds 2 (.int .u64 z)) 35 (0, 0))) : u.heap[g]? = some (.cells #[a, b, .int .u64 y, d, e] 35 (0, 0)) := by
  subst hz; exact h
theorem five_0 (a b c d e : Value) : 0 < #[a, b, c, d, e].size := by simp
theorem five_2 (a b c d e : Value) : 2 < #[a, b, c, d, e].size := by simp
set_option maxRecDepth 100000 in
set_option maxHeartbeats 2000000 in
theorem cuts_go1 (op form lim : Int) (to : List Int) (U κ x0 x1 x2 x3 x4 h : Nat) (w : World) (hU : IntKind.u64.wrap op = (U : Int)) (hκ : U % 256 = κ) (y p q : Nat) (HOF : ∀ W, Calls Try.prog 15 #[.int .i64 (64768 + (κ : Int))] W fun e w' => ∃ (s t : Value) (pl : Bool), e = .returned (.tuple #[.agg #[.int .i64 form, .int .i64 lim, .bool pl, s, t], .bool true]) ∧ w'.ownsRow W.heap.size 3 1 s ([127]).length (([127]).map (Value.int .i64)) ∧ w'.ownsRow W.heap.size 3 1 t to.length (to.map (Value.int .i64)) ∧ Below W.heap.size W w') (HIS : ∀ W, Calls Try.prog 13 #[.int .i64 (64768 + (κ : Int))] W fun e w' => e = .returned (.bool true) ∧ Below W.heap.size W w') (hxs : x0 < 18446744073709551616 ∧ x1 < 18446744073709551616 ∧ x2 < 18446744073709551616) (hh : h < 4294967296) (hy : x0 ^^^ (h * 4294967296) = y) (hyl : y < 18446744073709551616)
    (hD1 : doV (64768 + (κ : Int)) 0 0 0 [x0] = ([p, q], 0)) (hD2 : doV (64768 + (κ : Int)) 0 0 0 [y] = ([p, q], 0)) :
    Calls Try.prog 7 #[.int .i64 op, .agg #[.int .u64 (x0 : Nat), .int .u64 (x1 : Nat), .int .u64 (x2 : Nat), .int .u64 (x3 : Nat), .int .u64 (x4 : Nat)], .int .u32 (h : Nat)] w fun e w' => e = .returned (.bool true) ∧ Below w.heap.size w w' := by
  have hk9 : κ < 256 := by omega
  replace HOF := Lib.hid HOF
  replace HIS := Lib.hid HIS
  have HD1 := Lib.hid hD1
  have HD2 := Lib.hid hD2
  have HY := Lib.hid hy
  obtain ⟨hx0, hx1, hx2⟩ := hxs
  have hl1 : ∀ x ∈ [x0], x < 18446744073709551616 := by simp; omega
  have hl2 : ∀ x ∈ [y], x < 18446744073709551616 := by simp; omega
  have hop : -9223372036854775808 ≤ (64768 + (κ : Int)) ∧ (64768 + (κ : Int)) ≤ 9223372036854775807 := by have := hk9; omega
  have HX0 := Lib.hid hx0
  have HL1 := Lib.hid hl1
  have HL2 := Lib.hid hl2
  have HOP := Lib.hid hop
  clear hx0 hx1 hx2 hl1 hl2 hop hyl hk9
  have hkl : 0 < ([127] : List Int).length := by decide
  have hkm : 0 < 1 := by decide
  clear hD1 hD2 hy
  have hk2 : κ < 256 := by omega
  have hkk : (U : Int) % 256 = (κ : Int) := by omega
  have hkt : (U : Int).tmod 256 = (κ : Int) := by rw [Int.tmod_eq_emod_of_nonneg (Int.natCast_nonneg _)]; exact hkk
  have h1 : IntKind.i64.wrap (κ : Int) = κ := IntWalk.i64_in _ (by omega)
  have h2 : IntKind.i64.wrap (64768 + (κ : Int)) = 64768 + (κ : Int) := IntWalk.i64_in _ (by omega)
  have h3 : IntKind.u64.wrap (κ : Int) = κ := IntWalk.u64_in _ (by omega)
  go_enter Try.func7, Try.ntmps7
  go_upto_region 9 with (first | (go_at_call 9; refine (awake_k _).mono ?_; rintro e u0 ⟨rfl, hb0⟩; have hA := blk_keep (heap_alloc_new w (.cells #[.int .u64 (x0 : Nat), .int .u64 (x1 : Nat), .int .u64 (x2 : Nat), .int .u64 (x3 : Nat), .int .u64 (x4 : Nat)] 35)) hb0; have hZ := below_new (Below.refl w.heap.size w) (Nat.le_refl _) _ hb0; clear hb0) | (go_at_call 15; refine (HOF.out _).mono ?_; rintro e u1 ⟨s, t, pl, rfl, hss, hst, hb1⟩; replace hA := blk_keep hA hb1; replace hZ := hZ.trans (hb1.mono hZ.size); clear hb1) | ((with_reducible refine store_newk rfl 40 _ _ rfl _ _ rfl rfl (infsize _ _ _ _ _) (five_sz _ _ _ _ _ _ _ _ _ _) (all5 _ _ _ (owns_one hss).1 (owns_one hst).1) ?_); intro u2 hb2 hF lF; replace hA := blk_keep hA hb2; replace hZ := hZ.trans (hb2.mono hZ.size); have vT := (LView.of_own hss).below hb2; clear hb2 hss hst lF) | (go_at_call 13; refine (HIS.out _).mono ?_; rintro e u3 ⟨rfl, hb3⟩; replace hA := blk_keep hA hb3; replace hZ := hZ.trans (hb3.mono hZ.size); replace hF := blk_keep hF hb3; obtain ⟨sb, so, sc, es, _, hsb, hsx⟩ := (vT.below hb3).get 0 hkl; replace es : s = .slice (some ⟨sb, so, none⟩) 1 sc := es; subst es; have hc := hsx 0 127 rfl; clear hsx vT) | ((with_reducible refine load_w ?_ 23 isAgg_slint _ rfl _ _ rfl _ _ hF _ rfl ?_); (focus rfl)) | ((with_reducible refine ix1_w ?_ 23 size_si under_si _ _ rfl sb so _ _ rfl _ rfl 0 rfl hkm ?_); (focus rfl)) | ((with_reducible refine ld1_w ?_ 3 isAgg_int _ rfl _ rfl _ hc ?_); (focus rfl)) | (with_reducible refine load_a5 rfl _ rfl _ rfl _ _ _ _ _ hA ?_) | ((with_reducible refine store_newk rfl 35 _ _ rfl _ _ rfl rfl (a5size _ _ _ _ _) (five_sz _ _ _ _ _ _ _ _ _ _) (all5u _ _ _ _ _) ?_); intro u4 hb4 hO lO; have hAl := block_lt hA; replace hA := blk_keep hA hb4; replace hZ := hZ.trans (hb4.mono hZ.size); clear hb4))
  go_upto_region 10 with (first | ((with_reducible refine load_w ?_ 22 isAgg_u64 _ rfl _ _ rfl _ _ hA _ rfl ?_); (focus rfl)) | (refine store_fld rfl 22 size_u64 _ _ rfl u3.heap.size 0 rfl (.int .u64 _) rfl rfl rfl _ _ hO (five_0 _ _ _ _ _) ?_; intro u5 g5 s5 b5; replace b5 := at_xor0 (xor_y x0 h y HX0.out hh HY.out) b5; replace hA := (g5.block w.heap.size (block_lt hA) (fun e => by injection e with e; omega)).trans hA; replace hZ := hZ.trans (grown_below (B := w.heap.size) g5 hZ.size (fun g e => by injection e with e; omega)); have vA := lv_a5 _ _ _ _ _ hA 1 (by decide); have vB := lv_a5 _ _ _ _ _ b5 1 (by decide); clear g5 s5 b5 hA hO lO))
  replace vA : LView .u64 u5 _ (([x0]).map Nat.cast) := vA
  replace vB : LView .u64 u5 _ (([y]).map Nat.cast) := vB
  go_upto_region 11 with (first | (go_at_call 10; refine (do_two _ [x0] p q HD1.out u5 _ HOP.out vA HL1.out).mono ?_; rintro e u6 ⟨a1, c1, rfl, hr1, hb6⟩; replace vB := vB.below hb6; replace hZ := hZ.trans (hb6.mono hZ.size); clear hb6))
  go_upto_region 12 with (first | (go_at_call 10; refine (do_two _ [y] p q HD2.out u6 _ HOP.out vB HL2.out).mono ?_; rintro e u7 ⟨a2, c2, rfl, hr2, hb7⟩; replace hr1 := hr1.below hb7; replace hZ := hZ.trans (hb7.mono hZ.size); clear hb7))
  go_wp2_with (first | (go_at_call 12; refine (same_tt _ _ [(p : Int), (q : Int)] _ hr1 hr2 (by simp)).mono ?_; rintro e u8 ⟨rfl, hb8⟩; replace hZ := hZ.trans (hb8.mono hZ.size)))
  go_ret
  exact ⟨rfl, hZ⟩
set_option maxRecDepth 100000 in
set_option maxHeartbeats 2000000 in
theorem cuts_go2 (op form lim : Int) (to : List Int) (U κ x0 x1 x2 x3 x4 h : Nat) (w : World) (hU : IntKind.u64.wrap op = (U : Int)) (hκ : U % 256 = κ) (y p q : Nat) (HOF : ∀ W, Calls Try.prog 15 #[.int .i64 (64768 + (κ : Int))] W fun e w' => ∃ (s t : Value) (pl : Bool), e = .returned (.tuple #[.agg #[.int .i64 form, .int .i64 lim, .bool pl, s, t], .bool true]) ∧ w'.ownsRow W.heap.size 3 1 s ([123, 127]).length (([123, 127]).map (Value.int .i64)) ∧ w'.ownsRow W.heap.size 3 1 t to.length (to.map (Value.int .i64)) ∧ Below W.heap.size W w') (HIS : ∀ W, Calls Try.prog 13 #[.int .i64 (64768 + (κ : Int))] W fun e w' => e = .returned (.bool true) ∧ Below W.heap.size W w') (hxs : x0 < 18446744073709551616 ∧ x1 < 18446744073709551616 ∧ x2 < 18446744073709551616) (hh : h < 4294967296) (hy : x2 ^^^ (h * 4294967296) = y) (hyl : y < 18446744073709551616)
    (hD1 : doV (64768 + (κ : Int)) 0 0 0 [x0, x1, x2] = ([p, q], 0)) (hD2 : doV (64768 + (κ : Int)) 0 0 0 [x0, x1, y] = ([p, q], 0)) :
    Calls Try.prog 7 #[.int .i64 op, .agg #[.int .u64 (x0 : Nat), .int .u64 (x1 : Nat), .int .u64 (x2 : Nat), .int .u64 (x3 : Nat), .int .u64 (x4 : Nat)], .int .u32 (h : Nat)] w fun e w' => e = .returned (.bool true) ∧ Below w.heap.size w w' := by
  have hk9 : κ < 256 := by omega
  replace HOF := Lib.hid HOF
  replace HIS := Lib.hid HIS
  have HD1 := Lib.hid hD1
  have HD2 := Lib.hid hD2
  have HY := Lib.hid hy
  obtain ⟨hx0, hx1, hx2⟩ := hxs
  have hl1 : ∀ x ∈ [x0, x1, x2], x < 18446744073709551616 := by simp; omega
  have hl2 : ∀ x ∈ [x0, x1, y], x < 18446744073709551616 := by simp; omega
  have hop : -9223372036854775808 ≤ (64768 + (κ : Int)) ∧ (64768 + (κ : Int)) ≤ 9223372036854775807 := by have := hk9; omega
  have HX2 := Lib.hid hx2
  have HL1 := Lib.hid hl1
  have HL2 := Lib.hid hl2
  have HOP := Lib.hid hop
  clear hx0 hx1 hx2 hl1 hl2 hop hyl hk9
  have hkl : 1 < ([123, 127] : List Int).length := by decide
  have hkm : 1 < 2 := by decide
  clear hD1 hD2 hy
  have hk2 : κ < 256 := by omega
  have hkk : (U : Int) % 256 = (κ : Int) := by omega
  have hkt : (U : Int).tmod 256 = (κ : Int) := by rw [Int.tmod_eq_emod_of_nonneg (Int.natCast_nonneg _)]; exact hkk
  have h1 : IntKind.i64.wrap (κ : Int) = κ := IntWalk.i64_in _ (by omega)
  have h2 : IntKind.i64.wrap (64768 + (κ : Int)) = 64768 + (κ : Int) := IntWalk.i64_in _ (by omega)
  have h3 : IntKind.u64.wrap (κ : Int) = κ := IntWalk.u64_in _ (by omega)
  go_enter Try.func7, Try.ntmps7
  go_upto_region 9 with (first | (go_at_call 9; refine (awake_k _).mono ?_; rintro e u0 ⟨rfl, hb0⟩; have hA := blk_keep (heap_alloc_new w (.cells #[.int .u64 (x0 : Nat), .int .u64 (x1 : Nat), .int .u64 (x2 : Nat), .int .u64 (x3 : Nat), .int .u64 (x4 : Nat)] 35)) hb0; have hZ := below_new (Below.refl w.heap.size w) (Nat.le_refl _) _ hb0; clear hb0) | (go_at_call 15; refine (HOF.out _).mono ?_; rintro e u1 ⟨s, t, pl, rfl, hss, hst, hb1⟩; replace hA := blk_keep hA hb1; replace hZ := hZ.trans (hb1.mono hZ.size); clear hb1) | ((with_reducible refine store_newk rfl 40 _ _ rfl _ _ rfl rfl (infsize _ _ _ _ _) (five_sz _ _ _ _ _ _ _ _ _ _) (all5 _ _ _ (owns_one hss).1 (owns_one hst).1) ?_); intro u2 hb2 hF lF; replace hA := blk_keep hA hb2; replace hZ := hZ.trans (hb2.mono hZ.size); have vT := (LView.of_own hss).below hb2; clear hb2 hss hst lF) | (go_at_call 13; refine (HIS.out _).mono ?_; rintro e u3 ⟨rfl, hb3⟩; replace hA := blk_keep hA hb3; replace hZ := hZ.trans (hb3.mono hZ.size); replace hF := blk_keep hF hb3; obtain ⟨sb, so, sc, es, _, hsb, hsx⟩ := (vT.below hb3).get 1 hkl; replace es : s = .slice (some ⟨sb, so, none⟩) 2 sc := es; subst es; have hc := hsx 1 127 rfl; clear hsx vT) | ((with_reducible refine load_w ?_ 23 isAgg_slint _ rfl _ _ rfl _ _ hF _ rfl ?_); (focus rfl)) | ((with_reducible refine ix1_w ?_ 23 size_si under_si _ _ rfl sb so _ _ rfl _ rfl 1 rfl hkm ?_); (focus rfl)) | ((with_reducible refine ld1_w ?_ 3 isAgg_int _ rfl _ rfl _ hc ?_); (focus rfl)) | (with_reducible refine load_a5 rfl _ rfl _ rfl _ _ _ _ _ hA ?_) | ((with_reducible refine store_newk rfl 35 _ _ rfl _ _ rfl rfl (a5size _ _ _ _ _) (five_sz _ _ _ _ _ _ _ _ _ _) (all5u _ _ _ _ _) ?_); intro u4 hb4 hO lO; have hAl := block_lt hA; replace hA := blk_keep hA hb4; replace hZ := hZ.trans (hb4.mono hZ.size); clear hb4))
  go_upto_region 10 with (first | ((with_reducible refine load_w ?_ 22 isAgg_u64 _ rfl _ _ rfl _ _ hA _ rfl ?_); (focus rfl)) | (refine store_fld rfl 22 size_u64 _ _ rfl u3.heap.size 2 rfl (.int .u64 _) rfl rfl rfl _ _ hO (five_2 _ _ _ _ _) ?_; intro u5 g5 s5 b5; replace b5 := at_xor2 (xor_y x2 h y HX2.out hh HY.out) b5; replace hA := (g5.block w.heap.size (block_lt hA) (fun e => by injection e with e; omega)).trans hA; replace hZ := hZ.trans (grown_below (B := w.heap.size) g5 hZ.size (fun g e => by injection e with e; omega)); have vA := lv_a5 _ _ _ _ _ hA 3 (by decide); have vB := lv_a5 _ _ _ _ _ b5 3 (by decide); clear g5 s5 b5 hA hO lO))
  replace vA : LView .u64 u5 _ (([x0, x1, x2]).map Nat.cast) := vA
  replace vB : LView .u64 u5 _ (([x0, x1, y]).map Nat.cast) := vB
  go_upto_region 11 with (first | (go_at_call 10; refine (do_two _ [x0, x1, x2] p q HD1.out u5 _ HOP.out vA HL1.out).mono ?_; rintro e u6 ⟨a1, c1, rfl, hr1, hb6⟩; replace vB := vB.below hb6; replace hZ := hZ.trans (hb6.mono hZ.size); clear hb6))
  go_upto_region 12 with (first | (go_at_call 10; refine (do_two _ [x0, x1, y] p q HD2.out u6 _ HOP.out vB HL2.out).mono ?_; rintro e u7 ⟨a2, c2, rfl, hr2, hb7⟩; replace hr1 := hr1.below hb7; replace hZ := hZ.trans (hb7.mono hZ.size); clear hb7))
  go_wp2_with (first | (go_at_call 12; refine (same_tt _ _ [(p : Int), (q : Int)] _ hr1 hr2 (by simp)).mono ?_; rintro e u8 ⟨rfl, hb8⟩; replace hZ := hZ.trans (hb8.mono hZ.size)))
  go_ret
  exact ⟨rfl, hZ⟩
end Go.Proofs.Ytcpfabkokgiepaa
namespace Go.Proofs.Ytcpfabkokgiepaa
open Go.RowKit Go.ChangeShapes Go.WideShapes Go.ChangeAt Pl

set_option maxRecDepth 100000 in
theorem open_a5 {H : Type} {enc : TypeId × Value → H} {w : World} {spare : Nat → Bool} {held : Bool} {base b0 : Nat} {r : Reach} {v : Value} {d : DataW H} {p : List MemPlace}
    (hv : Value.okWide Try.prog w r b0 35 v) (h : DataW.Trod enc Try.prog w base spare held 35 v d p) : ∃ x0 x1 x2 x3 x4 : Nat, v = .agg #[.int .u64 (x0 : Nat), .int .u64 (x1 : Nat), .int .u64 (x2 : Nat), .int .u64 (x3 : Nat), .int .u64 (x4 : Nat)] ∧
      x0 < 18446744073709551616 ∧ x1 < 18446744073709551616 ∧ x2 < 18446744073709551616 ∧ x3 < 18446744073709551616 ∧ x4 < 18446744073709551616 := by
  have hu : Try.prog.underlying 22 = some (.int .u64) := by kernel_rfl
  have hc1 : Try.prog.cellsOf 22 = 1 := by kernel_rfl
  have hc5 : Try.prog.cellsOf 35 = 5 := by kernel_rfl
  unfold Value.okWide at hv
  rw [a5under] at hv
  obtain ⟨cs, rfl, hsz, _⟩ := hv
  rw [hc5] at hsz
  obtain ⟨fuel, hf⟩ := h
  obtain ⟨xs, m, _, _, _, hl, hx⟩ := DataW.trod_array a5under hf
  simp only [Value.cells, hc1, Nat.mul_one] at hx
  have hcell : ∀ i, i < 5 → ∃ a : Nat, a < 18446744073709551616 ∧ cs[i]? = some (.int .u64 (a : Int)) := fun i hi => by
    have h1 := hx i hi
    have hci : (cs.toList.drop i).take 1 = [cs[i]'(by omega)] := by
      rw [List.drop_eq_getElem_cons (by simpa using (by omega : i < cs.size))]
      simp
    rw [hci, List.getElem?_eq_getElem (by omega)] at h1
    obtain ⟨a, e, _, wf⟩ := DataW.trod_int hu h1
    simp at e
    have hb := bounds_u64 wf
    refine ⟨a.toNat, by omega, ?_⟩
    rw [Array.getElem?_eq_getElem (by omega), e, Int.toNat_of_nonneg hb.1]
  obtain ⟨x0, h0, e0⟩ := hcell 0 (by decide)
  obtain ⟨x1, h1, e1⟩ := hcell 1 (by decide)
  obtain ⟨x2, h2, e2⟩ := hcell 2 (by decide)
  obtain ⟨x3, h3, e3⟩ := hcell 3 (by decide)
  obtain ⟨x4, h4, e4⟩ := hcell 4 (by decide)
  refine ⟨x0, x1, x2, x3, x4, ?_, h0, h1, h2, h3, h4⟩
  refine congrArg Value.agg ?_
  apply Array.ext_getElem?
  intro i
  match i with
  | 0 => exact e0
  | 1 => exact e1
  | 2 => exact e2
  | 3 => exact e3
  | 4 => exact e4
  | i + 5 => rw [Array.getElem?_eq_none (by omega), Array.getElem?_eq_none (by simp)]
theorem pair_of (l : List Nat × Int) (h1 : l.2 = 0) (h2 : l.1.length = 2) : ∃ p q, l = ([p, q], 0) := by
  obtain ⟨l, e⟩ := l
  match l, h2 with
  | [p, q], _ => exact ⟨p, q, by rw [show e = 0 from h1]⟩
theorem xor_lt (x h : Nat) (hx : x < 18446744073709551616) (hh : h < 4294967296) : x ^^^ (h * 4294967296) < 18446744073709551616 :=
  Nat.xor_lt_two_pow (n := 64) hx (show h * 4294967296 < 2 ^ 64 by omega)
theorem cuts_any (op z : Int) (x0 x1 x2 x3 x4 : Nat) (w : World) (ho : -9223372036854775808 ≤ op ∧ op ≤ 9223372036854775807) (hz : 0 ≤ z ∧ z < 4294967296) (h0 : x0 < 18446744073709551616) (h1 : x1 < 18446744073709551616) (h2 : x2 < 18446744073709551616) :
    Calls Try.prog 7 #[.int .i64 op, .agg #[.int .u64 (x0 : Nat), .int .u64 (x1 : Nat), .int .u64 (x2 : Nat), .int .u64 (x3 : Nat), .int .u64 (x4 : Nat)], .int .u32 z] w fun e w' => e = .returned (.bool true) ∧ Below w.heap.size w w' := by
  obtain ⟨h, rfl⟩ := Int.eq_ofNat_of_zero_le hz.1
  have hh : h < 4294967296 := by omega
  obtain ⟨U, hU⟩ : ∃ U : Nat, IntKind.u64.wrap op = (U : Int) := ⟨(op % 18446744073709551616).toNat, by rw [IntKind.wrap_u64]; omega⟩
  obtain ⟨κ, hκ⟩ : ∃ κ, U % 256 = κ := ⟨_, rfl⟩
  have hk : κ < 256 := by omega
  have hop : -9223372036854775808 ≤ (64768 + (κ : Int)) ∧ (64768 + (κ : Int)) ≤ 9223372036854775807 := by omega
  have HIS := fun W => is_k (64768 + (κ : Int)) W hop
  cases hr : vrowAt (64768 + (κ : Int)) with
  | none =>
    have hb : isB (64768 + (κ : Int)) = false := by unfold isB; rw [hr]
    rw [hb] at HIS
    exact cuts_none op 0 0 [] U κ x0 x1 x2 x3 x4 h w hU hκ (fun W => of_none _ W hop hr) HIS
  | some r =>
    have HOF := fun W => of_row _ r W hop hr
    by_cases hb : isB (64768 + (κ : Int)) = true
    · rw [hb] at HIS
      have fit := rowFit hr hb
      have hl := fit.len
      have hc := cut_ops ⟨κ, hk⟩ hb
      have ht : tyAt κ = tyIn r := by unfold tyAt; rw [hr]
      simp only [ht] at hc
      by_cases hlast : (tyIn r).getLast? = some 127
      · rcases hc hlast with ⟨hty, hm⟩ | ⟨hty, hm⟩
        · have ok := cut_ok1 κ hm x0
          obtain ⟨p, q, hpq⟩ := pair_of _ ok.1 ok.2
          rw [hty] at HOF
          refine cuts_go1 op r.form r.lim _ U κ x0 x1 x2 x3 x4 h w hU hκ _ p q HOF HIS ⟨h0, h1, h2⟩ hh rfl (xor_lt _ _ h0 hh) hpq ?_
          rw [← hpq]
          refine doV_low fun r' hr' => ?_
          rw [hr] at hr'
          injection hr' with hr'
          subst hr'
          rw [hty, takeV_i32, takeV_i32, low_xor]
        · have ok := cut_ok3 κ hm x0 x1 x2
          obtain ⟨p, q, hpq⟩ := pair_of _ ok.1 ok.2
          rw [hty] at HOF
          refine cuts_go2 op r.form r.lim _ U κ x0 x1 x2 x3 x4 h w hU hκ _ p q HOF HIS ⟨h0, h1, h2⟩ hh rfl (xor_lt _ _ h2 hh) hpq ?_
          rw [← hpq]
          refine doV_low fun r' hr' => ?_
          rw [hr] at hr'
          injection hr' with hr'
          subst hr'
          rw [hty, takeV_two, takeV_two, takeV_i32, takeV_i32, low_xor]
      · generalize tyIn r = ti at HOF hl hlast
        match ti, HOF, hl, hlast with
        | [], HOF, _, _ => exact cuts_empty op r.form r.lim _ U κ x0 x1 x2 x3 x4 h w hU hκ HOF HIS
        | [a], HOF, _, hlast => exact cuts_last1 a op r.form r.lim _ U κ x0 x1 x2 x3 x4 h w hU hκ HOF HIS (fun e => hlast (by rw [e]; rfl))
        | [a, b], HOF, _, hlast => exact cuts_last2 a b op r.form r.lim _ U κ x0 x1 x2 x3 x4 h w hU hκ HOF HIS (fun e => hlast (by rw [e]; rfl))
        | [a, b, c], HOF, _, hlast => exact cuts_last3 a b c op r.form r.lim _ U κ x0 x1 x2 x3 x4 h w hU hκ HOF HIS (fun e => hlast (by rw [e]; rfl))
        | _ :: _ :: _ :: _ :: _, _, hl, _ => simp at hl
    · have hb' : isB (64768 + (κ : Int)) = false := by simpa using hb
      rw [hb'] at HIS
      exact cuts_isnot _ op r.form r.lim _ U κ x0 x1 x2 x3 x4 h w hU hκ HOF HIS


set_option maxRecDepth 100000 in
theorem vectorCuts_lifted (os : Os) (started : os.Started) (H : Type) (enc : TypeId × Value → H) :
    ReturnsInHanded {} Try.checked os 7 .any (Rows.vectorCutsSpec.pre6 enc Try.prog Try.f7 Rows.vectorCutsRow.domain false) (Rows.vectorCutsSpec.post enc Try.prog Try.f7 false true false false) := by
  refine returnsInHanded_of_change (C := Try.checked) Try.own started (by kernel_rfl) Try.func7
    (ChangeSpec.witness6 (enc := enc) (C := Try.checked) false ⟨#[], #[.int .i64 0, .agg #[.int .u64 0, .int .u64 0, .int .u64 0, .int .u64 0, .int .u64 0], .int .u32 0], []⟩ 8 (by kernel_rfl) (by kernel_rfl) (by kernel_rfl) (by kernel_rfl)) ?_
  intro W base args ds gs before hval0 hW hcnd _
  have hval : ∀ (j : Nat) t v, Try.f7.params[j]? = some t → args[j]? = some v → Value.okWide Try.prog W .any base t v := hval0
  have hW' := hW
  obtain ⟨p, q, hA0, hV, rfl, hfz, hnd⟩ := hW
  have hA : DataW.TrodAll enc Try.prog W 0 (fun _ => true) true Try.f7.params.toList args.toList ds p := hA0
  rw [Try.params7] at hA hval
  obtain ⟨v0, v1, v2, d0, d1, d2, p0, p1, p2, rfl, rfl, rfl, h0, h1, h2⟩ := trodAll_three hA
  obtain ⟨rfl, rfl⟩ := trodVars_none hV
  clear hA0 hval0
  have k0 := h0
  obtain ⟨x0, rfl, e0, f0, w0⟩ := open_int Try.underlying3 (hval 0 3 v0 rfl rfl) k0
  obtain ⟨q0, q1, q2, q3, q4, rfl, kk0, kk1, kk2, kk3, kk4⟩ := open_a5 (hval 1 35 v1 rfl rfl) h1
  have k2 := h2
  obtain ⟨x2, rfl, e2, f2, w2⟩ := open_int Try.underlying55 (hval 2 55 v2 rfl rfl) k2
  simp only [List.append_nil] at hW'
  have laid : laidOutB Try.prog = true := by kernel_rfl
  refine (cuts_any x0 x2 q0 q1 q2 q3 q4 W (bounds_i64 w0) (bounds_u32 w2) kk0 kk1 kk2).mono fun e W' ⟨he, hb⟩ => ?_
  subst he
  exact ⟨_, rfl, _, _, _, [], _, [], hW', trodAll_mk1 (shut_bool Try.underlying4 _), trodAll_mk3 (Below.trod laid (by kernel_rfl) (of_decide_eq_true (by kernel_rfl)) h0 hb (fun x hx => hW'.lt x (by simp [hx]))) (Below.trod laid (by kernel_rfl) (of_decide_eq_true (by kernel_rfl)) h1 hb (fun x hx => hW'.lt x (by simp [hx]))) (Below.trod laid (by kernel_rfl) (of_decide_eq_true (by kernel_rfl)) h2 hb (fun x hx => hW'.lt x (by simp [hx]))), rfl, hb.frame _, fun h => by cases h⟩

theorem vectorCuts_holds : Rows.VectorCutsSaid :=
  OpenClaim.holds_of_wide 7 Try.f7 rfl rfl rfl rfl rfl rfl rfl ⟨rfl, rfl, rfl, rfl, rfl⟩ rfl rfl rfl rfl rfl (by kernel_rfl) Try.func7 (by kernel_rfl)
    (of_decide_eq_true (by kernel_rfl)) (by unfold Func.isWrapper; rw [if_neg (of_decide_eq_false (by kernel_rfl))]; exact ⟨rfl, rfl⟩)
    (fun os started H enc _ => vectorCuts_lifted os started H enc)
#print axioms vectorCuts_holds

end Go.Proofs.Ytcpfabkokgiepaa
