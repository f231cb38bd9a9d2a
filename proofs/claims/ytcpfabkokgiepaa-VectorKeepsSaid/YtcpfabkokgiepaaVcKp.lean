/-
  The walk of VectorKeeps.
-/
import Derived.Deep.Cut
import Derived.Test.YtcpfabkokgiepaaVqCuts
import Derived.Test.YtcpfabkokgiepaaDoE
import Derived.Test.YtcpfabkokgiepaaEq
set_option linter.unusedSimpArgs false
set_option linter.unusedVariables false
namespace Go.Proofs.Ytcpfabkokgiepaa
open Go.RowKit Pl

theorem part_u64 (cs : Array Value) (i : Nat) (v : Value) (h : cs[i]? = some v) (w : World) : (part 22 cs (i * Try.prog.cellsOf 22)).run Try.prog w = .ok v w := by
  have h1 : Try.prog.cellsOf 22 = 1 := by kernel_rfl
  have h2 : (isAgg 22).run Try.prog w = .ok false w := by kernel_rfl
  rw [h1, Nat.mul_one]
  simp [part, h2, h]
theorem items_same (d : Nat) (cs : Array Value) : ∀ (is : List Nat) (w : World), (∀ i ∈ is, ∃ z, cs[i]? = some (.int .u64 z)) →
    (Op.eqItems (d + 1) 22 (Try.prog.cellsOf 22) cs cs is).run Try.prog w = .ok true w
  | [], w, _ => by simp [Op.eqItems]
  | i :: is, w, h => by
    have hu : Try.prog.underlying 22 = some (.int .u64) := by kernel_rfl
    obtain ⟨z, hz⟩ := h i (by simp)
    simp only [Op.eqItems, Sem.run_bind, part_u64 cs i _ hz, Result.andThen_ok, run_equalIn_int w d 22 .u64 .u64 _ _ hu, beq_self_eq_true]
    simp only [Bool.not_true, Bool.false_eq_true, if_false]
    exact items_same d cs is w (fun j hj => h j (by simp [hj]))
set_option maxRecDepth 100000 in
theorem equal_a5 (x0 x1 x2 x3 x4 : Int) (w : World) : (Op.equalIn 10000 35 (.agg #[.int .u64 x0, .int .u64 x1, .int .u64 x2, .int .u64 x3, .int .u64 x4]) (.agg #[.int .u64 x0, .int .u64 x1, .int .u64 x2, .int .u64 x3, .int .u64 x4])).run Try.prog w = .ok true w := by
  obtain ⟨i, hi⟩ : ∃ i, Try.prog.info? 22 = some i := Option.isSome_iff_exists.1 (by kernel_rfl)
  rw [run_equalIn_array (P := Try.prog) w 9999 _ _ a5under hi, items_same 9998 _ _ w ?_]
  intro j hj
  have hj5 : j < 5 := by simpa using hj
  match j, hj5 with
  | 0, _ => exact ⟨_, rfl⟩
  | 1, _ => exact ⟨_, rfl⟩
  | 2, _ => exact ⟨_, rfl⟩
  | 3, _ => exact ⟨_, rfl⟩
  | 4, _ => exact ⟨_, rfl⟩
theorem guard_a5 (op : BinOp) (x y : Operand) (x0 x1 x2 x3 x4 : Int) (w : World) : (eqGuard op 35 x y (.agg #[.int .u64 x0, .int .u64 x1, .int .u64 x2, .int .u64 x3, .int .u64 x4]) (.agg #[.int .u64 x0, .int .u64 x1, .int .u64 x2, .int .u64 x3, .int .u64 x4])).run Try.prog w = .ok () w :=
  run_eqGuard_agg w op _ x y _ _ (by kernel_rfl)
/-- What a slice answered by Do is. -/
def RV (B : Nat) (l : List Int) (rv : Value) (u : World) : Prop := (l = [] ∧ rv = .slice none 0 0) ∨ (l ≠ [] ∧ ∃ b, B ≤ b ∧ rv = .slice (some ⟨b, 0, none⟩) l.length l.length ∧ u.heap[b]? = some (.cells (l.map (Value.int .u64)).toArray 22 (0, 0)))
theorem doV_len (op A : Int) (lo hi : Nat) (hs : List Nat) : (doV op A lo hi hs).1.length ≤ 2 := by
  unfold doV
  split
  · simp
  · split
    · unfold doR
      split
      · simp
      · split
        · unfold doM; split <;> simp
        · unfold doN; split <;> simp
    · simp
theorem RV.below {B : Nat} {l : List Int} {rv : Value} {u u1 : World} (h : RV B l rv u) (hb : Below u.heap.size u u1) : RV B l rv u1 :=
  h.imp id fun ⟨h1, b, h2, h3, h4⟩ => ⟨h1, b, h2, h3, blk_keep h4 hb⟩
theorem RV.lt {B : Nat} {l : List Int} {rv : Value} {u : World} (h : RV B l rv u) : ∀ b o n c, rv = .slice (some ⟨b, o, none⟩) n c → b < u.heap.size := fun b o n c e => by
  rcases h with ⟨_, h⟩ | ⟨_, b', _, h, hc⟩
  · rw [h] at e; cases e
  · rw [h] at e
    injection e with e1
    injection e1 with e1
    injection e1 with e1
    rw [← e1]
    exact block_lt hc
theorem LView.grown {k : IntKind} {w w1 : World} {v : Value} {l : List Int} {r : Option Nat} (h : LView k w v l) (g : w.grownBy w1 r) (hne : ∀ b, v.ownBlock = some b → r ≠ some b) : LView k w1 v l := by
  obtain ⟨ad, c, e, hc, h⟩ := h.ex
  refine ⟨ad, c, e, hc, h.imp id fun ⟨b, off, e1, hlt, hx⟩ => ⟨b, off, e1, Nat.lt_of_lt_of_le hlt g.size, fun i z hi => ?_⟩⟩
  have := hx i z hi
  unfold World.cell? at this ⊢
  rw [g.block b hlt (Ne.symm (hne b (by rw [e, e1]; rfl)))]
  exact this
theorem LView.of_ownu {w : World} {B n : Nat} {v : Value} {l : List Int} (h : w.ownsRow B 22 1 v n (l.map (Value.int .u64))) : LView .u64 w v l := by
  have hn0 : n = l.length := by have := h.1; simp at this; omega
  subst hn0
  rcases h.2 with ⟨rfl, h0⟩ | ⟨g, cap, cur, rfl, _, hg, hn, _, hs, ht⟩
  · exact ⟨none, 0, by rw [h0], by omega, .inl h0⟩
  · refine ⟨_, cap, rfl, hn, .inr ⟨g, 0, rfl, block_lt hg, fun i z hi => ?_⟩⟩
    have hlt := (List.getElem?_eq_some_iff.1 hi).1
    rw [Nat.zero_add, cell_of_row w g i _ _ _ hg]
    have h2 : (cur.toList.take (l.length * 1))[i]? = some (.int .u64 z) := by rw [ht, List.getElem?_map, hi]; rfl
    rw [List.getElem?_take, if_pos (by omega)] at h2
    simpa using h2
theorem own_shape {w : World} {B n : Nat} {v : Value} {xs : List Value} (h : w.ownsRow B 22 1 v n xs) : ∃ ad c, v = .slice ad n c := by
  rcases h.2 with ⟨rfl, rfl⟩ | ⟨g, cap, cur, rfl, _⟩
  · exact ⟨_, _, rfl⟩
  · exact ⟨_, _, rfl⟩
theorem own_ge {w : World} {B n : Nat} {v : Value} {xs : List Value} (h : w.ownsRow B 22 1 v n xs) : ∀ b, v.ownBlock = some b → B ≤ b := fun b e => by
  rcases h.2 with ⟨rfl, _⟩ | ⟨g, cap, cur, rfl, hB, _⟩
  · cases e
  · injection e with e; subst e; exact hB
theorem own_row {w : World} {B b : Nat} {l : List Int} (hB : B ≤ b) (hc : w.heap[b]? = some (.cells (l.map (Value.int .u64)).toArray 22 (0, 0))) (hl : l.length ≤ 1000) : w.ownsRow B 22 1 (.slice (some ⟨b, 0, none⟩) l.length l.length) l.length (l.map (Value.int .u64)) :=
  ⟨by simp, .inr ⟨b, _, _, rfl, hB, hc, Nat.le_refl _, by unfold maxLen; omega, by simp, by simpa using List.take_of_length_le (by simp)⟩⟩
theorem own_rowm {w : World} {B b m : Nat} {l : List Int} (hm : l.length = m) (hB : B ≤ b) (hc : w.heap[b]? = some (.cells (l.map (Value.int .u64)).toArray 22 (0, 0))) (hl : m ≤ 1000) : w.ownsRow B 22 1 (.slice (some ⟨b, 0, none⟩) m m) m (l.map (Value.int .u64)) := by
  subst hm; exact own_row hB hc hl
theorem set_row {w : World} {b i : Nat} {z : Int} {l : List Int} (h : w.heap[b]? = some (.cells ((l.map (Value.int .u64)).toArray.setIfInBounds (0 + i) (.int .u64 z)) 22 (0, 0))) : w.heap[b]? = some (.cells ((l.set i z).map (Value.int .u64)).toArray 22 (0, 0)) := by
  rw [h, Nat.zero_add, List.setIfInBounds_toArray, List.map_set]
theorem own_empty {w : World} {B b : Nat} (hB : B ≤ b) (hc : w.heap[b]? = some (.cells #[] 22 (0, 0))) : w.ownsRow B 22 1 (.slice (some ⟨b, 0, none⟩) 0 0) 0 (([] : List Int).map (Value.int .u64)) :=
  own_row (l := []) hB hc (by decide)
theorem lv_cells {w : World} {b off m c : Nat} {l : List Int} (h : LView .u64 w (.slice (some ⟨b, off, none⟩) m c) l) (hm : m = l.length) : ∀ (j : Nat) (z : Int), l[j]? = some z → w.cell? ⟨b, off + j, none⟩ = some (.int .u64 z) := fun j z hj => by
  obtain ⟨ad, c', e, _, hx⟩ := h.ex
  have h0 : l.length ≠ 0 := by have := (List.getElem?_eq_some_iff.1 hj).1; omega
  obtain ⟨b', off', e1, _, hx⟩ := hx.resolve_left h0
  injection e with e2
  rw [e1] at e2
  injection e2 with e2
  injection e2 with e3 e4
  subst e3 e4
  exact hx j z hj
theorem u64Info : (Try.prog.info? 22).map (fun i => (i.zero, i.size, i.bytes)) = some (some (.int .u64 0), 1, 8) := by kernel_rfl
theorem app_u64 {ops : Array Oper} {rest : List Oper} {o : Oper} {a : Act} {w : World} {Q : Exit → Act → World → Prop} (hgd : o.guard = none) (s x : Operand) (ho : o.op = .call { callee := .builtin .append, args := #[s, x], argTypes := #[26, 26] })
    (base : Nat) (v : Value) (xs news : List Int) (hs : a.eval s = v) (n0 : Nat) (hn0 : n0 = xs.length) (hown : w.ownsRow base 22 1 v n0 (xs.map (Value.int .u64))) (b off m c : Nat) (hm : news.length = m)
    (hx : a.eval x = .slice (some ⟨b, off, none⟩) m c) (hb : ∀ j z, news[j]? = some z → w.cell? ⟨b, off + j, none⟩ = some (.int .u64 z)) (hsm : n0 ≤ 1000) (hsm2 : m ≤ 1000) (hbase : base ≤ w.heap.size)
    (h : ∀ v' w', w'.ownsRow base 22 1 v' (n0 + m) ((xs ++ news).map (Value.int .u64)) → w.grownBy w' v.ownBlock → wpList Try.prog ops Q rest (a.put o.dst v') w') : wpList Try.prog ops Q (o :: rest) a w := by
  refine wpList_plain hgd fun K hK => ?_
  obtain ⟨i, hi, hz0, hz1, hz2⟩ := info_parts u64Info
  obtain ⟨v', w', hr, h2, h3, _, _⟩ := run_append_own_at (P := Try.prog) w base 26 o.type 22 i (.int .u64 0) 1 8 Try.underlying26 hi hz0 hz1 hz2 rfl (by decide) v n0 (xs.map (Value.int .u64)) hown ⟨b, off, none⟩ m c (news.map (Value.int .u64)) (by rw [List.length_map, hm, Nat.mul_one])
    (fun j u hj => by
      rw [List.getElem?_map, Option.map_eq_some_iff] at hj
      obtain ⟨z, hz, rfl⟩ := hj
      rw [Go.Addr.add_mid]
      exact hb j z hz) (fun u hu => by
      obtain ⟨z, _, rfl⟩ := List.mem_map.1 hu
      rfl) (by unfold maxLen; omega) (by omega) hbase
  unfold Oper.wp execOp
  simp only [ho, resolve, invoke, builtin, Sem.run_bind, Sem.run_pure, Result.andThen_ok, List.map_toArray, List.map_cons, List.map_nil, hs, hx, hr]
  exact hK _ _ (h v' w' (by rw [List.map_append]; exact h2) h3)
theorem four_cells {w : World} {b : Nat} (h : w.heap[b]? = some (.cells #[.int .u64 1, .int .u64 2, .int .u64 3, .int .u64 4] 22 (0, 0))) : ∀ (j : Nat) (z : Int), ([1, 2, 3, 4] : List Int)[j]? = some z → w.cell? ⟨b, 0 + j, none⟩ = some (.int .u64 z) := fun j z hj => by
  rw [show (#[.int .u64 1, .int .u64 2, .int .u64 3, .int .u64 4] : Array Value) = (([1, 2, 3, 4] : List Int).map (Value.int .u64)).toArray from rfl] at h
  rw [Nat.zero_add, cell_of_row w b j _ _ _ h, List.getElem?_toArray, List.getElem?_map, hj]
  rfl
theorem load_a5w {ops : Array Oper} {rest : List Oper} {o : Oper} {a : Act} {w : World} {Q : Exit → Act → World → Prop} (hw : Region.wanted o (yielded ops a.tmps) = true) (x : Operand) (ho : o.op = .load 35 x) (b : Nat) (hx : a.eval x = .pointer (some ⟨b, 0, none⟩)) (c0 c1 c2 c3 c4 : Value)
    (hb : w.heap[b]? = some (.cells #[c0, c1, c2, c3, c4] 35 (0, 0))) (h : wpList Try.prog ops Q rest (a.put o.dst (.agg #[c0, c1, c2, c3, c4])) w) : wpList Try.prog ops Q (o :: rest) a w := by
  have hr : w.rangeAt b 0 [c0, c1, c2, c3, c4] := fun j v hj => by simp only [World.cell?, hb, Nat.zero_add]; simpa using hj
  refine wpList_step fun K hK => ?_
  rw [if_pos hw]
  unfold Oper.wp execOp
  simp only [ho, hx, Instr.loadAt, Instr.sureAddr, Sem.run_bind, Sem.run_pure, Result.andThen_ok, run_loadVar_mid w b 0 35 _ _ hr a5under rfl (a5size _ _ _ _ _)]
  exact hK _ _ h
/-- The states of a region that holds a call of Do. -/
structure SD (u0 : World) (R : List Nat × Int) (D : Option Value) (u : World) : Prop where
  bel : Below u0.heap.size u0 u
  val : ∀ v, D = some v → ∃ rv, v = .tuple #[rv, .int .i64 R.2] ∧ RV u0.heap.size (R.1.map Nat.cast) rv u
theorem SD.of {u0 u u1 : World} {R : List Nat × Int} {e : Ending} (h : SD u0 R none u) (hd : DoIs u.heap.size R e u1) (hb : Below u.heap.size u u1) : ∃ v, (∃ rv, v = .tuple #[rv, .int .i64 R.2]) ∧ SD u0 R (some v) u1 ∧ e = .returned v := by
  obtain ⟨rv, he, hx⟩ := hd.ex
  refine ⟨_, ⟨rv, rfl⟩, ⟨h.bel.trans (hb.mono h.bel.size), fun v hv => ?_⟩, he⟩
  injection hv with hv
  refine ⟨rv, hv.symm, hx.imp (fun ⟨h1, h2⟩ => ⟨by rw [h1]; rfl, h2⟩) fun ⟨h1, b, h2, h3, h4⟩ => ⟨fun e => h1 (by simpa using e), b, Nat.le_trans h.bel.size h2, by rw [List.length_map]; exact h3, ?_⟩⟩
  rw [List.map_map]
  exact h4
set_option maxRecDepth 100000 in
set_option maxHeartbeats 2000000 in
theorem keeps_any (op A B : Int) (lo hi x0 x1 x2 x3 x4 : Nat) (L : Value) (w : World) (hop : -9223372036854775808 ≤ op ∧ op ≤ 9223372036854775807) (hl : ∀ n, ∀ x ∈ [x0, x1, x2, x3, x4].take n, x < 18446744073709551616) :
    Calls Try.prog 8 #[.agg #[.int .i64 op, .int .i64 A, .int .i64 B, .int .u64 (lo : Nat), .int .u64 (hi : Nat), L], .agg #[.int .u64 (x0 : Nat), .int .u64 (x1 : Nat), .int .u64 (x2 : Nat), .int .u64 (x3 : Nat), .int .u64 (x4 : Nat)]] w fun e w' => e = .returned (.bool true) ∧ Below w.heap.size w w' := by
  have HOP := Lib.hid hop
  have HL := Lib.hid hl
  clear hop hl
  go_enter Try.func8, Try.ntmps8
  go_wp2_with (first | (go_at_call 9; refine (awake_k _).mono ?_; rintro e u0 ⟨rfl, hb0⟩; have hI := blk_keep (heap_alloc2_old w (.cells #[.int .i64 op, .int .i64 A, .int .i64 B, .int .u64 (lo : Nat), .int .u64 (hi : Nat), L] 25) (.cells #[.int .u64 (x0 : Nat), .int .u64 (x1 : Nat), .int .u64 (x2 : Nat), .int .u64 (x3 : Nat), .int .u64 (x4 : Nat)] 35)) hb0; have hA := blk_keep (heap_alloc2_new w (.cells #[.int .i64 op, .int .i64 A, .int .i64 B, .int .u64 (lo : Nat), .int .u64 (hi : Nat), L] 25) (.cells #[.int .u64 (x0 : Nat), .int .u64 (x1 : Nat), .int .u64 (x2 : Nat), .int .u64 (x3 : Nat), .int .u64 (x4 : Nat)] 35)) hb0; have hZ := below_alloc2 w _ _ hb0; clear hb0))
  go_loopw [5] (fun nv wr => ∃ n : Nat, n ≤ 6 ∧ nv = .int .i64 n ∧ wr.heap[w.heap.size]? = some (.cells #[.int .i64 op, .int .i64 A, .int .i64 B, .int .u64 (lo : Nat), .int .u64 (hi : Nat), L] 25 (0, 0)) ∧ wr.heap[w.heap.size + 1]? = some (.cells #[.int .u64 (x0 : Nat), .int .u64 (x1 : Nat), .int .u64 (x2 : Nat), .int .u64 (x3 : Nat), .int .u64 (x4 : Nat)] 35 (0, 0)) ∧ Below w.heap.size w wr) (fun nv _ => 6 - (intOf nv).toNat)
  case atStart => exact ⟨0, by omega, rfl, hI, hA, hZ⟩
  case round =>
    obtain ⟨wo, hwo⟩ : ∃ x, x = wr := ⟨_, rfl⟩
    subst hwo
    clear hI hA hZ
    obtain ⟨n, hn, rfl, hI, hA, hb⟩ := hrel
    by_cases hlt : n ≤ 5
    · go_upto_region 7 with (first | ((with_reducible refine load_a5w ?_ _ rfl _ rfl _ _ _ _ _ hA ?_); (focus rfl)) | ((with_reducible refine store_newk rfl 35 _ _ rfl _ _ rfl rfl (a5size _ _ _ _ _) (five_sz _ _ _ _ _ _ _ _ _ _) (all5u _ _ _ _ _) ?_); intro u4 hb4 hO lO; have hob := hb.size; have hOB := Nat.lt_of_lt_of_le (block_lt hA) (Nat.le_refl _); replace hA := blk_keep hA hb4; replace hI := blk_keep hI hb4; replace hb := hb.trans (hb4.mono hb.size); clear hb4))
      have vL : LView .u64 u4 (.slice (some ⟨wo.heap.size, 0, none⟩) n 5) (([x0, x1, x2, x3, x4].take n).map Nat.cast) := by
        have := lv_a5 _ _ _ _ _ hO n hlt
        rw [List.map_take]
        exact this
      skip
      refine region_call (SD u4 (doV op A lo hi ([x0, x1, x2, x3, x4].take n))) (fun v => ∃ rv, v = .tuple #[rv, .int .i64 (doV op A lo hi ([x0, x1, x2, x3, x4].take n)).2]) 8 3 [0, 1, 2] [4, 5, 6, 7] (by kernel_rfl) (by kernel_rfl) rfl rfl ⟨(Below.refl _ _).drew, fun v hv => by cases hv⟩ ?_
      simp only [opsAt, List.getElem?_cons_zero, List.getElem?_cons_succ]
      repeat (first | (refine wpDA_here rfl (fun D u hS => run_lin _ rfl w.heap.size rfl _ _ _ _ _ _ (blk_keep hI hS.bel)) ?_; simp only [Act.put, List.setIfInBounds_toArray, List.set_cons_zero, List.set_cons_succ]) | (refine wpDA_pure (v := ?_) rfl (fun u => ?_) ?_; rotate_left; (focus (go_simp; (try with_reducible rfl); done)); simp only [Act.put, List.setIfInBounds_toArray, List.set_cons_zero, List.set_cons_succ]))
      refine wpDA_nil ⟨10, ?_, fun u => ?_, fun u hS => ?_, ?_⟩
      rotate_left 1
      focus (go_simp; (try with_reducible rfl); done)
      · refine (do_k op A B lo hi L _ _ u HOP.out ((vL.below hS.bel)) (HL.out n)).mono ?_
        rintro e u5 ⟨hd, hbb⟩
        exact hS.of hd hbb
      rintro _ ⟨rv1, rfl⟩
      simp only [opsAt, List.getElem?_cons_zero, List.getElem?_cons_succ]
      simp only [Act.put, List.setIfInBounds_toArray, List.set_cons_zero, List.set_cons_succ]
      repeat (first | (refine wpDA_pure (v := ?_) rfl (fun u => ?_) ?_; rotate_left; (focus (go_simp; (try with_reducible rfl); done)); simp only [Act.put, List.setIfInBounds_toArray, List.set_cons_zero, List.set_cons_succ]))
      refine wpDA_nil (fun u5 hS1 => ?_)
      obtain ⟨hb1, hv1⟩ := hS1
      obtain ⟨rx, he, hr1⟩ := hv1 _ rfl
      injection he with he
      injection he with he
      injection he with he _
      subst he
      clear hv1
      skip
      replace hI := blk_keep hI hb1
      replace hA := blk_keep hA hb1
      replace hO := blk_keep hO hb1
      replace vL := vL.below hb1
      replace hb := hb.trans (hb1.mono hb.size)
      go_upto_region 8 with fail
      refine region_call (SD u5 (doV op A lo hi ([x0, x1, x2, x3, x4].take n))) (fun v => ∃ rv, v = .tuple #[rv, .int .i64 (doV op A lo hi ([x0, x1, x2, x3, x4].take n)).2]) 8 3 [0, 1, 2] [4, 5, 6, 7] (by kernel_rfl) (by kernel_rfl) rfl rfl ⟨(Below.refl _ _).drew, fun v hv => by cases hv⟩ ?_
      simp only [opsAt, List.getElem?_cons_zero, List.getElem?_cons_succ]
      repeat (first | (refine wpDA_here rfl (fun D u hS => run_lin _ rfl w.heap.size rfl _ _ _ _ _ _ (blk_keep hI hS.bel)) ?_; simp only [Act.put, List.setIfInBounds_toArray, List.set_cons_zero, List.set_cons_succ]) | (refine wpDA_pure (v := ?_) rfl (fun u => ?_) ?_; rotate_left; (focus (go_simp; (try with_reducible rfl); done)); simp only [Act.put, List.setIfInBounds_toArray, List.set_cons_zero, List.set_cons_succ]))
      refine wpDA_nil ⟨10, ?_, fun u => ?_, fun u hS => ?_, ?_⟩
      rotate_left 1
      focus (go_simp; (try with_reducible rfl); done)
      · refine (do_k op A B lo hi L _ _ u HOP.out ((vL.below hS.bel)) (HL.out n)).mono ?_
        rintro e u5 ⟨hd, hbb⟩
        exact hS.of hd hbb
      rintro _ ⟨rv2, rfl⟩
      simp only [opsAt, List.getElem?_cons_zero, List.getElem?_cons_succ]
      simp only [Act.put, List.setIfInBounds_toArray, List.set_cons_zero, List.set_cons_succ]
      repeat (first | (refine wpDA_pure (v := ?_) rfl (fun u => ?_) ?_; rotate_left; (focus (go_simp; (try with_reducible rfl); done)); simp only [Act.put, List.setIfInBounds_toArray, List.set_cons_zero, List.set_cons_succ]))
      refine wpDA_nil (fun u6 hS2 => ?_)
      obtain ⟨hb2, hv2⟩ := hS2
      obtain ⟨rx, he, hr2⟩ := hv2 _ rfl
      injection he with he
      injection he with he
      injection he with he _
      subst he
      clear hv2
      replace hI := blk_keep hI hb2
      replace hA := blk_keep hA hb2
      replace hO := blk_keep hO hb2
      replace hb := hb.trans (hb2.mono hb.size)
      have HLT := Lib.hid hr1.lt
      replace hr1 := hr1.below hb2
      clear vL hb1
      go_upto_region 9 with fail
      have hlen := doV_len op A lo hi ([x0, x1, x2, x3, x4].take n)
      have hE5 := equal_a5 x0 x1 x2 x3 x4
      have hG5 := fun (o : BinOp) (x y : Operand) => guard_a5 o x y x0 x1 x2 x3 x4
      generalize doV op A lo hi ([x0, x1, x2, x3, x4].take n) = R at hr1 hr2 hlen ⊢
      obtain ⟨l0, E⟩ := R
      obtain ⟨l, hl0⟩ : ∃ l : List Int, l = l0.map Nat.cast := ⟨_, rfl⟩
      replace hr1 : RV u4.heap.size l rv1 u6 := hl0 ▸ hr1
      replace hr2 : RV u5.heap.size l rv2 u6 := hl0 ▸ hr2
      replace hlen : l.length ≤ 2 := by rw [hl0, List.length_map]; exact hlen
      clear hl0
      have hee : (E != E) = false := by simp
      rcases hr1 with ⟨h1, rfl⟩ | ⟨h1, b1, hB1, rfl, hc1⟩
      · subst h1
        obtain rfl : rv2 = .slice none 0 0 := by
          rcases hr2 with ⟨_, h⟩ | ⟨h, _⟩
          · exact h
          · exact absurd rfl h
        have vN : LView .u64 u6 (.slice none 0 0) [] := ⟨none, 0, rfl, Nat.le_refl _, .inl rfl⟩
        clear hr2 hlen
        go_upto_region 11 with (first | ((with_reducible refine load_a5w ?_ _ rfl _ rfl _ _ _ _ _ hO ?_); (focus rfl)) | ((with_reducible refine load_a5w ?_ _ rfl _ rfl _ _ _ _ _ hA ?_); (focus rfl)) | (go_at_call 12; refine (same_tt _ _ [] _ vN vN (by simp)).mono ?_; rintro e u7 ⟨rfl, hb7⟩; replace hI := blk_keep hI hb7; replace hA := blk_keep hA hb7; replace hO := blk_keep hO hb7; replace hb := hb.trans (hb7.mono hb.size); replace vN := vN.below hb7; clear hb7))
        go_upto_region 12 with fail
        obtain ⟨u8, hu8⟩ : ∃ u, u = u7.alloc (.cells #[] 22) := ⟨_, rfl⟩
        rw [← hu8]
        have hb8 : Below u7.heap.size u7 u8 := hu8 ▸ ((Below.refl _ _).alloc (Nat.le_refl _) _)
        replace hI := blk_keep hI hb8
        replace hA := blk_keep hA hb8
        replace hO := blk_keep hO hb8
        replace hb := hb.trans (hb8.mono hb.size)
        have vW : LView .u64 u8 (.slice (some ⟨u7.heap.size, 0, none⟩) 0 0) [] := ⟨_, 0, rfl, Nat.le_refl _, .inl rfl⟩
        replace vN := vN.below hb8
        clear hb8 hu8
        go_upto_region 13 with fail
        go_loopw [12] (fun iv wx => iv = .int .i64 0 ∧ u8 = wx) (fun _ _ => 0)
        case atStart => exact ⟨rfl, rfl⟩
        case round =>
          obtain ⟨rfl, rfl⟩ := hrel
          as_aux_lemma =>
          go_upto_region 16 with fail
          go_upto_region 17 with (first | (at_builtin; refine app_u64 rfl _ _ rfl u8.heap.size _ [] [1, 2, 3, 4] rfl 0 rfl (World.ownsRow_nil _ _ _ _) _ 0 4 4 rfl rfl (four_cells (heap_alloc_new _ _)) (by decide) (by decide) (by simp) ?_; intro v9 x9 ho9 hg9))
          skip
          have hb9 : Below u8.heap.size u8 x9 := ((Below.refl _ _).alloc (Nat.le_refl _) _).trans ((grown_below hg9 (Nat.le_refl _) (fun g e => by cases e)).mono (by simp))
          replace hI := blk_keep hI hb9
          replace hA := blk_keep hA hb9
          replace hO := blk_keep hO hb9
          replace hb := hb.trans (hb9.mono hb.size)
          replace vN := vN.below hb9
          replace vW := vW.below hb9
          obtain ⟨ad9, c9, rfl⟩ := own_shape ho9
          clear hb9 ho9 hg9
          go_wp2_with (first | ((with_reducible refine load_a5w ?_ _ rfl _ rfl _ _ _ _ _ hO ?_); (focus rfl)) | ((with_reducible refine load_a5w ?_ _ rfl _ rfl _ _ _ _ _ hA ?_); (focus rfl)) | (go_at_call 12; refine (same_tt _ _ [] _ vN vW (by simp)).mono ?_; rintro e u7 ⟨rfl, hb7⟩; replace hI := blk_keep hI hb7; replace hA := blk_keep hA hb7; replace hO := blk_keep hO hb7; replace hb := hb.trans (hb7.mono hb.size); clear hb7))
          (refine ⟨?_, by simp [intOf]; omega⟩; first | exact ⟨n + 1, by omega, by go_num, hI, hA, hb⟩ | ((repeat apply Exists.intro); exact ⟨⟨n + 1, by omega, by go_num, hI, hA, hb⟩, rfl⟩))
      · skip
        obtain ⟨b2, hB2, rfl, hc2⟩ : ∃ b, u5.heap.size ≤ b ∧ rv2 = .slice (some ⟨b, 0, none⟩) l.length l.length ∧ u6.heap[b]? = some (.cells (l.map (Value.int .u64)).toArray 22 (0, 0)) := by
          rcases hr2 with ⟨h, _⟩ | ⟨_, h⟩
          · exact absurd h h1
          · exact h
        have hlt1 : b1 < u5.heap.size := HLT.out b1 _ _ _ rfl
        have hln : 1 ≤ l.length := by
          rcases l with _ | ⟨z, l⟩
          · exact absurd rfl h1
          · simp
        have hbo : w.heap.size + 1 < wo.heap.size := hOB
        have hbo2 : wo.heap.size < b1 := Nat.lt_of_lt_of_le lO hB1
        have vA : LView .u64 u6 (.slice (some ⟨b1, 0, none⟩) l.length l.length) l := lv_lit l hc1
        have vN : LView .u64 u6 (.slice (some ⟨b2, 0, none⟩) l.length l.length) l := lv_lit l hc2
        have hne2 : b2 ≠ b1 := by omega
        clear hr2 hc2 h1 HLT
        obtain ⟨m, hm⟩ : ∃ m, m = l.length := ⟨_, rfl⟩
        have HM := Lib.hid hm
        rw [← hm] at hlen hln vA vN ⊢
        clear hm
        go_upto_region 11 with (first | ((with_reducible refine load_a5w ?_ _ rfl _ rfl _ _ _ _ _ hO ?_); (focus rfl)) | ((with_reducible refine load_a5w ?_ _ rfl _ rfl _ _ _ _ _ hA ?_); (focus rfl)) | (go_at_call 12; refine (same_tt _ _ l _ vA vN (by have := HM.out; omega)).mono ?_; rintro e u7 ⟨rfl, hb7⟩; replace hI := blk_keep hI hb7; replace hA := blk_keep hA hb7; replace hO := blk_keep hO hb7; replace hc1 := blk_keep hc1 hb7; replace hb := hb.trans (hb7.mono hb.size); replace vN := vN.below hb7; have hs7 := hb7.size; clear hb7 vA))
        go_upto_region 12 with (first | (at_builtin; refine app_u64 rfl _ _ rfl u7.heap.size _ [] l rfl 0 rfl (own_empty (Nat.le_refl _) (heap_alloc_new _ _)) b2 0 m m HM.out.symm rfl (lv_cells (vN.below ((Below.refl _ _).alloc (Nat.le_refl _) _)) HM.out) (by decide) (by omega) (by simp) ?_; intro v10 x10 ho10 hg10))
        skip
        have hb10 : Below u7.heap.size u7 x10 := ((Below.refl _ _).alloc (Nat.le_refl _) _).trans (grown_below hg10 (by simp) (fun g e => by injection e with e; have e' : u7.heap.size = g := e; omega))
        have vW : LView .u64 x10 v10 l := LView.of_ownu (l := [] ++ l) ho10
        have HGE := Lib.hid (own_ge ho10)
        have hb7b : b1 < u7.heap.size := block_lt hc1
        replace hI := blk_keep hI hb10
        replace hA := blk_keep hA hb10
        replace hO := blk_keep hO hb10
        replace hc1 := blk_keep hc1 hb10
        replace vN := vN.below hb10
        replace hb := hb.trans (hb10.mono hb.size)
        clear hb10 ho10 hg10
        go_upto_region 13 with fail
        go_loopw [12] (fun iv wx => ∃ (i : Nat) (l2 : List Int), i ≤ m ∧ iv = .int .i64 i ∧ l2.length = m ∧ wx.heap[b1]? = some (.cells (l2.map (Value.int .u64)).toArray 22 (0, 0)) ∧ wx.heap[w.heap.size]? = some (.cells #[.int .i64 op, .int .i64 A, .int .i64 B, .int .u64 (lo : Nat), .int .u64 (hi : Nat), L] 25 (0, 0)) ∧ wx.heap[w.heap.size + 1]? = some (.cells #[.int .u64 (x0 : Nat), .int .u64 (x1 : Nat), .int .u64 (x2 : Nat), .int .u64 (x3 : Nat), .int .u64 (x4 : Nat)] 35 (0, 0)) ∧
          wx.heap[wo.heap.size]? = some (.cells #[.int .u64 (x0 : Nat), .int .u64 (x1 : Nat), .int .u64 (x2 : Nat), .int .u64 (x3 : Nat), .int .u64 (x4 : Nat)] 35 (0, 0)) ∧ LView .u64 wx (.slice (some ⟨b2, 0, none⟩) m m) l ∧ LView .u64 wx v10 l ∧ Below w.heap.size w wx) (fun iv _ => m - (intOf iv).toNat)
        case atStart => exact ⟨0, l, Nat.zero_le _, rfl, HM.out.symm, hc1, hI, hA, hO, vN, vW, hb⟩
        case round =>
          obtain ⟨wy, hwy⟩ : ∃ x, x = wr := ⟨_, rfl⟩
          subst hwy
          clear hc1 hI hA hO vN vW hb hs7
          obtain ⟨i, l2, hil, rfl, hl2, hc1, hI, hA, hO, vN, vW, hb⟩ := hrel
          by_cases hlt2 : i < m
          · obtain ⟨z, hz⟩ : ∃ z, l2[i]? = some z := ⟨_, List.getElem?_eq_getElem (by omega)⟩
            have hce : wy.cell? ⟨b1, 0 + i, none⟩ = some (.int .u64 z) := by
              rw [Nat.zero_add, cell_of_row wy b1 i _ _ _ hc1, List.getElem?_toArray, List.getElem?_map, hz]
              rfl
            have hsz : 0 + i < (l2.map (Value.int .u64)).toArray.size := by simp; omega
            clear hz
            as_aux_lemma =>
            go_wp2_with (first | ((with_reducible refine ix1_w ?_ 26 size_su under_su _ _ rfl b1 0 _ _ rfl _ rfl i rfl hlt2 ?_); (focus rfl)) | ((with_reducible refine ld1_w ?_ 22 isAgg_u64 _ rfl _ rfl _ hce ?_); (focus rfl)) | (refine store_fld rfl 22 size_u64 _ _ rfl b1 (0 + i) rfl (.int .u64 _) rfl rfl rfl _ _ hc1 hsz ?_; intro y1 gy sy hc2))
            skip
            refine ⟨?_, by simp [intOf]; omega⟩
            have hend : ∃ (i' : Nat) (l2' : List Int), i' ≤ m ∧ Value.int .i64 (i + 1) = .int .i64 i' ∧ l2'.length = m ∧ y1.heap[b1]? = some (.cells (l2'.map (Value.int .u64)).toArray 22 (0, 0)) ∧ y1.heap[w.heap.size]? = some (.cells #[.int .i64 op, .int .i64 A, .int .i64 B, .int .u64 (lo : Nat), .int .u64 (hi : Nat), L] 25 (0, 0)) ∧ y1.heap[w.heap.size + 1]? = some (.cells #[.int .u64 (x0 : Nat), .int .u64 (x1 : Nat), .int .u64 (x2 : Nat), .int .u64 (x3 : Nat), .int .u64 (x4 : Nat)] 35 (0, 0)) ∧
                y1.heap[wo.heap.size]? = some (.cells #[.int .u64 (x0 : Nat), .int .u64 (x1 : Nat), .int .u64 (x2 : Nat), .int .u64 (x3 : Nat), .int .u64 (x4 : Nat)] 35 (0, 0)) ∧ LView .u64 y1 (.slice (some ⟨b2, 0, none⟩) m m) l ∧ LView .u64 y1 v10 l ∧ Below w.heap.size w y1 :=
              ⟨i + 1, _, by omega, by go_num, by rw [List.length_set]; exact hl2, set_row hc2, (gy.block _ (block_lt hI) (fun e => by injection e with e; omega)).trans hI, (gy.block _ (block_lt hA) (fun e => by injection e with e; omega)).trans hA,
                (gy.block _ (block_lt hO) (fun e => by injection e with e; omega)).trans hO, vN.grown gy (fun b e h => by injection e with e; injection h with h; have e' : b2 = b := e; omega), vW.grown gy (fun b e h => by injection h with h; have := HGE.out b e; omega), hb.trans (grown_below gy hb.size (fun g e => by injection e with e; omega))⟩
            first | exact hend | ((repeat apply Exists.intro); exact ⟨hend, rfl⟩)
          · obtain rfl : i = m := by omega
            as_aux_lemma =>
            go_upto_region 16 with fail
            go_upto_region 17 with (first | (at_builtin; refine app_u64 rfl _ _ rfl b1 _ l2 [1, 2, 3, 4] rfl i hl2.symm (own_rowm hl2 (Nat.le_refl _) (blk_alloc hc1 _) (by omega)) _ 0 4 4 rfl rfl (four_cells (heap_alloc_new _ _)) (by omega) (by decide) (by have := block_lt hc1; simp; omega) ?_; intro v12 x12 ho12 hg12))
            skip
            have hk : ∀ k, k < wy.heap.size → k ≠ b1 → x12.heap[k]? = wy.heap[k]? := fun k h1 h2 => (hg12.block k (by simp; omega) (fun e => by injection e with e; have e' : k = b1 := e; omega)).trans (heap_alloc_old _ _ h1)
            have hb12 : Below w.heap.size w x12 := hb.trans (((Below.refl _ _).alloc hb.size _).trans (grown_below hg12 (by have := hb.size; simp; omega) (fun g e => by injection e with e; have e' : b1 = g := e; omega)))
            replace hI := (hk _ (block_lt hI) (by omega)).trans hI
            replace hA := (hk _ (block_lt hA) (by omega)).trans hA
            replace hO := (hk _ (block_lt hO) (by omega)).trans hO
            replace vN := (vN.below ((Below.refl _ _).alloc (Nat.le_refl _) (.cells #[.int .u64 1, .int .u64 2, .int .u64 3, .int .u64 4] 22))).grown hg12 (fun b e h => by injection e with e; injection h with h; have e' : b2 = b := e; have h' : b1 = b := h; omega)
            replace vW := (vW.below ((Below.refl _ _).alloc (Nat.le_refl _) (.cells #[.int .u64 1, .int .u64 2, .int .u64 3, .int .u64 4] 22))).grown hg12 (fun b e h => by injection h with h; have h' : b1 = b := h; have := HGE.out b e; omega)
            replace hb := hb12
            obtain ⟨ad12, c12, rfl⟩ := own_shape ho12
            clear hb12 hk ho12 hg12
            go_wp2_with (first | ((with_reducible refine load_a5w ?_ _ rfl _ rfl _ _ _ _ _ hO ?_); (focus rfl)) | ((with_reducible refine load_a5w ?_ _ rfl _ rfl _ _ _ _ _ hA ?_); (focus rfl)) | (go_at_call 12; refine (same_tt _ _ l _ vN vW (by have := HM.out; omega)).mono ?_; rintro e u7 ⟨rfl, hb7⟩; replace hI := blk_keep hI hb7; replace hA := blk_keep hA hb7; replace hO := blk_keep hO hb7; replace hb := hb.trans (hb7.mono hb.size); clear hb7))
            (refine ⟨?_, by simp [intOf]; omega⟩; first | exact ⟨n + 1, by omega, by go_num, hI, hA, hb⟩ | ((repeat apply Exists.intro); exact ⟨⟨n + 1, by omega, by go_num, hI, hA, hb⟩, rfl⟩))
    · obtain rfl : n = 6 := by omega
      go_wp2_with fail
      go_ret
      exact ⟨rfl, hb⟩
end Go.Proofs.Ytcpfabkokgiepaa
