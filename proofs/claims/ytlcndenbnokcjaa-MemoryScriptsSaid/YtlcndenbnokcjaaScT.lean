/-
  plaitlaw10.right: kind 5.
-/
import Derived.Test.YtlcndenbnokcjaaScB
import Derived.Maps.AppendAt
import Derived.Laws.OwnMore
import Derived.Laws.Concat
set_option linter.unusedSimpArgs false
set_option linter.unusedVariables false
namespace Go.Proofs.Ytlcndenbnokcjaa
open Go.RowKit Pl

theorem byteRow_join (n m : Nat) (β ν : Nat → Nat) : byteRow n β ++ byteRow m ν = byteRow (n + m) (joinB n β ν) := by
  apply List.ext_getElem?
  intro i
  unfold joinB
  by_cases h : i < n
  · rw [List.getElem?_append_left (by rw [length_byteRow]; exact h), get_byteRow n β i h, get_byteRow (n + m) _ i (by omega), if_pos h]
  · by_cases h2 : i < n + m
    · rw [List.getElem?_append_right (by rw [length_byteRow]; omega), get_byteRow (n + m) _ i h2, if_neg h, length_byteRow]
      exact get_byteRow m _ _ (by omega)
    · rw [List.getElem?_eq_none (by simp [length_byteRow]; omega), List.getElem?_eq_none (by rw [length_byteRow]; omega)]
theorem info_u8 : (Try.prog.info? 5).map (fun i => (i.zero, i.size, i.bytes)) = some (some (.int .u8 0), 1, 1) := by kernel_rfl
theorem app_own (w : World) (base : Nat) (v : Value) (n : Nat) (β : Nat → Nat) (ty : TypeId) (hown : w.ownsRow base 5 1 v n (byteRow n β)) (ad : Option Addr) (c m : Nat) (ν : Nat → Nat) (hv : BView w (.slice ad m c) m ν) (hnil : ad = none → c = 0) (hn : n + m ≤ 140737488355328) (hbase : base ≤ w.heap.size) :
    ∃ v' w', (Builtin.append_ #[48, 48] ty #[v, .slice ad m c]).run Try.prog w = .ok v' w' ∧ w'.ownsRow base 5 1 v' (n + m) (byteRow (n + m) (joinB n β ν)) ∧ w.grownBy w' v.ownBlock := by
  obtain ⟨i, hi, hz0, hz1, hz2⟩ : ∃ i, Try.prog.info? 5 = some i ∧ i.zero = some (.int .u8 0) ∧ i.size = 1 ∧ i.bytes = 1 := info_byte
  obtain ⟨ad', c', e, hx⟩ := hv.ex
  injection e with e1 e2 e3
  subst e1 e3
  have go : ∀ a : Addr, (∀ j u, (byteRow m ν)[j]? = some u → w.cell? (a.add j) = some u) → ∃ v' w', (Builtin.append_ #[48, 48] ty #[v, .slice (some a) m c]).run Try.prog w = .ok v' w' ∧ w'.ownsRow base 5 1 v' (n + m) (byteRow (n + m) (joinB n β ν)) ∧ w.grownBy w' v.ownBlock := fun a ha => by
    obtain ⟨v', w', hr, h2, h3, _, _⟩ := run_append_own_at (P := Try.prog) w base 48 ty 5 i (.int .u8 0) 1 1 under_bytes hi hz0 hz1 hz2 rfl (by decide) v n (byteRow n β) hown a m c (byteRow m ν) (by rw [length_byteRow, Nat.mul_one]) ha (one_byteRow _ _) (by unfold maxLen; omega) (by omega) hbase
    rw [byteRow_join] at h2
    exact ⟨v', w', hr, h2, h3⟩
  cases ad with
  | none =>
    have h0 : m = 0 := by
      rcases hx with h0 | ⟨b, off, e, _⟩
      · exact h0
      · cases e
    subst h0
    rw [hnil rfl]
    have hr := run_append_owned_none (P := Try.prog) w base 48 ty 5 i 1 under_bytes hi v n (byteRow n β) hown
    refine ⟨v, w, hr, ?_, ⟨rfl, rfl, rfl, Nat.le_refl _, fun _ _ _ => rfl⟩⟩
    rw [← byteRow_join]
    rw [show byteRow 0 ν = [] from rfl, List.append_nil]
    exact hown
  | some a =>
    rcases hx with h0 | ⟨b, off, e, hc⟩
    · subst h0
      exact go a (fun j u hj => by rw [show byteRow 0 ν = [] from rfl] at hj; cases hj)
    · cases e
      exact go _ (BView.cells hc)
theorem own_bytes {w : World} {base : Nat} {v : Value} {n : Nat} {β : Nat → Nat} (h : w.ownsRow base 5 1 v n (byteRow n β)) (hn : 0 < n) (hlt : ∀ i, i < n → β i < 256) : ∃ g cap, v = .slice (some ⟨g, 0, none⟩) n cap ∧ base ≤ g ∧ BytesAt w g n cap β ∧ cap ≤ maxLen := by
  rcases h.2 with ⟨_, e⟩ | ⟨g, cap, cur, rfl, hbg, hg, hnc, hcm, hcs, htk⟩
  · omega
  · refine ⟨g, cap, rfl, hbg, ⟨⟨cur, hg, by omega, fun i hi => ?_⟩, hlt, hnc⟩, hcm⟩
    have := get_byteRow n β i hi
    rw [← htk, List.getElem?_take, if_pos (by omega)] at this
    simpa using this
theorem own_new {w : World} : (w.alloc (.cells #[] 5)).ownsRow w.heap.size 5 1 (.slice (some ⟨w.heap.size, 0, none⟩) 0 0) 0 (byteRow 0 (fun _ => 0)) :=
  ⟨rfl, .inr ⟨w.heap.size, 0, #[], rfl, Nat.le_refl _, heap_alloc_new _ _, Nat.le_refl _, by decide, rfl, rfl⟩⟩
theorem two_view (w : World) : BView (w.alloc (.cells #[.int .u8 1, .int .u8 2] 5)) (.slice (some ⟨w.heap.size, 0, none⟩) 2 2) 2 (fun i => i + 1) :=
  ⟨⟨_, _, rfl, .inr ⟨_, _, rfl, fun j hj => by
    rw [cell_of_row _ w.heap.size (0 + j) _ _ _ (heap_alloc_new _ _), Nat.zero_add]
    rcases j with _ | _ | j
    · rfl
    · rfl
    · omega⟩⟩, fun j hj => by omega⟩
theorem strB_two (m : Nat) (ν : Nat → Nat) : strB (m + 2) (joinB m ν (fun i => i + 1)) = strB m ν ++ ⟨#[1, 2]⟩ := by
  have e : (List.range (m + 2)).map (fun i => ((joinB m ν (fun i => i + 1) i : Nat) : Int)) = (List.range m).map (fun i => ((ν i : Nat) : Int)) ++ [1, 2] := by
    rw [show m + 2 = (m + 1) + 1 by omega, List.range_succ, List.range_succ]
    simp only [List.map_append, List.map_cons, List.map_nil, List.append_assoc, List.cons_append, List.nil_append]
    congr 1
    · refine List.map_congr_left fun i hi => ?_
      have : i < m := by simpa using hi
      unfold joinB
      rw [if_pos this]
    · unfold joinB
      rw [if_neg (by omega), if_neg (by omega), Nat.sub_self, Nat.add_sub_cancel_left]
      rfl
  unfold strB strOfNums
  rw [e]
  apply ByteArray.ext
  simp
theorem strB_size (m : Nat) (ν : Nat → Nat) : (strB m ν).size = m := by unfold strB; rw [strOfNums_size]; simp
/-- What 'append(append([]byte{}, data...), 1, 2)' makes. -/
theorem app_two (W : World) (ty : TypeId) (ad : Option Addr) (c m : Nat) (ν : Nat → Nat) (hv : BView W (.slice ad m c) m ν) (hnil : ad = none → c = 0) (hm : m ≤ 140737488351232) :
    ∃ v1 w1 g cap w2, (Builtin.append_ #[48, 48] ty #[.slice (some ⟨W.heap.size, 0, none⟩) 0 0, .slice ad m c]).run Try.prog (W.alloc (.cells #[] 5)) = .ok v1 w1 ∧
      (Builtin.append_ #[48, 48] ty #[v1, .slice (some ⟨w1.heap.size, 0, none⟩) 2 2]).run Try.prog (w1.alloc (.cells #[.int .u8 1, .int .u8 2] 5)) = .ok (.slice (some ⟨g, 0, none⟩) (m + 2) cap) w2 ∧
      W.heap.size ≤ g ∧ BytesAt w2 g (m + 2) cap (joinB m ν (fun i => i + 1)) ∧ Below W.heap.size W w2 := by
  have hb1 : Below W.heap.size W (W.alloc (.cells #[] 5)) := (Below.refl _ _).alloc (Nat.le_refl _) _
  obtain ⟨v1, w1, hr1, h1, g1⟩ := app_own (W.alloc (.cells #[] 5)) W.heap.size _ 0 _ ty own_new ad c m ν (hv.below hb1) hnil (by omega) hb1.size
  have hb2 : Below W.heap.size W w1 := hb1.grown g1 hb1.size (fun k hk => by
    have : W.heap.size = k := by simpa [Value.ownBlock] using hk
    omega)
  have e0 : byteRow (0 + m) (joinB 0 (fun _ => 0) ν) = byteRow m ν := by
    rw [← byteRow_join]; rfl
  rw [e0, Nat.zero_add] at h1
  have hb3 : Below W.heap.size W (w1.alloc (.cells #[.int .u8 1, .int .u8 2] 5)) := hb2.alloc hb2.size _
  have h1a := h1.alloc (.cells #[.int .u8 1, .int .u8 2] 5)
  obtain ⟨v2, w2, hr2, h2, g2⟩ := app_own (w1.alloc (.cells #[.int .u8 1, .int .u8 2] 5)) W.heap.size v1 m ν ty h1a _ 2 2 _ (two_view w1) (fun e => by cases e) (by omega) hb3.size
  obtain ⟨g, cap, rfl, hg, hB, hcm⟩ := own_bytes h2 (by omega) (fun i hi => by
    unfold joinB
    split
    · rename_i h; exact hv.lt i h
    · show i - m + 1 < 256; omega)
  refine ⟨v1, w1, g, cap, w2, hr1, hr2, hg, hB, hb3.grown g2 hb3.size (fun k hk => ?_)⟩
  rcases h1.2 with ⟨rfl, _⟩ | ⟨g', cap', cur, rfl, hbg, _⟩
  · simp [Value.ownBlock] at hk
  · have : g' = k := by simpa [Value.ownBlock] using hk
    omega

theorem RS.first {W u : World} {bx : Nat} {y : OpR} {a b : Option MObj} {R R' : Option MObj → Prop} (h : RS W bx y a b R R' 0 u) {g n cap c m : Nat} {β ν : Nat → Nat} (hB : BytesAt W g n cap (joinB m β ν)) (hm : m ≤ n) : BView u (.slice (some ⟨g, 0, none⟩) m c) m β := by
  have hu : BytesAt u g n cap (joinB m β ν) := hB.keep (S := fun _ => False) (Keep.of_below (h.s0 rfl)) (fun h => h)
  have hv : BView u (.slice (some ⟨g, 0, none⟩) m c) m (fun j => joinB m β ν (0 + j)) := BView.piece hu 0 m c (by omega)
  exact hv.congr fun j hj => by rw [Nat.zero_add]; unfold joinB; rw [if_pos hj]
theorem One.keepB {u u1 : World} {o o1 : Option MObj} (h : One u u1 o o1) {g n cap : Nat} {β : Nat → Nat} (hB : BytesAt u g n cap β) (hg : ¬ hasO o g) : BytesAt u1 g n cap β := hB.keep h.keep hg
theorem BView.one {u u1 : World} {o o1 : Option MObj} (h : One u u1 o o1) {ad : Option Addr} {m c : Nat} {ν : Nat → Nat} (hv : BView u (.slice ad m c) m ν) (hoff : 0 < m → ∀ g, ad = some g → ¬ hasO o g.block) : BView u1 (.slice ad m c) m ν := by
  by_cases h0 : m = 0
  · subst h0
    exact ⟨⟨ad, c, rfl, .inl rfl⟩, hv.lt⟩
  · exact hv.keep h.keep (fun ad' n' c' e => by injection e with e1 e2 e3; subst e1; exact fun hh => hoff (by omega) _ rfl hh)
set_option maxRecDepth 100000 in
set_option maxHeartbeats 4000000 in
theorem right_5 (a b : Option MObj) (y : OpR) (w : World) (h : Pr w a b) (ok : y.Ok) (hk : y.kind = 5) (hd : BView w (.slice y.ad y.dm y.dc) y.dm y.ν) (hoffa0 : 0 < y.dm → ∀ g, y.ad = some g → ¬ hasO a g.block) (hoff : 0 < y.dm → ∀ g, y.ad = some g → ¬ hasO b g.block) (hnil : y.ad = none → y.dc = 0) :
    Calls Try.prog 23 #[ptrO a, ptrO b, .agg y.row] w fun e w' => e = .returned (.bool true) ∧ ∃ a1 b1, Turned w w' a b a1 b1 := by
  obtain ⟨W, hW⟩ : ∃ W, W = w.alloc (.cells y.row 50) := ⟨_, rfl⟩
  have bx : Bx W w.heap.size y := hW ▸ Bx.new w y
  have hbw : Below w.heap.size w W := hW ▸ (Below.refl _ _).alloc (Nat.le_refl _) _
  have hp := h.below hbw
  obtain ⟨na, nb⟩ := h.off (Nat.le_refl w.heap.size)
  have hdm : y.dm ≤ 140737488351232 := Nat.le_trans ok.dmc ok.dcm
  have hdW := hd.below hbw
  obtain ⟨v1, w1, g, cap, w2, hr1, hr2, hg, hB, hb2⟩ := app_two W 48 y.ad y.dc y.dm y.ν hdW hnil hdm
  obtain ⟨V, a1, b1, hl, CA, CB⟩ := poke_pair a b h.like y.at_ y.dm y.ν ok.at_ (by omega)
  have CA := Lib.hid CA
  have CB := Lib.hid CB
  go_enter Try.func23, Try.ntmps23
  go_upto_region 1 with fail
  rw [← hW]
  have c0 := bx.c0
  rw [hk] at c0
  have c7 := (bx.below ((Below.refl _ _).alloc (Nat.le_refl _) (.cells #[] 5))).c7
  have HW := Lib.hid hW
  clear hW
  go_wp2_with (at_builtin; (first | (refine wpList_app rfl _ _ _ _ rfl _ _ rfl rfl _ _ hr1 ?_) | (refine wpList_app rfl _ _ _ _ rfl _ _ rfl rfl _ _ hr2 ?_)))
  have bx2 := bx.below hb2
  have hp2 := hp.below hb2
  have hd2 := hdW.below hb2
  have hgl : g < w2.heap.size := hB.block
  have hW2 := hb2.size
  have hle := hB.le
  have hcap : (y.dm : Int) ≤ cap := by omega
  have dmc := ok.dmc
  have hz7 : (y.dm : Int) ≤ 140737488351232 := by omega
  clear c0 c7 hr1 hr2
  obtain ⟨na, nb⟩ := h.off (Nat.le_refl w.heap.size)
  obtain ⟨ga, gb⟩ := h.off (k := g) (Nat.le_trans hbw.size hg)
  refine region_plan (RS w2 w.heap.size y a b (fun x => x = a1) (fun x => x = b1)) (stepR 8 100) (fun _ _ => .int .i64 V) 0 9 [8] [] [([0, 1, 2, 3, 4, 5, 6, 7], 8)] (by kernel_rfl) (by kernel_rfl) (RS.start bx2) ?_
  simp only [planE, opsAt, List.getElem?_cons_zero, List.getElem?_cons_succ, List.drop_succ_cons, List.drop_zero]
  repeat (first | (with_reducible refine wpDA_here rfl (fun D u hS => run_ldc _ isAgg_u64 _ rfl w.heap.size 3 rfl (.int .u64 y.at_) hS.row.c3) ?_; simp only [Act.put, List.setIfInBounds_toArray, List.set_cons_zero, List.set_cons_succ]) | (with_reducible refine wpDA_here rfl (fun D u hS => run_ldc _ isAgg_bytes _ rfl w.heap.size 7 rfl (.slice y.ad y.dm y.dc) hS.row.c7) ?_; simp only [Act.put, List.setIfInBounds_toArray, List.set_cons_zero, List.set_cons_succ]) | (refine wpDA_pure (v := ?_) rfl (fun u => ?_) ?_; rotate_left; (focus (go_simp; (try with_reducible rfl); done)); simp only [Act.put, List.setIfInBounds_toArray, List.set_cons_zero, List.set_cons_succ]))
  refine wpDA_nil ⟨_, rfl, ⟨rfl, fun u hS => ⟨u, .inr ⟨25, ?_, ?_, ?_⟩⟩⟩, ?_⟩
  rotate_left 1
  focus (go_simp; (try with_reducible rfl); done)
  · refine (CA.out u _ (hS.ma hp2) (hS.first hB (by omega))).mono ?_
    rintro e u2 ⟨rfl, g1⟩
    exact ⟨1, .inl ⟨rfl, rfl, rfl⟩, hS.one na g1 rfl, rfl⟩
  intro D' hst
  obtain rfl : D' = 1 := by rcases hst with ⟨_, _, e⟩ | ⟨e, _⟩; exact e; exact absurd e (by decide)
  clear hst
  simp only [Act.put, List.setIfInBounds_toArray, List.set_cons_zero, List.set_cons_succ]
  (try simp only [planE, opsAt, List.getElem?_cons_zero, List.getElem?_cons_succ, List.drop_succ_cons, List.drop_zero])
  repeat (refine wpDA_pure (v := ?_) rfl (fun u => ?_) ?_; rotate_left; (focus (go_simp; (try with_reducible rfl); done)); simp only [Act.put, List.setIfInBounds_toArray, List.set_cons_zero, List.set_cons_succ])
  refine wpDA_nil (fun u hS => ?_)
  obtain ⟨a2, one1, ea⟩ := hS.s1 rfl
  subst ea
  have bx3 := hS.row
  have hB3 := one1.keepB hB ga
  have hoffa : 0 < y.dm → ∀ g, y.ad = some g → ¬ hasO a g.block := fun h0 g0 e hh => hoffa0 h0 g0 e hh
  have hd3 := BView.one one1 hd2 hoffa
  have hb3 : MemO u b := hp2.hb.keep one1.keep (fun k hk => hp2.apart k hk)
  have c3 := bx3.c3
  have c7 := bx3.c7
  clear hS
  go_wp2_with fail
  refine (CB.out u _ _ hb3 hd3 dmc hoff).mono ?_
  rintro e u3 ⟨rfl, one2⟩
  have tt := hp2.turn one1 one2 hl
  have hB4 := one2.keepB hB3 gb
  have hd4 := BView.one one2 hd3 hoff
  obtain ⟨S, hS⟩ : ∃ S, S = strB y.dm y.ν := ⟨_, rfl⟩
  have hsz : S.size = y.dm := hS ▸ strB_size _ _
  have f1 : (convert 48 9 (.slice (some ⟨g, 0, none⟩) (y.dm + 2) cap)).run Try.prog u3 = .ok (.string (S ++ ⟨#[1, 2]⟩)) u3 := by
    have h1 : BView u3 (.slice (some ⟨g, 0, none⟩) (y.dm + 2) cap) (y.dm + 2) _ := BView.row (q := some g) hB4
    rw [hS, ← strB_two]
    exact conv_bytes h1
  have f2 : (convert 48 9 (.slice y.ad y.dm y.dc)).run Try.prog u3 = .ok (.string S) u3 := by rw [hS]; exact conv_bytes hd4
  have f3 : (Op.stringOp .add S ⟨#[1, 2]⟩).run Try.prog u3 = .ok (.string (S ++ ⟨#[1, 2]⟩)) u3 := run_string_add_sum u3 _ _ (by rw [hsz]; show y.dm + 2 ≤ _; omega)
  have bx4 := bx3.keep one2.keep nb
  clear c3 c7 hS hsz bx3 hB3 hd3 hb3 CA CB
  have c7 := bx4.c7
  have hT := tt.pre (Below.trans hbw (hb2.mono hbw.size))
  have gn : w.heap.size ≤ g := Nat.le_trans hbw.size hg
  have na1 : ¬ hasO a2 g := fun hh => (tt.newa g hh).elim ga (by omega)
  have nb1 : ¬ hasO b1 g := fun hh => (tt.newb g hh).elim gb (by omega)
  generalize joinB y.dm y.ν (fun i => i + 1) = μ at hB4
  go_wp2_with fail
  clear f1 f2 f3 c7
  go_loopw [21] (fun iv wr => ∃ (j : Nat) (γ : Nat → Nat), j ≤ y.dm + 2 ∧ iv = .int .i64 (j : Int) ∧ BytesAt wr g (y.dm + 2) cap γ ∧ Keep (fun k => k = g) u3 wr) (fun iv _ => y.dm + 2 - (intOf iv).toNat)
  case atStart => exact ⟨0, _, Nat.zero_le _, rfl, hB4, Keep.refl _ _⟩
  case round =>
    clear hB4
    obtain ⟨j, γ, hj, rfl, hB5, hk5⟩ := hrel
    by_cases hlt : j < y.dm + 2
    · have hcell := hB5.cell hlt
      have hfz := hB5.frozen j
      have hset := hB5.set hlt (x := 238) (by decide)
      have hk6 := Keep.setCell (S := fun k => k = g) (p := ⟨g, j, none⟩) hk5 (.inl rfl) (.int .u8 (238 : Nat))
      have HS := Lib.hid hset
      have HB := Lib.hid hk6
      clear hset hk6 hB5 hk5
      have e7 : (j : Int) < (y.dm : Int) + 2 := by omega
      generalize γ j = gj at hcell
      go_wp2_with fail
      refine ⟨?_, ?_⟩
      · exact ⟨j + 1, _, by omega, by go_num, HS.out, HB.out⟩
      · simp [intOf] <;> omega
    · obtain rfl : j = y.dm + 2 := by omega
      go_wp2_with fail
      go_ret
      exact ⟨rfl, a2, b1, hT.own hk5 (fun k hk => by subst hk; exact ⟨gn, na1, nb1⟩)⟩

end Go.Proofs.Ytlcndenbnokcjaa
