/-
  Texts VcRo.
-/
import Derived.Test.YtmfmokblmipagaaGreatR02
import Derived.Test.YtmfmokblmipagaaGreatR36
import Derived.Deep.Cut
set_option linter.unusedSimpArgs false
set_option linter.unusedVariables false
set_option maxHeartbeats 8000000
open Pl
namespace Go.Proofs.YtmfmokblmipagaaGreat
open Go.RowKit Pl
theorem size_ss : ∀ u, (sizeOf (Tryz.prog.elem 106)).run Tryz.prog u = .ok 1 u := fun u => by kernel_rfl
theorem under_ss : Tryz.prog.underlying 106 = some (.slice (Tryz.prog.elem 106)) := by kernel_rfl
theorem size_bool : (Tryz.prog.info? 4).map (·.size) = some 1 := by kernel_rfl
theorem num_c16 (l : List UInt8) (z : Int) (w : World) (hl : l.length ≤ 6) (hz : (numOf 16 l : Int) = z) : Calls Tryz.prog 47 #[sV l, .int .i64 16] w fun e w' => e = .returned (.int .i64 z) ∧ Below w.heap.size w w' := by
 subst hz; exact number_s l 16 w (by decide) hl
theorem num_c10 (l : List UInt8) (z : Int) (w : World) (hl : l.length ≤ 6) (hz : (numOf 10 l : Int) = z) : Calls Tryz.prog 47 #[sV l, .int .i64 10] w fun e w' => e = .returned (.int .i64 z) ∧ Below w.heap.size w w' := by
 subst hz; exact number_s l 10 w (by decide) hl
theorem words_c (s w0 w1 w2 w3 w4 : List UInt8) (w : World) (hl : s.length ≤ 100) (hw : wordsOf s = [w0, w1, w2, w3, w4]) : Calls Tryz.prog 46 #[sV s] w fun e w' => (∃ wb wc, e = .returned (.slice (some ⟨wb, 0, none⟩) 5 wc) ∧ wb < w'.heap.size ∧ w'.cell? ⟨wb, 0 + 0, none⟩ = some (sV w0) ∧ w'.cell? ⟨wb, 0 + 1, none⟩ = some (sV w1) ∧ w'.cell? ⟨wb, 0 + 2, none⟩ = some (sV w2) ∧ w'.cell? ⟨wb, 0 + 3, none⟩ = some (sV w3) ∧ w'.cell? ⟨wb, 0 + 4, none⟩ = some (sV w4)) ∧ Below w.heap.size w w' :=
 (words_s s w hl).mono fun e w' ⟨v, he, hv, hb⟩ => by
  rw [hw] at hv
  rcases hv.2 with ⟨_, h0⟩ | ⟨g, cap, cur, rfl, _, hg, hn, _, hs, ht⟩
  ·cases h0
  ·have hc : ∀ j x, ([w0, w1, w2, w3, w4].map sV)[j]? = some x → w'.cell? ⟨g, 0 + j, none⟩ = some x := fun j x hx => by
    have hlt := (List.getElem?_eq_some_iff.1 hx).1
    rw [Nat.zero_add, cell_of_row w' g j _ _ _ hg]
    rw [← ht, List.getElem?_take] at hx
    split at hx
    ·simpa using hx
    ·cases hx
   exact ⟨⟨g, cap, he, block_lt hg, hc 0 _ rfl, hc 1 _ rfl, hc 2 _ rfl, hc 3 _ rfl, hc 4 _ rfl⟩, hb⟩
theorem run_ixs {o : Oper} {a : Act} {w : World} (x i : Operand) (ho : o.op = .indexAddr 106 x i) (b off n c : Nat) (hx : a.eval x = .slice (some ⟨b, off, none⟩) n c) (z : Int) (hi : a.eval i = .int .i64 z) (k : Nat) (hz : z = k) (hk : k < n) :
 (execOp a.eval o).run Tryz.prog w = .ok (.value (.pointer (some ⟨b, off + k, none⟩))) w := by
 have h2 : (0 ≤ z ∧ z < (n : Int)) := by omega
 unfold execOp
 simp only [ho, hx, hi, Sem.run_bind, run_indexAt_slice (h := under_ss)]
 rw [if_pos h2, size_ss]
 subst hz
 simp [Go.Addr.add_mid, go_sem]
theorem inf_zero (w : World) : (zeroValue 50).run Tryz.prog w = .ok (.agg #[.int .i64 0, .int .i64 0, .bool false, .slice none 0 0, .slice none 0 0]) w := by kernel_rfl
theorem new_inf {op : Oper} (ho : op.op = .alloc 50) (a : Act) (w : World) : (execOp a.eval op).run Tryz.prog w = .ok (.value (.pointer (some ⟨w.heap.size, 0, none⟩))) (w.alloc (.cells #[.int .i64 0, .int .i64 0, .bool false, .slice none 0 0, .slice none 0 0] 50)) := by
 unfold execOp
 simp only [ho, Instr.alloc, Sem.run_bind, inf_zero, Result.andThen_ok]
 simp [newVar, newRow, Value.cells, go_sem]
structure SI1 (u0 : World) (D : Option Nat) (u : World) : Prop where
 bel : Below u0.heap.size u0 u
 new : ∀ x, D = some x → u.heap[x]? = some (.cells #[.int .i64 0, .int .i64 0, .bool false, .slice none 0 0, .slice none 0 0] 50 (0, 0)) ∧ u0.heap.size ≤ x
theorem SI1.below {u0 u u1 : World} {D : Option Nat} (h : SI1 u0 D u) (hb : Below u.heap.size u u1) : SI1 u0 D u1 :=
 ⟨h.bel.trans (hb.mono h.bel.size), fun x e => ⟨blk_keep (h.new x e).1 hb, (h.new x e).2⟩⟩
def stepI (i : Nat) (D D' : Option Nat) : Prop := i = 9 ∧ ∃ x, D' = some x
def valI (i : Nat) (D : Option Nat) : Value := match D with | some x => .pointer (some ⟨x, 0, none⟩) | none => undef
theorem valI_9 (x : Nat) : valI 9 (some x) = .pointer (some ⟨x, 0, none⟩) := rfl
theorem five_l2 (a b c d e : Value) : 2 < #[a, b, c, d, e].size := by simp
theorem colon : ∀ (l : List UInt8), l.contains 58 = true → ∃ p, p < l.length ∧ l[p]? = some 58 ∧ (∀ j, j < p → ∀ c, l[j]? = some c → c ≠ 58) ∧ l.take p = l.takeWhile (· != 58) ∧ l.drop p = l.dropWhile (· != 58)
 | [], h => by cases h
 | c :: l, h => by
   by_cases hc : c = 58
   ·subst hc
    exact ⟨0, by simp, rfl, fun j hj => absurd hj (Nat.not_lt_zero _), rfl, rfl⟩
   ·have h2 : l.contains 58 = true := by
     rw [List.contains_cons] at h
     have : ((58 : UInt8) == c) = false := by simp; exact fun e => hc e.symm
     rw [this] at h
     simpa using h
    obtain ⟨p, hp, hg, hn, ht, hd⟩ := colon l h2
    refine ⟨p + 1, by simp; omega, by simpa using hg, fun j hj d hd => ?_, ?_, ?_⟩
    ·match j, hj, hd with
     | 0, _, hd => injection hd with hd; subst hd; exact hc
     | j + 1, hj, hd => exact hn j (by omega) d (by simpa using hd)
    ·rw [List.take_succ_cons, List.takeWhile_cons, ht, if_pos (by simp [hc])]
    ·rw [List.drop_succ_cons, List.dropWhile_cons, hd, if_pos (by simp [hc])]
theorem types_c (l : List UInt8) (f i : Nat) (xs : List Int) (w : World) (hl : l.length ≤ 100) (hx : tyS ((l.take i).drop f) = xs) : Calls Tryz.prog 48 #[.string ((ByteArray.mk l.toArray).extract f i)] w fun e w' => ∃ v, e = .returned v ∧ w'.ownsRow w.heap.size 3 1 v xs.length (xs.map (Value.int .i64)) ∧ Below w.heap.size w w' := by
 subst hx
 rw [cut_str]
 exact types_s _ w (by rw [List.length_drop, List.length_take]; omega)
def ROf (B : Nat) (op : Int) (e : Ending) (w' : World) : Prop :=
 (vrowAt op = none ∧ e = .returned (.tuple #[.agg #[.int .i64 0, .int .i64 0, .bool false, .slice none 0 0, .slice none 0 0], .bool false])) ∨
 ∃ (r : Row) (s t : Value) (pl : Bool), vrowAt op = some r ∧ e = .returned (.tuple #[.agg #[.int .i64 r.form, .int .i64 r.lim, .bool pl, s, t], .bool true]) ∧ w'.ownsRow B 3 1 s (tyIn r).length ((tyIn r).map (Value.int .i64)) ∧ w'.ownsRow B 3 1 t (tyOut r).length ((tyOut r).map (Value.int .i64))
theorem inf_all (a b : Int) (p : Bool) {s t : Value} (hs : s.oneCell' = true) (ht : t.oneCell' = true) : (#[.int .i64 a, .int .i64 b, .bool p, s, t] : Array Value).all (·.oneCell') = true := all5 a b p hs ht
theorem found_row {op : Int} {i : Nat} {r : Row} (hr : rowsA[i]? = some r) (hm : r.fr ≤ op ∧ op ≤ r.to) (hn : ∀ j, j < i → ∀ q, rowsA[j]? = some q → inRow op q = false) : vrowAt op = some r := by
 rw [← find_rowsA]
 exact find_first _ _ _ _ hr (inRow_t.2 hm) hn
theorem found_none {op : Int} (hn : ∀ j, j < 108 → ∀ q, rowsA[j]? = some q → inRow op q = false) : vrowAt op = none := by
 rw [← find_rowsA, List.find?_eq_none]
 intro q hq
 obtain ⟨j, hj⟩ := List.getElem?_of_mem hq
 rw [Bool.not_eq_true]
 exact hn j (by have := (List.getElem?_eq_some_iff.1 hj).1; rw [rows_len.2] at this; exact this) q hj
set_option maxRecDepth 100000 in
theorem rof_any (op : Int) (w : World) : Calls Tryz.prog 15 #[.int .i64 op] w fun e w' => ROf w.heap.size op e w' ∧ Below w.heap.size w w' := by
 go_enter Tryz.func15, Tryz.ntmps15
 go_wp2_with (first | (go_at_call 45; refine (table_s _).mono ?_; rintro e w1 ⟨b1, rfl, hT1, hb1⟩))
 have hR : w1.heap[w.heap.size]? = some (.cells #[.int .i64 0, .int .i64 0, .bool false, .slice none 0 0, .slice none 0 0] 50 (0, 0)) := blk_keep (heap_alloc_new w (.cells #[.int .i64 0, .int .i64 0, .bool false, .slice none 0 0, .slice none 0 0] 50)) hb1
 have hbl : Below w.heap.size w w1 := below_new (Below.refl w.heap.size w) (Nat.le_refl _) _ hb1
 have hTl := block_lt hT1
 clear hb1
 go_loopw [5] (fun iv wr => ∃ i : Nat, i ≤ 108 ∧ iv = .int .i64 i ∧ Hid (∀ j, j < i → ∀ q, rowsA[j]? = some q → inRow op q = false) ∧ Below w1.heap.size w1 wr) (fun iv _ => 108 - (intOf iv).toNat)
 case atStart => exact ⟨0, Nat.zero_le _, rfl, Lib.hid (fun j hj => absurd hj (Nat.not_lt_zero _)), Below.refl _ _⟩
 case round =>
  obtain ⟨wo, hwo⟩ : ∃ x, x = wr := ⟨_, rfl⟩
  subst hwo
  obtain ⟨i, hi, rfl, HN, hwr⟩ := hrel
  have hRr := blk_keep hR hwr
  by_cases hlt : i < 108
  ·obtain ⟨s, hs⟩ : ∃ s, rowsT[i]? = some s := ⟨_, List.getElem?_eq_getElem (by rw [rows_len.1]; exact hlt)⟩
   obtain ⟨r, hr⟩ : ∃ r, rowsA[i]? = some r := ⟨_, List.getElem?_eq_getElem (by rw [rows_len.2]; exact hlt)⟩
   obtain ⟨x0, x1, x2, x3, x4, sd⟩ := said_at i s r hs hr
   have hct : wo.cell? ⟨b1, 0 + i, none⟩ = some (sV s) := by
    refine cell_b ?_ hTl hwr
    rw [Nat.zero_add, cell_of_row w1 b1 i _ _ _ hT1, List.getElem?_toArray, List.getElem?_map, hs]
    rfl
   have HWD := Lib.hid (fun W => words_c s x0 x1 x2 x3 x4 W sd.len sd.ws)
   have HN0 := Lib.hid (fun W => num_c16 x0 r.fr W sd.l0 sd.fr)
   have HN1 := Lib.hid (fun W => num_c16 x1 r.to W sd.l1 sd.to)
   have HN2 := Lib.hid (fun W => num_c10 x2 r.form W sd.l2 sd.form)
   have HN3 := Lib.hid (fun W => num_c10 x3 r.lim W sd.l3 sd.lim)
   have HR2 := Lib.hid hr
   have HSD := Lib.hid sd
   clear hs hr sd
   by_cases hm : r.fr ≤ op ∧ op ≤ r.to
   ·have hm1 : decide (op < r.fr) = false := by simp; omega
    have hm2 : decide (r.to < op) = false := by simp; omega
    have HV := Lib.hid (found_row HR2.out hm HN.out)
    clear hm
    go_upto_region 6 with (first | (with_reducible refine ix1 rfl 106 size_ss under_ss _ _ rfl b1 0 _ _ rfl _ rfl i rfl hlt ?_) | (with_reducible refine ld1 rfl 9 isAgg_str _ rfl _ rfl _ hct ?_) | (go_at_call 46; (with_reducible refine (HWD.out _).mono ?_); rintro e u1 ⟨⟨wb, wc, rfl, hwb, c0, c1, c2, c3, c4⟩, hb1'⟩))
    go_upto_region 7 with (first | ((with_reducible refine ix1_w ?_ 106 size_ss under_ss _ _ rfl wb 0 _ _ rfl _ rfl 0 rfl (by decide) ?_); (focus rfl)) | ((with_reducible refine ix1_w ?_ 106 size_ss under_ss _ _ rfl wb 0 _ _ rfl _ rfl 1 rfl (by decide) ?_); (focus rfl)) | ((with_reducible refine ld1_w ?_ 9 isAgg_str _ rfl _ rfl _ c0 ?_); (focus rfl)) | ((with_reducible refine ld1_w ?_ 9 isAgg_str _ rfl _ rfl _ c1 ?_); (focus rfl)) | (go_at_call 47; (with_reducible refine (HN0.out _).mono ?_); rintro e u2 ⟨rfl, hb2⟩; replace c1 := cell_b c1 hwb hb2; replace c2 := cell_b c2 hwb hb2; replace c3 := cell_b c3 hwb hb2; replace c4 := cell_b c4 hwb hb2; replace hwb := Nat.lt_of_lt_of_le hwb hb2.size; replace hb1' := hb1'.trans (hb2.mono hb1'.size); clear hb2) | (go_at_call 47; (with_reducible refine (HN1.out _).mono ?_); rintro e u3 ⟨rfl, hb3⟩; replace c2 := cell_b c2 hwb hb3; replace c3 := cell_b c3 hwb hb3; replace c4 := cell_b c4 hwb hb3; replace hwb := Nat.lt_of_lt_of_le hwb hb3.size; replace hb1' := hb1'.trans (hb3.mono hb1'.size); clear hb3))
    skip
    refine region_plan (SI1 u3) stepI valI none 10 [9] [] [([0, 1, 2, 3, 4, 5, 6, 7, 8], 9)] (by kernel_rfl) (by kernel_rfl) ⟨(Below.refl _ _).drew, fun x e => by cases e⟩ ?_
    simp only [planE, opsAt, List.getElem?_cons_zero, List.getElem?_cons_succ]
    repeat (first | (refine wpDA_here rfl (fun D u hS => run_ixs _ _ rfl wb 0 _ _ rfl _ rfl 2 rfl (by decide)) ?_; simp only [Act.put, z5, z6, z7]) | (refine wpDA_here rfl (fun D u hS => run_ixs _ _ rfl wb 0 _ _ rfl _ rfl 3 rfl (by decide)) ?_; simp only [Act.put, z5, z6, z7]) | (refine wpDA_here rfl (fun D u hS => run_ldc 9 isAgg_str _ rfl wb (0 + 2) rfl _ (cell_b c2 hwb hS.bel)) ?_; simp only [Act.put, z5, z6, z7]) | (refine wpDA_here rfl (fun D u hS => run_ldc 9 isAgg_str _ rfl wb (0 + 3) rfl _ (cell_b c3 hwb hS.bel)) ?_; simp only [Act.put, z5, z6, z7]) | (refine wpDA_call (v := .int .i64 r.form) rfl 47 ?_ (fun u => ?_) (fun D u hS => ?_) ?_; rotate_left 1; (focus (go_simp; (try with_reducible rfl); done)); (focus ((with_reducible refine (HN2.out _).mono ?_); rintro e u9 ⟨rfl, hb⟩; exact ⟨rfl, hS.below hb⟩)); simp only [Act.put, z5, z6, z7]) | (refine wpDA_call (v := .int .i64 r.lim) rfl 47 ?_ (fun u => ?_) (fun D u hS => ?_) ?_; rotate_left 1; (focus (go_simp; (try with_reducible rfl); done)); (focus ((with_reducible refine (HN3.out _).mono ?_); rintro e u9 ⟨rfl, hb⟩; exact ⟨rfl, hS.below hb⟩)); simp only [Act.put, z5, z6, z7]) | (refine wpDA_pure (v := ?_) rfl (fun u => ?_) ?_; rotate_left; (focus (go_simp; (try with_reducible rfl); done)); simp only [Act.put, z5, z6, z7]))
    skip
    refine wpDA_nil ⟨_, rfl, ⟨rfl, fun u hS => ?_⟩, ?_⟩
    ·exact ⟨_, .inl ⟨some u.heap.size, ⟨rfl, _, rfl⟩, ⟨hS.bel.alloc hS.bel.size _, fun x e => by injection e with e; subst e; exact ⟨heap_alloc_new _ _, hS.bel.size⟩⟩, .inl (new_inf rfl _ _)⟩⟩
    rintro D' ⟨_, x7, rfl⟩
    simp only [Act.put, z5, z6, z7]
    (try simp only [valI_9])
    (try simp only [planE, opsAt, List.getElem?_cons_zero, List.getElem?_cons_succ])
    refine wpDA_nil (fun u4 hS4 => ?_)
    have hbI := hS4.bel
    obtain ⟨hI, hx7⟩ := hS4.new x7 rfl
    clear hS4
    skip
    go_upto_region 8 with (first | (refine store_info rfl _ _ rfl x7 _ _ _ _ _ _ _ _ _ _ rfl rfl hI (inf_all _ _ _ rfl rfl) ?_; intro u5 g5 hI5))
    have hb35 : Below u3.heap.size u3 u5 := hbI.trans (grown_below g5 hbI.size (fun g e => by injection e with e; omega))
    have hne : wb ≠ x7 := by omega
    replace c4 := cell_b c4 hwb hb35
    replace c4 : u5.cell? ⟨wb, 0 + 4, none⟩ = some (.string ⟨x4.toArray⟩) := c4
    replace hwb := Nat.lt_of_lt_of_le hwb hb35.size
    have hb5 : Below wo.heap.size wo u5 := hb1'.trans (hb35.mono hb1'.size)
    have hx7w : wo.heap.size ≤ x7 := Nat.le_trans hb1'.size hx7
    clear g5 hb35 hbI c2 c3 hI hb1' HN0 HN1 HN2 HN3
    have hbx : Below w.heap.size w u5 := (hbl.trans (hwr.mono hbl.size)).trans (hb5.mono (hbl.trans (hwr.mono hbl.size)).size)
    have hRu0 := blk_keep hRr hb5
    have hwR : w.heap.size < wo.heap.size := block_lt hRr
    by_cases h45 : x4 = [45]
    ·have q : (x4 == [45]) = true := by rw [h45]; rfl
     have hsg := HSD.out.none h45
     have e1 : tyIn r = [] := by unfold tyIn; rw [hsg]; rfl
     have e2 : tyOut r = [] := by unfold tyOut; rw [hsg]; rfl
     have o1 : u5.ownsRow u5.heap.size 3 1 (.slice none 0 0) (tyIn r).length ((tyIn r).map (Value.int .i64)) := by rw [e1]; exact World.ownsRow_nil _ _ _ _
     have o2 : u5.ownsRow u5.heap.size 3 1 (.slice none 0 0) (tyOut r).length ((tyOut r).map (Value.int .i64)) := by rw [e2]; exact World.ownsRow_nil _ _ _ _
     have hz := hbx.size
     clear h45 hsg e1 e2
     have hRu : u5.heap[w.heap.size]? = some (.cells #[.int .i64 0, .int .i64 0, .bool false, .slice none 0 0, .slice none 0 0] 50 (0, 0)) := hRu0
     have hall := inf_all r.form r.lim false (owns_one o1).1 (owns_one o2).1
     have hlR := block_lt hRu
     as_aux_lemma =>
     go_wp2_with (first | (refine load_info rfl _ rfl _ rfl _ _ _ _ _ hI5 ?_) | (refine store_info rfl _ _ rfl w.heap.size _ _ _ _ _ _ _ _ _ _ rfl rfl hRu hall ?_; intro x8 g8 b8))
     exact bodyPost_ret (results_info_tmp rfl _ _ w.heap.size _ _ _ _ _ _ rfl rfl b8) rfl ⟨.inr ⟨r, (.slice none 0 0), (.slice none 0 0), _, HV.out, rfl, owns_base (own_kept o1 g8 (fun k hk e => by injection e with e; have := (o1.lt k hk).1; omega)) (by omega), owns_base (own_kept o2 g8 (fun k hk e => by injection e with e; have := (o2.lt k hk).1; omega)) (by omega)⟩, hbx.trans (grown_below g8 hbx.size (fun g e => by injection e with e; omega))⟩
    ·have q : (x4 == [45]) = false := by simp [h45]
     obtain ⟨_, hcon, hin, hout⟩ := HSD.out.some h45
     obtain ⟨p, hp, hgp, hnp, htk, hdr⟩ := colon x4 hcon
     have hl4 : x4.length ≤ 100 := by
      have h1 := HSD.out.len
      have h2 := HSD.out.l4
      omega
     have HT1 := Lib.hid (fun W => types_c x4 0 p (tyIn r) W hl4 (by rw [List.drop_zero, htk]; exact hin))
     have HT2 := Lib.hid (fun W => types_c x4 p x4.length (tyOut r) W hl4 (by rw [List.take_length, hdr]; exact hout))
     have HNP := Lib.hid hnp
     have hgc : ∀ h, (ByteArray.mk x4.toArray)[p]'h = 58 := fun h => (List.getElem?_eq_some_iff.1 hgp).2
     have hls : (ByteArray.mk x4.toArray).size = x4.length := rfl
     clear h45 hcon hin hout hnp htk hdr hgp
     go_upto_region 10 with (first | ((with_reducible refine ix1_w ?_ 106 size_ss under_ss _ _ rfl wb 0 _ _ rfl _ rfl 4 rfl (by decide) ?_); (focus rfl)) | ((with_reducible refine ld1_w ?_ 9 isAgg_str _ rfl _ rfl _ c4 ?_); (focus rfl)) | (refine store_fld rfl 4 size_bool _ _ rfl x7 2 rfl (.bool true) rfl rfl rfl _ _ hI5 (five_l2 _ _ _ _ _) ?_; intro u6 g6 s6 b6))
     replace b6 : u6.heap[x7]? = some (.cells #[.int .i64 r.form, .int .i64 r.lim, .bool true, .slice none 0 0, .slice none 0 0] 50 (0, 0)) := b6
     have hg6 : Below wo.heap.size wo u6 := hb5.trans (grown_below g6 hb5.size (fun g e => by injection e with e; omega))
     replace c4 : u6.cell? ⟨wb, 0 + 4, none⟩ = some (.string ⟨x4.toArray⟩) := by
      unfold World.cell? at c4 ⊢
      rw [g6.block wb hwb (fun e => by injection e with e; exact hne e)]
      exact c4
     replace hwb : wb < u6.heap.size := by rw [s6]; exact hwb
     clear g6 s6 hI5 hb5 hbx hRu0
     go_upto_region 11 with fail
     go_loopw [8] (fun jv wx => ∃ j : Nat, j ≤ p ∧ jv = .int .i64 j ∧ u6 = wx) (fun jv _ => p - (intOf jv).toNat)
     case atStart => exact ⟨0, Nat.zero_le _, rfl, rfl⟩
     case round =>
      obtain ⟨j, hj, rfl, rfl⟩ := hrel
      by_cases hjp : j < p
      ·obtain ⟨c, hcc⟩ : ∃ c, x4[j]? = some c := ⟨_, List.getElem?_eq_getElem (by omega)⟩
       have hget : ∀ h, (ByteArray.mk x4.toArray)[j]'h = c := fun h => (List.getElem?_eq_some_iff.1 hcc).2
       have k1 : ((c.toNat : Int) == 58) = false := ne_byte (d := 58) (HNP.out j hjp c hcc)
       clear hcc hgc
       as_aux_lemma =>
       go_wp2_with (first | ((with_reducible refine ix1_w ?_ 106 size_ss under_ss _ _ rfl wb 0 _ _ rfl _ rfl 4 rfl (by decide) ?_); (focus rfl)) | ((with_reducible refine ld1_w ?_ 9 isAgg_str _ rfl _ rfl _ c4 ?_); (focus rfl)))
       exact ⟨⟨j + 1, by omega, by go_num, by first | rfl | trivial⟩, by (simp [intOf] <;> omega)⟩
      ·obtain rfl : j = p := by omega
       as_aux_lemma =>
       go_upto_region 13 with (first | ((with_reducible refine ix1_w ?_ 106 size_ss under_ss _ _ rfl wb 0 _ _ rfl _ rfl 4 rfl (by decide) ?_); (focus rfl)) | ((with_reducible refine ld1_w ?_ 9 isAgg_str _ rfl _ rfl _ c4 ?_); (focus rfl)))
       skip
       go_upto_region 14 with (first | ((with_reducible refine ix1_w ?_ 106 size_ss under_ss _ _ rfl wb 0 _ _ rfl _ rfl 4 rfl (by decide) ?_); (focus rfl)) | ((with_reducible refine ld1_w ?_ 9 isAgg_str _ rfl _ rfl _ c4 ?_); (focus rfl)) | (go_at_call 48; (with_reducible refine (HT1.out _).mono ?_); rintro e y1 ⟨v1, rfl, ov1, hy1⟩) | (refine store_fld rfl 23 size_slint _ _ rfl x7 3 rfl v1 rfl (owns_one ov1).2 (owns_one ov1).1 _ _ (blk_keep b6 hy1) (five_3 _ _ _ _ _) ?_; intro y2 g2 s2 b7))
       skip
       replace b7 : y2.heap[x7]? = some (.cells #[.int .i64 r.form, .int .i64 r.lim, .bool true, v1, .slice none 0 0] 50 (0, 0)) := b7
       have hx6 := block_lt b6
       have hg2 : Below wo.heap.size wo y2 := (hg6.trans (hy1.mono hg6.size)).trans (grown_below g2 (hg6.trans (hy1.mono hg6.size)).size (fun g e => by injection e with e; omega))
       replace c4 : y2.cell? ⟨wb, 0 + 4, none⟩ = some (.string ⟨x4.toArray⟩) := by
        have h := cell_b c4 hwb hy1
        unfold World.cell? at h ⊢
        rw [g2.block wb (Nat.lt_of_lt_of_le hwb hy1.size) (fun e => by injection e with e; exact hne e)]
        exact h
       replace hwb : wb < y2.heap.size := by rw [s2]; exact Nat.lt_of_lt_of_le hwb hy1.size
       have o1 := own_kept ov1 g2 (fun k hk e => by injection e with e; have := (ov1.lt k hk).1; omega)
       have hy6 := hy1.size
       clear ov1 g2 hy1 b6 hg6 hgc
       go_upto_region 15 with (first | ((with_reducible refine ix1_w ?_ 106 size_ss under_ss _ _ rfl wb 0 _ _ rfl _ rfl 4 rfl (by decide) ?_); (focus rfl)) | ((with_reducible refine ld1_w ?_ 9 isAgg_str _ rfl _ rfl _ c4 ?_); (focus rfl)) | (go_at_call 48; (with_reducible refine (HT2.out _).mono ?_); rintro e y3 ⟨v2, rfl, ov2, hy3⟩) | (refine store_fld rfl 23 size_slint _ _ rfl x7 4 rfl v2 rfl (owns_one ov2).2 (owns_one ov2).1 _ _ (blk_keep b7 hy3) (five_4 _ _ _ _ _) ?_; intro y4 g4 s4 b8))
       skip
       replace b8 : y4.heap[x7]? = some (.cells #[.int .i64 r.form, .int .i64 r.lim, .bool true, v1, v2] 50 (0, 0)) := b8
       have hx8 := block_lt b7
       have hg4 : Below wo.heap.size wo y4 := (hg2.trans (hy3.mono hg2.size)).trans (grown_below g4 (hg2.trans (hy3.mono hg2.size)).size (fun g e => by injection e with e; omega))
       have o2 := own_kept ov2 g4 (fun k hk e => by injection e with e; have := (ov2.lt k hk).1; omega)
       have o1' := own_kept (own_kept o1 (grown_of_below (r := none) hy3) (fun k _ e => by cases e)) g4 (fun k hk e => by injection e with e; have := (o1.lt k hk).1; omega)
       have hbx : Below w.heap.size w y4 := (hbl.trans (hwr.mono hbl.size)).trans (hg4.mono (hbl.trans (hwr.mono hbl.size)).size)
       have hRu0 := blk_keep hRr hg4
       have hz := hbx.size
       have hz2 := hy3.size
       clear ov2 g4 o1
       have hRu : y4.heap[w.heap.size]? = some (.cells #[.int .i64 0, .int .i64 0, .bool false, .slice none 0 0, .slice none 0 0] 50 (0, 0)) := hRu0
       have hall := inf_all r.form r.lim true (owns_one o1').1 (owns_one o2).1
       have hlR := block_lt hRu
       as_aux_lemma =>
       go_wp2_with (first | (refine load_info rfl _ rfl _ rfl _ _ _ _ _ b8 ?_) | (refine store_info rfl _ _ rfl w.heap.size _ _ _ _ _ _ _ _ _ _ rfl rfl hRu hall ?_; intro x8 g8 b8))
       exact bodyPost_ret (results_info_tmp rfl _ _ w.heap.size _ _ _ _ _ _ rfl rfl b8) rfl ⟨.inr ⟨r, v1, v2, _, HV.out, rfl, owns_base (own_kept o1' g8 (fun k hk e => by injection e with e; have := (o1'.lt k hk).1; omega)) (by omega), owns_base (own_kept o2 g8 (fun k hk e => by injection e with e; have := (o2.lt k hk).1; omega)) (by omega)⟩, hbx.trans (grown_below g8 hbx.size (fun g e => by injection e with e; omega))⟩
   ·have hnx : Hid (∀ j, j < i + 1 → ∀ q, rowsA[j]? = some q → inRow op q = false) := Lib.hid (fun j hj q hq => by
     by_cases e : j = i
     ·subst e; rw [HR2.out] at hq; injection hq with hq; subst hq; exact inRow_f.2 hm
     ·exact HN.out j (by omega) q hq)
    by_cases hf : op < r.fr
    ·have hm1 : decide (op < r.fr) = true := by simp [hf]
     clear hm hf
     as_aux_lemma =>
     go_wp2_with (first | (with_reducible refine ix1 rfl 106 size_ss under_ss _ _ rfl b1 0 _ _ rfl _ rfl i rfl hlt ?_) | (with_reducible refine ld1 rfl 9 isAgg_str _ rfl _ rfl _ hct ?_) | (go_at_call 46; (with_reducible refine (HWD.out _).mono ?_); rintro e u1 ⟨⟨wb, wc, rfl, hwb, c0, c1, c2, c3, c4⟩, hb1'⟩) | ((with_reducible refine ix1_w ?_ 106 size_ss under_ss _ _ rfl wb 0 _ _ rfl _ rfl 0 rfl (by decide) ?_); (focus rfl)) | ((with_reducible refine ld1_w ?_ 9 isAgg_str _ rfl _ rfl _ c0 ?_); (focus rfl)) | (go_at_call 47; (with_reducible refine (HN0.out _).mono ?_); rintro e u2 ⟨rfl, hb2⟩; replace c1 := cell_b c1 hwb hb2; replace c2 := cell_b c2 hwb hb2; replace c3 := cell_b c3 hwb hb2; replace c4 := cell_b c4 hwb hb2; replace hwb := Nat.lt_of_lt_of_le hwb hb2.size; replace hb1' := hb1'.trans (hb2.mono hb1'.size); clear hb2))
     exact ⟨⟨i + 1, by omega, by go_num, hnx, hwr.trans (hb1'.mono hwr.size)⟩, by (simp [intOf] <;> omega)⟩
    ·have hm1 : decide (op < r.fr) = false := by simp; omega
     have hm2 : decide (r.to < op) = true := by simp; omega
     clear hm hf
     as_aux_lemma =>
     go_wp2_with (first | (with_reducible refine ix1 rfl 106 size_ss under_ss _ _ rfl b1 0 _ _ rfl _ rfl i rfl hlt ?_) | (with_reducible refine ld1 rfl 9 isAgg_str _ rfl _ rfl _ hct ?_) | (go_at_call 46; (with_reducible refine (HWD.out _).mono ?_); rintro e u1 ⟨⟨wb, wc, rfl, hwb, c0, c1, c2, c3, c4⟩, hb1'⟩) | ((with_reducible refine ix1_w ?_ 106 size_ss under_ss _ _ rfl wb 0 _ _ rfl _ rfl 0 rfl (by decide) ?_); (focus rfl)) | ((with_reducible refine ix1_w ?_ 106 size_ss under_ss _ _ rfl wb 0 _ _ rfl _ rfl 1 rfl (by decide) ?_); (focus rfl)) | ((with_reducible refine ld1_w ?_ 9 isAgg_str _ rfl _ rfl _ c0 ?_); (focus rfl)) | ((with_reducible refine ld1_w ?_ 9 isAgg_str _ rfl _ rfl _ c1 ?_); (focus rfl)) | (go_at_call 47; (with_reducible refine (HN0.out _).mono ?_); rintro e u2 ⟨rfl, hb2⟩; replace c1 := cell_b c1 hwb hb2; replace c2 := cell_b c2 hwb hb2; replace c3 := cell_b c3 hwb hb2; replace c4 := cell_b c4 hwb hb2; replace hwb := Nat.lt_of_lt_of_le hwb hb2.size; replace hb1' := hb1'.trans (hb2.mono hb1'.size); clear hb2) | (go_at_call 47; (with_reducible refine (HN1.out _).mono ?_); rintro e u3 ⟨rfl, hb3⟩; replace c2 := cell_b c2 hwb hb3; replace c3 := cell_b c3 hwb hb3; replace c4 := cell_b c4 hwb hb3; replace hwb := Nat.lt_of_lt_of_le hwb hb3.size; replace hb1' := hb1'.trans (hb3.mono hb1'.size); clear hb3))
     exact ⟨⟨i + 1, by omega, by go_num, hnx, hwr.trans (hb1'.mono hwr.size)⟩, by (simp [intOf] <;> omega)⟩
  ·obtain rfl : i = 108 := by omega
   have hall : (#[.int .i64 0, .int .i64 0, .bool false, .slice none 0 0, .slice none 0 0] : Array Value).all (·.oneCell') = true := by rw [← Array.all_toList]; rfl
   have HV := Lib.hid (found_none HN.out)
   have hbr := hbl.trans (hwr.mono hbl.size)
   as_aux_lemma =>
   go_wp2_with (first | (with_reducible refine store_info rfl _ _ rfl w.heap.size _ _ _ _ _ _ _ _ _ _ rfl rfl hRr hall ?_; intro x4 hx4 bR))
   exact bodyPost_ret (results_info_tmp rfl _ _ w.heap.size _ _ _ _ _ _ rfl rfl bR) rfl ⟨.inl ⟨HV.out, rfl⟩, hbr.trans (grown_below hx4 hbr.size (fun g e => by injection e with e; omega))⟩
end Go.Proofs.YtmfmokblmipagaaGreat
