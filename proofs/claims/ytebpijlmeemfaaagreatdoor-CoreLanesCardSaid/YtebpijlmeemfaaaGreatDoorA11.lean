/- A part of the proof that plaittop.CoreLanes returns true. -/
import Derived.Test.YtebpijlmeemfaaaGreatDoorA03
set_option linter.all false
set_option linter.unusedSectionVars false
set_option linter.unusedSimpArgs false
set_option linter.unusedVariables false
section
namespace Go.Proofs.YtebpijlmeemfaaaGreatDoor
open Go.RowKit Pl
theorem five_3 (a b c d e : Value) : 3 < #[a, b, c, d, e].size := by simp
theorem five_4 (a b c d e : Value) : 4 < #[a, b, c, d, e].size := by simp
theorem intInfo : (Tryz.prog.info? 3).map (fun i => (i.zero, i.size, i.bytes)) = some (some (.int .i64 0), 1, 8) := by kernel_rfl
theorem load_w {ops : Array Oper} {rest : List Oper} {o : Oper} {a : Act} {w : World} {Q : Exit → Act → World → Prop} (hw : Region.wanted o (yielded ops a.tmps) = true) (T : TypeId) (ha : ∀ w, (isAgg T).run Tryz.prog w = .ok false w) (x : Operand) (ho : o.op = .load T x) (g j : Nat) (hx : a.eval x = .pointer (some ⟨g, j, none⟩))
  (cs : Array Value) (T0 : TypeId) (hg : w.heap[g]? = some (.cells cs T0 (0, 0))) (v : Value) (hv : cs[j]? = some v)
  (h : wpList Tryz.prog ops Q rest (a.put o.dst v) w) : wpList Tryz.prog ops Q (o :: rest) a w := by
 refine wpList_step fun K hK => ?_
 rw [if_pos hw]
 have ha := ha w
 have hc : w.cell? ⟨g, j, none⟩ = some v := by simp [World.cell?, hg, hv]
 unfold Oper.wp execOp
 simp only [ho, hx, Instr.loadAt, Instr.sureAddr, Sem.run_bind, Sem.run_pure, Result.andThen_ok]
 simp only [loadVar, Sem.run_bind, ha, Result.andThen_ok]
 simp [hc, go_sem]
 exact hK _ _ h
theorem store_newk {ops : Array Oper} {rest : List Oper} {o : Oper} {a : Act} {w : World} {Q : Exit → Act → World → Prop} (hgd : o.guard = none) (T : TypeId) (x y : Operand) (ho : o.op = .store T x y) (z cells : Array Value) (hx : a.eval x = .pointer (some ⟨w.heap.size, 0, none⟩)) (hy : a.eval y = .agg cells)
  (hi : (Tryz.prog.info? T).map (·.size) = some cells.size) (hold : z.size = cells.size) (h1 : cells.all (·.oneCell') = true)
  (h : ∀ w', Below w.heap.size w w' → w'.heap[w.heap.size]? = some (.cells cells T (0, 0)) → w.heap.size < w'.heap.size → wpList Tryz.prog ops Q rest (a.put o.dst undef) w') : wpList Tryz.prog ops Q (o :: rest) a (w.alloc (.cells z T)) :=
 store_new hgd T x y ho z cells hx hy hi hold h1 (h _ ((Below.refl _ _).alloc (Nat.le_refl _) _) (heap_alloc_new _ _) (by simp))
theorem tab_i64 (l : List Row) (h : l.all (fun r => decide (0 ≤ r.fr ∧ r.fr ≤ 65535 ∧ 0 ≤ r.to ∧ r.to ≤ 65535 ∧ r.sig.length ≤ 8)) = true) (i : Nat) (r : Row) (hr : l[i]? = some r) : 0 ≤ r.fr ∧ r.fr ≤ 65535 ∧ 0 ≤ r.to ∧ r.to ≤ 65535 ∧ r.sig.length ≤ 8 := by
 have := List.all_eq_true.1 h r (List.mem_of_getElem? hr)
 simpa using this
structure OfIs (B : Nat) (l : List Row) (op : Int) (e : Ending) (w' : World) : Prop where
 ret : ∃ (v : Value) (k : Bool), e = .returned (.tuple #[v, .bool k]) ∧ (k = false → v = .agg #[.int .i64 0, .int .i64 0, .bool false, .slice none 0 0, .slice none 0 0] ∧ ∀ r ∈ l, ¬ (r.fr ≤ op ∧ op ≤ r.to)) ∧
  (k = true → ∃ (i : Nat) (r : Row) (pl : Bool) (s t : Value), l[i]? = some r ∧ r.fr ≤ op ∧ op ≤ r.to ∧ (∀ j, j < i → ∀ q, l[j]? = some q → ¬ (q.fr ≤ op ∧ op ≤ q.to)) ∧ v = .agg #[.int .i64 r.form, .int .i64 r.lim, .bool pl, s, t] ∧
   w'.ownsRow B 3 1 s (sigOf r.sig).2.1.length ((sigOf r.sig).2.1.map (Value.int .i64)) ∧ w'.ownsRow B 3 1 t (sigOf r.sig).2.2.length ((sigOf r.sig).2.2.map (Value.int .i64)))
 agg : ∃ c0 c1 c2 c3 c4 k, e = .returned (.tuple #[.agg #[c0, c1, c2, c3, c4], k])
set_option maxHeartbeats 4000000 in
set_option maxRecDepth 100000 in
theorem of_hi (op : Int) (w : World) (ho : -9223372036854775808 ≤ op ∧ op ≤ 9223372036854775807) (h : 64768 ≤ op) :
  Calls Tryz.prog 22 #[.int .i64 op] w fun e w' => OfIs w.heap.size rowsV op e w' ∧ Below w.heap.size w w' := by
 have HT := Lib.hid (fun j r h => tab_i64 rowsV (by decide) j r h)
 have HO := Lib.hid ho
 clear ho
 go_enter Tryz.func22, Tryz.ntmps22
 go_wp2_with (first
  | (go_at_call 76; refine (scalars_k _).mono ?_; rintro e w1 ⟨b1, rfl, hT1, hl1, hb1⟩)
  | (go_at_call 77; refine (vectors_k _).mono ?_; rintro e w2 ⟨b2, rfl, hT2, hl2, hb2⟩))
 have hR : w2.heap[w.heap.size]? = some (.cells #[.int .i64 0, .int .i64 0, .bool false, .slice none 0 0, .slice none 0 0] 86 (0, 0)) := (hb2.block _ (Nat.lt_of_lt_of_le (by simp) hb1.size)).trans ((hb1.block _ (by simp)).trans (heap_alloc_new _ _))
 have hbl : Below w.heap.size w w2 := (((Below.refl _ _).alloc (Nat.le_refl _) _).trans (hb1.mono (by simp))).trans (hb2.mono (Nat.le_trans (by simp) hb1.size))
 obtain ⟨W, hW⟩ : ∃ W, W = w2 := ⟨_, rfl⟩
 obtain ⟨b, hb⟩ : ∃ b, b = b2 := ⟨_, rfl⟩
 rw [← hW] at hT2 hR hbl
 rw [← hb] at hT2 ⊢
 rw [← hW]
 have hTab0 := hT2
 clear hW hb hT1 hT2 hl1 hl2 hb1 hb2
 go_loopw [18] (fun iv wr => ∃ i : Nat, i ≤ 66 ∧ iv = .int .i64 i ∧ (∀ j, j < i → ∀ q, rowsV[j]? = some q → ¬ (q.fr ≤ op ∧ op ≤ q.to)) ∧ Below W.heap.size W wr) (fun iv _ => 66 - (intOf iv).toNat)
 case atStart => exact ⟨0, Nat.zero_le _, rfl, fun j hj => absurd hj (Nat.not_lt_zero _), Below.refl _ _⟩
 case round =>
  obtain ⟨wo, hwo⟩ : ∃ x, x = wr := ⟨_, rfl⟩
  subst hwo
  obtain ⟨i, hi, rfl, hno, hwr⟩ := hrel
  have HN := Lib.hid hno
  clear hno
  have hTab := blk_keep hTab0 hwr
  have hRr := blk_keep hR hwr
  have hbr := below_next hbl (Nat.le_refl _) hwr
  by_cases hlt : i < 66
  ·obtain ⟨r, hr⟩ : ∃ r, rowsV[i]? = some r := ⟨_, List.getElem?_eq_getElem hlt⟩
   obtain ⟨t1, t2, t3, t4, t5⟩ := HT.out i r hr
   by_cases hm : r.fr ≤ op ∧ op ≤ r.to
   ·have hm1 : decide (op < r.fr) = false := by simp; omega
    have hm2 : decide (r.to < op) = false := by simp; omega
    have HM := Lib.hid hm
    clear hm
    have HR2 := Lib.hid hr
    go_wp2_with (first | (with_reducible refine ix_row rfl _ _ rfl b _ _ rfl _ rfl i rfl hlt ?_) | (with_reducible refine load_row rfl _ rfl b i rfl _ hTab r hr ?_) | ((with_reducible refine conv_str rfl _ rfl r.sig rfl ?_); intro Y cY x3 hY hx3 cellY lY) | ((with_reducible refine load_w ?_ 3 isAgg_int _ rfl _ _ rfl _ _ bX _ rfl ?_); (focus rfl)) | ((with_reducible refine load_w ?_ 9 isAgg_str _ rfl _ _ rfl _ _ bX _ rfl ?_); (focus rfl)))
    have hI0 : x3.heap[wo.heap.size + 1]? = some (.cells #[.int .i64 r.form, .int .i64 r.lim, .bool !r.sig.isEmpty, .slice none 0 0, .slice none 0 0] 86 (0, 0)) := (hx3.block _ (by simp)).trans (heap_alloc2_new _ _ _)
    have hx4 : Below wo.heap.size wo x3 := (((Below.refl _ _).alloc (Nat.le_refl _) _).alloc (by simp) _).trans (hx3.mono (by simp; omega))
    have hYI : Y ≠ wo.heap.size + 1 := by have := hY; simp at this; omega
    clear hx3 hY
    have CY := Lib.hid cellY
    clear cellY
    go_loopw [8, 44] (fun ov jv wr => ∃ (j : Nat) (ob : Bool) (xs ys : List Int) (s t : Value), j ≤ r.sig.length ∧ jv = .int .i64 j ∧ ov = .bool ob ∧ Hid (sigOf (r.sig.take j) = (ob, xs, ys)) ∧ InfoSt x3 (wo.heap.size + 1) r.form r.lim (!r.sig.isEmpty) s t xs ys wr) (fun _ jv _ => r.sig.length - (intOf jv).toNat)
    case atStart => exact ⟨0, false, [], [], _, _, Nat.zero_le _, rfl, rfl, Lib.hid rfl, InfoSt.start hI0⟩
    case round =>
     clear hI0
     obtain ⟨j, ob, xs, ys, s, t, hj, rfl, rfl, HS, hs⟩ := hrel
     obtain ⟨i0, hi0, hz0, hz1, hz2⟩ := info_parts intInfo
     have HZ0 := Lib.hid hz0
     have HZ1 := Lib.hid hz1
     have HZ2 := Lib.hid hz2
     have HI0 := Lib.hid hi0
     clear hi0 hz0 hz1 hz2
     by_cases hlj : j < r.sig.length
     ·have hcy : wr.cell? ⟨Y, 0 + j, none⟩ = some (.int .u8 (r.sig[j].toNat : Int)) := by
       rw [Nat.zero_add]
       have := CY.out j hlj
       unfold World.cell? at this ⊢
       rw [hs.keep lY hYI]
       exact this
      have hst := sigOf_take r.sig j hlj
      rw [HS.out] at hst
      have hlen := sigOf_len (r.sig.take j)
      rw [HS.out] at hlen
      simp only [List.length_take] at hlen
      obtain ⟨c, hc⟩ : ∃ c, c = r.sig[j] := ⟨_, rfl⟩
      rw [← hc] at hcy hst
      clear hc
      obtain ⟨cz, hcz⟩ : ∃ cz : Int, cz = (c.toNat : Int) := ⟨_, rfl⟩
      have hcr : 0 ≤ cz ∧ cz < 256 := by have := c.toNat_lt; omega
      rw [← hcz] at hcy
      have HCZ := Lib.hid hcz
      have HST := Lib.hid hst
      have hls := hs.lt
      have hgs := hs.grown.size
      clear hst hcz
      by_cases h58 : c = 58
      ·have q1 : cz = 58 := by rw [HCZ.out, h58]; rfl
       subst q1
       have H58 := Lib.hid h58
       clear h58
       go_wp2_with (first | (with_reducible refine ix1 rfl 65 size_by under_by _ _ rfl Y 0 _ _ rfl _ rfl j rfl hlj ?_) | (with_reducible refine ld1 rfl 5 isAgg_u8 _ rfl _ rfl _ hcy ?_))
       exact ⟨⟨j + 1, true, xs, ys, s, t, by omega, by go_num, rfl, Lib.hid (by rw [HST.out, H58.out]; exact sigStep_col _ _ _), hs⟩, by simp [intOf]; omega⟩
      ·have n58 : cz ≠ 58 := fun e => h58 (by apply UInt8.toNat_inj.1; have := HCZ.out; simp; omega)
       have q1 : (cz == 58) = false := by simp [n58]
       have H58 := Lib.hid h58
       clear h58 n58
       obtain ⟨tz, htz⟩ : ∃ tz, tz = tyOf c := ⟨_, rfl⟩
       have HTZ := Lib.hid htz
       clear htz
       obtain ⟨tb, htb⟩ : ∃ tb : Bool, tb = decide (c = 108) := ⟨_, rfl⟩
       obtain ⟨tv, htv⟩ : ∃ tv : Bool, tv = decide (c = 118) := ⟨_, rfl⟩
       have HTB := Lib.hid htb
       have HTV := Lib.hid htv
       clear htb htv
       have q2 : (cz == 108) = tb := by
        rw [HTB.out]
        by_cases h : c = 108
        ·rw [HCZ.out, h]; rfl
        ·have : cz ≠ 108 := fun e => h (by apply UInt8.toNat_inj.1; have := HCZ.out; simp; omega)
         simp [h, this]
       have q3 : (cz == 118) = tv := by
        rw [HTV.out]
        by_cases h : c = 118
        ·rw [HCZ.out, h]; rfl
        ·have : cz ≠ 118 := fun e => h (by apply UInt8.toNat_inj.1; have := HCZ.out; simp; omega)
         simp [h, this]
       have hty : tz = if tb = true then 126 else if tv = true then 123 else 127 := by rw [HTZ.out, HTB.out, HTV.out]; unfold tyOf; simp
       have HTY := Lib.hid hty
       clear hty
       rcases tb with _ | _ <;> rcases tv with _ | _ <;> rcases ob with _ | _
       ·have hq : tz = 127 := by rw [HTY.out]; rfl
        have HQ := Lib.hid hq
        clear hq
        go_wp2_with (first | (with_reducible refine ix1 rfl 65 size_by under_by _ _ rfl Y 0 _ _ rfl _ rfl j rfl hlj ?_) | (with_reducible refine ld1 rfl 5 isAgg_u8 _ rfl _ rfl _ hcy ?_) | ((with_reducible refine load_w ?_ 34 isAgg_slint _ rfl _ _ rfl _ _ hs.blk _ rfl ?_); (focus rfl)) | (at_builtin; refine app_int1 rfl _ _ rfl i0 HI0.out HZ0.out HZ1.out HZ2.out x3.heap.size s xs 127 _ _ rfl (hs.inn.alloc _) rfl (heap_alloc_new _ _) (by omega) (by have := hgs; simp; omega) ?_; intro v5 x5 ho5 hg5 ha5 hc5 h15; have hb5 := hs.blk2 ((Below.refl _ _).alloc (Nat.le_refl _) _) hg5 (fun k hk => (hs.inn.lt k hk).1)) | (with_reducible refine store_fld rfl 34 size_slint _ _ rfl (wo.heap.size + 1) 3 rfl v5 rfl hc5 h15 _ _ hb5 (five_3 _ _ _ _ _) ?_; intro x6 g6 sz6 b6))
        exact ⟨⟨j + 1, false, xs ++ [127], ys, v5, t, by omega, by go_num, rfl, Lib.hid (by rw [HST.out, sigStep_in _ _ _ H58.out, ← HTZ.out, HQ.out]), hs.into ((Below.refl _ _).alloc (Nat.le_refl _) _) ho5 hg5 ha5 g6 b6⟩, by simp [intOf]; omega⟩
       ·have hq : tz = 127 := by rw [HTY.out]; rfl
        have HQ := Lib.hid hq
        clear hq
        go_wp2_with (first | (with_reducible refine ix1 rfl 65 size_by under_by _ _ rfl Y 0 _ _ rfl _ rfl j rfl hlj ?_) | (with_reducible refine ld1 rfl 5 isAgg_u8 _ rfl _ rfl _ hcy ?_) | ((with_reducible refine load_w ?_ 34 isAgg_slint _ rfl _ _ rfl _ _ hs.blk _ rfl ?_); (focus rfl)) | (at_builtin; refine app_int1 rfl _ _ rfl i0 HI0.out HZ0.out HZ1.out HZ2.out x3.heap.size t ys 127 _ _ rfl (hs.out.alloc _) rfl (heap_alloc_new _ _) (by omega) (by have := hgs; simp; omega) ?_; intro v5 x5 ho5 hg5 ha5 hc5 h15; have hb5 := hs.blk2 ((Below.refl _ _).alloc (Nat.le_refl _) _) hg5 (fun k hk => (hs.out.lt k hk).1)) | (with_reducible refine store_fld rfl 34 size_slint _ _ rfl (wo.heap.size + 1) 4 rfl v5 rfl hc5 h15 _ _ hb5 (five_4 _ _ _ _ _) ?_; intro x6 g6 sz6 b6))
        exact ⟨⟨j + 1, true, xs, ys ++ [127], s, v5, by omega, by go_num, rfl, Lib.hid (by rw [HST.out, sigStep_out _ _ _ H58.out, ← HTZ.out, HQ.out]), hs.onto ((Below.refl _ _).alloc (Nat.le_refl _) _) ho5 hg5 ha5 g6 b6⟩, by simp [intOf]; omega⟩
       ·have hq : tz = 123 := by rw [HTY.out]; rfl
        have HQ := Lib.hid hq
        clear hq
        go_wp2_with (first | (with_reducible refine ix1 rfl 65 size_by under_by _ _ rfl Y 0 _ _ rfl _ rfl j rfl hlj ?_) | (with_reducible refine ld1 rfl 5 isAgg_u8 _ rfl _ rfl _ hcy ?_) | ((with_reducible refine load_w ?_ 34 isAgg_slint _ rfl _ _ rfl _ _ hs.blk _ rfl ?_); (focus rfl)) | (at_builtin; refine app_int1 rfl _ _ rfl i0 HI0.out HZ0.out HZ1.out HZ2.out x3.heap.size s xs 123 _ _ rfl (hs.inn.alloc _) rfl (heap_alloc_new _ _) (by omega) (by have := hgs; simp; omega) ?_; intro v5 x5 ho5 hg5 ha5 hc5 h15; have hb5 := hs.blk2 ((Below.refl _ _).alloc (Nat.le_refl _) _) hg5 (fun k hk => (hs.inn.lt k hk).1)) | (with_reducible refine store_fld rfl 34 size_slint _ _ rfl (wo.heap.size + 1) 3 rfl v5 rfl hc5 h15 _ _ hb5 (five_3 _ _ _ _ _) ?_; intro x6 g6 sz6 b6))
        exact ⟨⟨j + 1, false, xs ++ [123], ys, v5, t, by omega, by go_num, rfl, Lib.hid (by rw [HST.out, sigStep_in _ _ _ H58.out, ← HTZ.out, HQ.out]), hs.into ((Below.refl _ _).alloc (Nat.le_refl _) _) ho5 hg5 ha5 g6 b6⟩, by simp [intOf]; omega⟩
       ·have hq : tz = 123 := by rw [HTY.out]; rfl
        have HQ := Lib.hid hq
        clear hq
        go_wp2_with (first | (with_reducible refine ix1 rfl 65 size_by under_by _ _ rfl Y 0 _ _ rfl _ rfl j rfl hlj ?_) | (with_reducible refine ld1 rfl 5 isAgg_u8 _ rfl _ rfl _ hcy ?_) | ((with_reducible refine load_w ?_ 34 isAgg_slint _ rfl _ _ rfl _ _ hs.blk _ rfl ?_); (focus rfl)) | (at_builtin; refine app_int1 rfl _ _ rfl i0 HI0.out HZ0.out HZ1.out HZ2.out x3.heap.size t ys 123 _ _ rfl (hs.out.alloc _) rfl (heap_alloc_new _ _) (by omega) (by have := hgs; simp; omega) ?_; intro v5 x5 ho5 hg5 ha5 hc5 h15; have hb5 := hs.blk2 ((Below.refl _ _).alloc (Nat.le_refl _) _) hg5 (fun k hk => (hs.out.lt k hk).1)) | (with_reducible refine store_fld rfl 34 size_slint _ _ rfl (wo.heap.size + 1) 4 rfl v5 rfl hc5 h15 _ _ hb5 (five_4 _ _ _ _ _) ?_; intro x6 g6 sz6 b6))
        exact ⟨⟨j + 1, true, xs, ys ++ [123], s, v5, by omega, by go_num, rfl, Lib.hid (by rw [HST.out, sigStep_out _ _ _ H58.out, ← HTZ.out, HQ.out]), hs.onto ((Below.refl _ _).alloc (Nat.le_refl _) _) ho5 hg5 ha5 g6 b6⟩, by simp [intOf]; omega⟩
       ·have hq : tz = 126 := by rw [HTY.out]; rfl
        have HQ := Lib.hid hq
        clear hq
        go_wp2_with (first | (with_reducible refine ix1 rfl 65 size_by under_by _ _ rfl Y 0 _ _ rfl _ rfl j rfl hlj ?_) | (with_reducible refine ld1 rfl 5 isAgg_u8 _ rfl _ rfl _ hcy ?_) | ((with_reducible refine load_w ?_ 34 isAgg_slint _ rfl _ _ rfl _ _ hs.blk _ rfl ?_); (focus rfl)) | (at_builtin; refine app_int1 rfl _ _ rfl i0 HI0.out HZ0.out HZ1.out HZ2.out x3.heap.size s xs 126 _ _ rfl (hs.inn.alloc _) rfl (heap_alloc_new _ _) (by omega) (by have := hgs; simp; omega) ?_; intro v5 x5 ho5 hg5 ha5 hc5 h15; have hb5 := hs.blk2 ((Below.refl _ _).alloc (Nat.le_refl _) _) hg5 (fun k hk => (hs.inn.lt k hk).1)) | (with_reducible refine store_fld rfl 34 size_slint _ _ rfl (wo.heap.size + 1) 3 rfl v5 rfl hc5 h15 _ _ hb5 (five_3 _ _ _ _ _) ?_; intro x6 g6 sz6 b6))
        exact ⟨⟨j + 1, false, xs ++ [126], ys, v5, t, by omega, by go_num, rfl, Lib.hid (by rw [HST.out, sigStep_in _ _ _ H58.out, ← HTZ.out, HQ.out]), hs.into ((Below.refl _ _).alloc (Nat.le_refl _) _) ho5 hg5 ha5 g6 b6⟩, by simp [intOf]; omega⟩
       ·have hq : tz = 126 := by rw [HTY.out]; rfl
        have HQ := Lib.hid hq
        clear hq
        go_wp2_with (first | (with_reducible refine ix1 rfl 65 size_by under_by _ _ rfl Y 0 _ _ rfl _ rfl j rfl hlj ?_) | (with_reducible refine ld1 rfl 5 isAgg_u8 _ rfl _ rfl _ hcy ?_) | ((with_reducible refine load_w ?_ 34 isAgg_slint _ rfl _ _ rfl _ _ hs.blk _ rfl ?_); (focus rfl)) | (at_builtin; refine app_int1 rfl _ _ rfl i0 HI0.out HZ0.out HZ1.out HZ2.out x3.heap.size t ys 126 _ _ rfl (hs.out.alloc _) rfl (heap_alloc_new _ _) (by omega) (by have := hgs; simp; omega) ?_; intro v5 x5 ho5 hg5 ha5 hc5 h15; have hb5 := hs.blk2 ((Below.refl _ _).alloc (Nat.le_refl _) _) hg5 (fun k hk => (hs.out.lt k hk).1)) | (with_reducible refine store_fld rfl 34 size_slint _ _ rfl (wo.heap.size + 1) 4 rfl v5 rfl hc5 h15 _ _ hb5 (five_4 _ _ _ _ _) ?_; intro x6 g6 sz6 b6))
        exact ⟨⟨j + 1, true, xs, ys ++ [126], s, v5, by omega, by go_num, rfl, Lib.hid (by rw [HST.out, sigStep_out _ _ _ H58.out, ← HTZ.out, HQ.out]), hs.onto ((Below.refl _ _).alloc (Nat.le_refl _) _) ho5 hg5 ha5 g6 b6⟩, by simp [intOf]; omega⟩
       ·have hq : tz = 126 := by rw [HTY.out]; rfl
        have HQ := Lib.hid hq
        clear hq
        go_wp2_with (first | (with_reducible refine ix1 rfl 65 size_by under_by _ _ rfl Y 0 _ _ rfl _ rfl j rfl hlj ?_) | (with_reducible refine ld1 rfl 5 isAgg_u8 _ rfl _ rfl _ hcy ?_) | ((with_reducible refine load_w ?_ 34 isAgg_slint _ rfl _ _ rfl _ _ hs.blk _ rfl ?_); (focus rfl)) | (at_builtin; refine app_int1 rfl _ _ rfl i0 HI0.out HZ0.out HZ1.out HZ2.out x3.heap.size s xs 126 _ _ rfl (hs.inn.alloc _) rfl (heap_alloc_new _ _) (by omega) (by have := hgs; simp; omega) ?_; intro v5 x5 ho5 hg5 ha5 hc5 h15; have hb5 := hs.blk2 ((Below.refl _ _).alloc (Nat.le_refl _) _) hg5 (fun k hk => (hs.inn.lt k hk).1)) | (with_reducible refine store_fld rfl 34 size_slint _ _ rfl (wo.heap.size + 1) 3 rfl v5 rfl hc5 h15 _ _ hb5 (five_3 _ _ _ _ _) ?_; intro x6 g6 sz6 b6))
        exact ⟨⟨j + 1, false, xs ++ [126], ys, v5, t, by omega, by go_num, rfl, Lib.hid (by rw [HST.out, sigStep_in _ _ _ H58.out, ← HTZ.out, HQ.out]), hs.into ((Below.refl _ _).alloc (Nat.le_refl _) _) ho5 hg5 ha5 g6 b6⟩, by simp [intOf]; omega⟩
       ·have hq : tz = 126 := by rw [HTY.out]; rfl
        have HQ := Lib.hid hq
        clear hq
        go_wp2_with (first | (with_reducible refine ix1 rfl 65 size_by under_by _ _ rfl Y 0 _ _ rfl _ rfl j rfl hlj ?_) | (with_reducible refine ld1 rfl 5 isAgg_u8 _ rfl _ rfl _ hcy ?_) | ((with_reducible refine load_w ?_ 34 isAgg_slint _ rfl _ _ rfl _ _ hs.blk _ rfl ?_); (focus rfl)) | (at_builtin; refine app_int1 rfl _ _ rfl i0 HI0.out HZ0.out HZ1.out HZ2.out x3.heap.size t ys 126 _ _ rfl (hs.out.alloc _) rfl (heap_alloc_new _ _) (by omega) (by have := hgs; simp; omega) ?_; intro v5 x5 ho5 hg5 ha5 hc5 h15; have hb5 := hs.blk2 ((Below.refl _ _).alloc (Nat.le_refl _) _) hg5 (fun k hk => (hs.out.lt k hk).1)) | (with_reducible refine store_fld rfl 34 size_slint _ _ rfl (wo.heap.size + 1) 4 rfl v5 rfl hc5 h15 _ _ hb5 (five_4 _ _ _ _ _) ?_; intro x6 g6 sz6 b6))
        exact ⟨⟨j + 1, true, xs, ys ++ [126], s, v5, by omega, by go_num, rfl, Lib.hid (by rw [HST.out, sigStep_out _ _ _ H58.out, ← HTZ.out, HQ.out]), hs.onto ((Below.refl _ _).alloc (Nat.le_refl _) _) ho5 hg5 ha5 g6 b6⟩, by simp [intOf]; omega⟩
     ·obtain rfl : j = r.sig.length := by omega
      have hRx : wr.heap[w.heap.size]? = some (.cells #[.int .i64 0, .int .i64 0, .bool false, .slice none 0 0, .slice none 0 0] 86 (0, 0)) := by
       rw [hs.grown.block _ (by have := block_lt hRr; have := hx4.size; omega) (fun e => by injection e with e; have := block_lt hRr; omega)]
       exact blk_keep hRr hx4
      have o1 := owns_one hs.inn
      have o2 := owns_one hs.out
      have hall : (#[Value.int .i64 r.form, .int .i64 r.lim, .bool !r.sig.isEmpty, s, t] : Array Value).all (·.oneCell') = true := by rw [← Array.all_toList]; show ([Value.int .i64 r.form, .int .i64 r.lim, .bool !r.sig.isEmpty, s, t].all (·.oneCell')) = true; rw [List.all_cons, List.all_cons, List.all_cons, List.all_cons, List.all_cons, o1.1, o2.1]; rfl
      have hbx : Below w.heap.size w wr := hbr.trans ((hx4.trans (grown_below (B := wo.heap.size) hs.grown (by have := hx4.size; omega) (fun g e => by injection e with e; omega))).mono hbr.size)
      go_wp2_with (first | (with_reducible refine load_info rfl _ rfl _ rfl _ _ _ _ _ hs.blk ?_) | (with_reducible refine store_info rfl _ _ rfl w.heap.size _ _ _ _ _ _ _ _ _ _ rfl rfl hRx hall ?_; intro x7 g7 b7))
      have hlW := block_lt hRx
      have hx0 : w.heap.size < x3.heap.size := by have := block_lt hRr; have := hx4.size; omega
      have ow : ∀ {v n l}, wr.ownsRow x3.heap.size 3 1 v n l → x7.ownsRow w.heap.size 3 1 v n l := fun h => owns_base (own_kept h g7 (fun k hk e => by injection e with e; have := (h.lt k hk).1; omega)) (by omega)
      have hsg := HS.out
      rw [List.take_length] at hsg
      exact bodyPost_ret (results_info_tmp rfl _ _ w.heap.size _ _ _ _ _ _ rfl rfl b7) rfl ⟨⟨⟨_, _, rfl, (fun h => by cases h), fun _ => ⟨i, r, _, s, t, HR2.out, HM.out.1, HM.out.2, HN.out, rfl, by rw [hsg]; exact ow hs.inn, by rw [hsg]; exact ow hs.out⟩⟩, _, _, _, _, _, _, rfl⟩, hbx.trans (grown_below g7 hbx.size (fun g e => by injection e with e; omega))⟩
   ·have hbY : ∀ x, Below W.heap.size W (wo.alloc x) := fun x => hwr.alloc hwr.size x
    have hnx : ∀ j, j < i + 1 → ∀ q, rowsV[j]? = some q → ¬ (q.fr ≤ op ∧ op ≤ q.to) := fun j hj q hq => by
     by_cases e : j = i
     ·subst e; rw [hr] at hq; injection hq with hq; subst hq; exact hm
     ·exact HN.out j (by omega) q hq
    have HX := Lib.hid hnx
    clear hnx
    by_cases hf : op < r.fr
    ·have hm1 : decide (op < r.fr) = true := by simp [hf]
     clear hm
     go_wp2_with (first | (with_reducible refine ix_row rfl _ _ rfl b _ _ rfl _ rfl i rfl hlt ?_) | (with_reducible refine load_row rfl _ rfl b i rfl _ hTab r hr ?_) | ((with_reducible refine load_w ?_ 3 isAgg_int _ rfl _ _ rfl _ _ bX _ rfl ?_); (focus rfl)))
     exact ⟨⟨i + 1, by omega, by go_num, HX.out, hbY _⟩, by simp [intOf]; omega⟩
    ·have hm1 : decide (op < r.fr) = false := by simp; omega
     have hm2 : decide (r.to < op) = true := by simp; omega
     clear hm
     go_wp2_with (first | (with_reducible refine ix_row rfl _ _ rfl b _ _ rfl _ rfl i rfl hlt ?_) | (with_reducible refine load_row rfl _ rfl b i rfl _ hTab r hr ?_) | ((with_reducible refine load_w ?_ 3 isAgg_int _ rfl _ _ rfl _ _ bX _ rfl ?_); (focus rfl)))
     exact ⟨⟨i + 1, by omega, by go_num, HX.out, hbY _⟩, by simp [intOf]; omega⟩
  ·obtain rfl : i = 66 := by omega
   have hall : (#[.int .i64 0, .int .i64 0, .bool false, .slice none 0 0, .slice none 0 0] : Array Value).all (·.oneCell') = true := by rw [← Array.all_toList]; rfl
   go_wp2_with (first | (with_reducible refine store_info rfl _ _ rfl w.heap.size _ _ _ _ _ _ _ _ _ _ rfl rfl hRr hall ?_; intro x4 hx4 bR))
   exact bodyPost_ret (results_info_tmp rfl _ _ w.heap.size _ _ _ _ _ _ rfl rfl bR) rfl ⟨⟨⟨_, _, rfl, fun _ => ⟨rfl, fun q hq => by obtain ⟨j, hj⟩ := List.getElem?_of_mem hq; exact HN.out j (by have := (List.getElem?_eq_some_iff.1 hj).1; exact this) q hj⟩, fun h => by cases h⟩, _, _, _, _, _, _, rfl⟩, hbr.trans (grown_below hx4 hbr.size (fun g e => by injection e with e; omega))⟩
set_option maxHeartbeats 4000000 in
set_option maxRecDepth 100000 in
theorem of_lo (op : Int) (w : World) (ho : -9223372036854775808 ≤ op ∧ op ≤ 9223372036854775807) (h : op < 64768) :
  Calls Tryz.prog 22 #[.int .i64 op] w fun e w' => OfIs w.heap.size rowsS op e w' ∧ Below w.heap.size w w' := by
 have HT := Lib.hid (fun j r h => tab_i64 rowsS (by decide) j r h)
 have HO := Lib.hid ho
 clear ho
 go_enter Tryz.func22, Tryz.ntmps22
 go_wp2_with (first
  | (go_at_call 76; refine (scalars_k _).mono ?_; rintro e w1 ⟨b1, rfl, hT1, hl1, hb1⟩)
  | (go_at_call 77; refine (vectors_k _).mono ?_; rintro e w2 ⟨b2, rfl, hT2, hl2, hb2⟩))
 have hR : w1.heap[w.heap.size]? = some (.cells #[.int .i64 0, .int .i64 0, .bool false, .slice none 0 0, .slice none 0 0] 86 (0, 0)) := ((hb1.block _ (by simp)).trans (heap_alloc_new _ _))
 have hbl : Below w.heap.size w w1 := ((Below.refl _ _).alloc (Nat.le_refl _) _).trans (hb1.mono (by simp))
 obtain ⟨W, hW⟩ : ∃ W, W = w1 := ⟨_, rfl⟩
 obtain ⟨b, hb⟩ : ∃ b, b = b1 := ⟨_, rfl⟩
 rw [← hW] at hT1 hR hbl
 rw [← hb] at hT1 ⊢
 rw [← hW]
 have hTab0 := hT1
 clear hW hb hT1 hl1 hb1
 go_loopw [18] (fun iv wr => ∃ i : Nat, i ≤ 42 ∧ iv = .int .i64 i ∧ (∀ j, j < i → ∀ q, rowsS[j]? = some q → ¬ (q.fr ≤ op ∧ op ≤ q.to)) ∧ Below W.heap.size W wr) (fun iv _ => 42 - (intOf iv).toNat)
 case atStart => exact ⟨0, Nat.zero_le _, rfl, fun j hj => absurd hj (Nat.not_lt_zero _), Below.refl _ _⟩
 case round =>
  obtain ⟨wo, hwo⟩ : ∃ x, x = wr := ⟨_, rfl⟩
  subst hwo
  obtain ⟨i, hi, rfl, hno, hwr⟩ := hrel
  have HN := Lib.hid hno
  clear hno
  have hTab := blk_keep hTab0 hwr
  have hRr := blk_keep hR hwr
  have hbr := below_next hbl (Nat.le_refl _) hwr
  by_cases hlt : i < 42
  ·obtain ⟨r, hr⟩ : ∃ r, rowsS[i]? = some r := ⟨_, List.getElem?_eq_getElem hlt⟩
   obtain ⟨t1, t2, t3, t4, t5⟩ := HT.out i r hr
   by_cases hm : r.fr ≤ op ∧ op ≤ r.to
   ·have hm1 : decide (op < r.fr) = false := by simp; omega
    have hm2 : decide (r.to < op) = false := by simp; omega
    have HM := Lib.hid hm
    clear hm
    have HR2 := Lib.hid hr
    go_wp2_with (first | (with_reducible refine ix_row rfl _ _ rfl b _ _ rfl _ rfl i rfl hlt ?_) | (with_reducible refine load_row rfl _ rfl b i rfl _ hTab r hr ?_) | ((with_reducible refine conv_str rfl _ rfl r.sig rfl ?_); intro Y cY x3 hY hx3 cellY lY) | ((with_reducible refine load_w ?_ 3 isAgg_int _ rfl _ _ rfl _ _ bX _ rfl ?_); (focus rfl)) | ((with_reducible refine load_w ?_ 9 isAgg_str _ rfl _ _ rfl _ _ bX _ rfl ?_); (focus rfl)))
    have hI0 : x3.heap[wo.heap.size + 1]? = some (.cells #[.int .i64 r.form, .int .i64 r.lim, .bool !r.sig.isEmpty, .slice none 0 0, .slice none 0 0] 86 (0, 0)) := (hx3.block _ (by simp)).trans (heap_alloc2_new _ _ _)
    have hx4 : Below wo.heap.size wo x3 := (((Below.refl _ _).alloc (Nat.le_refl _) _).alloc (by simp) _).trans (hx3.mono (by simp; omega))
    have hYI : Y ≠ wo.heap.size + 1 := by have := hY; simp at this; omega
    clear hx3 hY
    have CY := Lib.hid cellY
    clear cellY
    go_loopw [8, 44] (fun ov jv wr => ∃ (j : Nat) (ob : Bool) (xs ys : List Int) (s t : Value), j ≤ r.sig.length ∧ jv = .int .i64 j ∧ ov = .bool ob ∧ Hid (sigOf (r.sig.take j) = (ob, xs, ys)) ∧ InfoSt x3 (wo.heap.size + 1) r.form r.lim (!r.sig.isEmpty) s t xs ys wr) (fun _ jv _ => r.sig.length - (intOf jv).toNat)
    case atStart => exact ⟨0, false, [], [], _, _, Nat.zero_le _, rfl, rfl, Lib.hid rfl, InfoSt.start hI0⟩
    case round =>
     clear hI0
     obtain ⟨j, ob, xs, ys, s, t, hj, rfl, rfl, HS, hs⟩ := hrel
     obtain ⟨i0, hi0, hz0, hz1, hz2⟩ := info_parts intInfo
     have HZ0 := Lib.hid hz0
     have HZ1 := Lib.hid hz1
     have HZ2 := Lib.hid hz2
     have HI0 := Lib.hid hi0
     clear hi0 hz0 hz1 hz2
     by_cases hlj : j < r.sig.length
     ·have hcy : wr.cell? ⟨Y, 0 + j, none⟩ = some (.int .u8 (r.sig[j].toNat : Int)) := by
       rw [Nat.zero_add]
       have := CY.out j hlj
       unfold World.cell? at this ⊢
       rw [hs.keep lY hYI]
       exact this
      have hst := sigOf_take r.sig j hlj
      rw [HS.out] at hst
      have hlen := sigOf_len (r.sig.take j)
      rw [HS.out] at hlen
      simp only [List.length_take] at hlen
      obtain ⟨c, hc⟩ : ∃ c, c = r.sig[j] := ⟨_, rfl⟩
      rw [← hc] at hcy hst
      clear hc
      obtain ⟨cz, hcz⟩ : ∃ cz : Int, cz = (c.toNat : Int) := ⟨_, rfl⟩
      have hcr : 0 ≤ cz ∧ cz < 256 := by have := c.toNat_lt; omega
      rw [← hcz] at hcy
      have HCZ := Lib.hid hcz
      have HST := Lib.hid hst
      have hls := hs.lt
      have hgs := hs.grown.size
      clear hst hcz
      by_cases h58 : c = 58
      ·have q1 : cz = 58 := by rw [HCZ.out, h58]; rfl
       subst q1
       have H58 := Lib.hid h58
       clear h58
       go_wp2_with (first | (with_reducible refine ix1 rfl 65 size_by under_by _ _ rfl Y 0 _ _ rfl _ rfl j rfl hlj ?_) | (with_reducible refine ld1 rfl 5 isAgg_u8 _ rfl _ rfl _ hcy ?_))
       exact ⟨⟨j + 1, true, xs, ys, s, t, by omega, by go_num, rfl, Lib.hid (by rw [HST.out, H58.out]; exact sigStep_col _ _ _), hs⟩, by simp [intOf]; omega⟩
      ·have n58 : cz ≠ 58 := fun e => h58 (by apply UInt8.toNat_inj.1; have := HCZ.out; simp; omega)
       have q1 : (cz == 58) = false := by simp [n58]
       have H58 := Lib.hid h58
       clear h58 n58
       obtain ⟨tz, htz⟩ : ∃ tz, tz = tyOf c := ⟨_, rfl⟩
       have HTZ := Lib.hid htz
       clear htz
       obtain ⟨tb, htb⟩ : ∃ tb : Bool, tb = decide (c = 108) := ⟨_, rfl⟩
       obtain ⟨tv, htv⟩ : ∃ tv : Bool, tv = decide (c = 118) := ⟨_, rfl⟩
       have HTB := Lib.hid htb
       have HTV := Lib.hid htv
       clear htb htv
       have q2 : (cz == 108) = tb := by
        rw [HTB.out]
        by_cases h : c = 108
        ·rw [HCZ.out, h]; rfl
        ·have : cz ≠ 108 := fun e => h (by apply UInt8.toNat_inj.1; have := HCZ.out; simp; omega)
         simp [h, this]
       have q3 : (cz == 118) = tv := by
        rw [HTV.out]
        by_cases h : c = 118
        ·rw [HCZ.out, h]; rfl
        ·have : cz ≠ 118 := fun e => h (by apply UInt8.toNat_inj.1; have := HCZ.out; simp; omega)
         simp [h, this]
       have hty : tz = if tb = true then 126 else if tv = true then 123 else 127 := by rw [HTZ.out, HTB.out, HTV.out]; unfold tyOf; simp
       have HTY := Lib.hid hty
       clear hty
       rcases tb with _ | _ <;> rcases tv with _ | _ <;> rcases ob with _ | _
       ·have hq : tz = 127 := by rw [HTY.out]; rfl
        have HQ := Lib.hid hq
        clear hq
        go_wp2_with (first | (with_reducible refine ix1 rfl 65 size_by under_by _ _ rfl Y 0 _ _ rfl _ rfl j rfl hlj ?_) | (with_reducible refine ld1 rfl 5 isAgg_u8 _ rfl _ rfl _ hcy ?_) | ((with_reducible refine load_w ?_ 34 isAgg_slint _ rfl _ _ rfl _ _ hs.blk _ rfl ?_); (focus rfl)) | (at_builtin; refine app_int1 rfl _ _ rfl i0 HI0.out HZ0.out HZ1.out HZ2.out x3.heap.size s xs 127 _ _ rfl (hs.inn.alloc _) rfl (heap_alloc_new _ _) (by omega) (by have := hgs; simp; omega) ?_; intro v5 x5 ho5 hg5 ha5 hc5 h15; have hb5 := hs.blk2 ((Below.refl _ _).alloc (Nat.le_refl _) _) hg5 (fun k hk => (hs.inn.lt k hk).1)) | (with_reducible refine store_fld rfl 34 size_slint _ _ rfl (wo.heap.size + 1) 3 rfl v5 rfl hc5 h15 _ _ hb5 (five_3 _ _ _ _ _) ?_; intro x6 g6 sz6 b6))
        exact ⟨⟨j + 1, false, xs ++ [127], ys, v5, t, by omega, by go_num, rfl, Lib.hid (by rw [HST.out, sigStep_in _ _ _ H58.out, ← HTZ.out, HQ.out]), hs.into ((Below.refl _ _).alloc (Nat.le_refl _) _) ho5 hg5 ha5 g6 b6⟩, by simp [intOf]; omega⟩
       ·have hq : tz = 127 := by rw [HTY.out]; rfl
        have HQ := Lib.hid hq
        clear hq
        go_wp2_with (first | (with_reducible refine ix1 rfl 65 size_by under_by _ _ rfl Y 0 _ _ rfl _ rfl j rfl hlj ?_) | (with_reducible refine ld1 rfl 5 isAgg_u8 _ rfl _ rfl _ hcy ?_) | ((with_reducible refine load_w ?_ 34 isAgg_slint _ rfl _ _ rfl _ _ hs.blk _ rfl ?_); (focus rfl)) | (at_builtin; refine app_int1 rfl _ _ rfl i0 HI0.out HZ0.out HZ1.out HZ2.out x3.heap.size t ys 127 _ _ rfl (hs.out.alloc _) rfl (heap_alloc_new _ _) (by omega) (by have := hgs; simp; omega) ?_; intro v5 x5 ho5 hg5 ha5 hc5 h15; have hb5 := hs.blk2 ((Below.refl _ _).alloc (Nat.le_refl _) _) hg5 (fun k hk => (hs.out.lt k hk).1)) | (with_reducible refine store_fld rfl 34 size_slint _ _ rfl (wo.heap.size + 1) 4 rfl v5 rfl hc5 h15 _ _ hb5 (five_4 _ _ _ _ _) ?_; intro x6 g6 sz6 b6))
        exact ⟨⟨j + 1, true, xs, ys ++ [127], s, v5, by omega, by go_num, rfl, Lib.hid (by rw [HST.out, sigStep_out _ _ _ H58.out, ← HTZ.out, HQ.out]), hs.onto ((Below.refl _ _).alloc (Nat.le_refl _) _) ho5 hg5 ha5 g6 b6⟩, by simp [intOf]; omega⟩
       ·have hq : tz = 123 := by rw [HTY.out]; rfl
        have HQ := Lib.hid hq
        clear hq
        go_wp2_with (first | (with_reducible refine ix1 rfl 65 size_by under_by _ _ rfl Y 0 _ _ rfl _ rfl j rfl hlj ?_) | (with_reducible refine ld1 rfl 5 isAgg_u8 _ rfl _ rfl _ hcy ?_) | ((with_reducible refine load_w ?_ 34 isAgg_slint _ rfl _ _ rfl _ _ hs.blk _ rfl ?_); (focus rfl)) | (at_builtin; refine app_int1 rfl _ _ rfl i0 HI0.out HZ0.out HZ1.out HZ2.out x3.heap.size s xs 123 _ _ rfl (hs.inn.alloc _) rfl (heap_alloc_new _ _) (by omega) (by have := hgs; simp; omega) ?_; intro v5 x5 ho5 hg5 ha5 hc5 h15; have hb5 := hs.blk2 ((Below.refl _ _).alloc (Nat.le_refl _) _) hg5 (fun k hk => (hs.inn.lt k hk).1)) | (with_reducible refine store_fld rfl 34 size_slint _ _ rfl (wo.heap.size + 1) 3 rfl v5 rfl hc5 h15 _ _ hb5 (five_3 _ _ _ _ _) ?_; intro x6 g6 sz6 b6))
        exact ⟨⟨j + 1, false, xs ++ [123], ys, v5, t, by omega, by go_num, rfl, Lib.hid (by rw [HST.out, sigStep_in _ _ _ H58.out, ← HTZ.out, HQ.out]), hs.into ((Below.refl _ _).alloc (Nat.le_refl _) _) ho5 hg5 ha5 g6 b6⟩, by simp [intOf]; omega⟩
       ·have hq : tz = 123 := by rw [HTY.out]; rfl
        have HQ := Lib.hid hq
        clear hq
        go_wp2_with (first | (with_reducible refine ix1 rfl 65 size_by under_by _ _ rfl Y 0 _ _ rfl _ rfl j rfl hlj ?_) | (with_reducible refine ld1 rfl 5 isAgg_u8 _ rfl _ rfl _ hcy ?_) | ((with_reducible refine load_w ?_ 34 isAgg_slint _ rfl _ _ rfl _ _ hs.blk _ rfl ?_); (focus rfl)) | (at_builtin; refine app_int1 rfl _ _ rfl i0 HI0.out HZ0.out HZ1.out HZ2.out x3.heap.size t ys 123 _ _ rfl (hs.out.alloc _) rfl (heap_alloc_new _ _) (by omega) (by have := hgs; simp; omega) ?_; intro v5 x5 ho5 hg5 ha5 hc5 h15; have hb5 := hs.blk2 ((Below.refl _ _).alloc (Nat.le_refl _) _) hg5 (fun k hk => (hs.out.lt k hk).1)) | (with_reducible refine store_fld rfl 34 size_slint _ _ rfl (wo.heap.size + 1) 4 rfl v5 rfl hc5 h15 _ _ hb5 (five_4 _ _ _ _ _) ?_; intro x6 g6 sz6 b6))
        exact ⟨⟨j + 1, true, xs, ys ++ [123], s, v5, by omega, by go_num, rfl, Lib.hid (by rw [HST.out, sigStep_out _ _ _ H58.out, ← HTZ.out, HQ.out]), hs.onto ((Below.refl _ _).alloc (Nat.le_refl _) _) ho5 hg5 ha5 g6 b6⟩, by simp [intOf]; omega⟩
       ·have hq : tz = 126 := by rw [HTY.out]; rfl
        have HQ := Lib.hid hq
        clear hq
        go_wp2_with (first | (with_reducible refine ix1 rfl 65 size_by under_by _ _ rfl Y 0 _ _ rfl _ rfl j rfl hlj ?_) | (with_reducible refine ld1 rfl 5 isAgg_u8 _ rfl _ rfl _ hcy ?_) | ((with_reducible refine load_w ?_ 34 isAgg_slint _ rfl _ _ rfl _ _ hs.blk _ rfl ?_); (focus rfl)) | (at_builtin; refine app_int1 rfl _ _ rfl i0 HI0.out HZ0.out HZ1.out HZ2.out x3.heap.size s xs 126 _ _ rfl (hs.inn.alloc _) rfl (heap_alloc_new _ _) (by omega) (by have := hgs; simp; omega) ?_; intro v5 x5 ho5 hg5 ha5 hc5 h15; have hb5 := hs.blk2 ((Below.refl _ _).alloc (Nat.le_refl _) _) hg5 (fun k hk => (hs.inn.lt k hk).1)) | (with_reducible refine store_fld rfl 34 size_slint _ _ rfl (wo.heap.size + 1) 3 rfl v5 rfl hc5 h15 _ _ hb5 (five_3 _ _ _ _ _) ?_; intro x6 g6 sz6 b6))
        exact ⟨⟨j + 1, false, xs ++ [126], ys, v5, t, by omega, by go_num, rfl, Lib.hid (by rw [HST.out, sigStep_in _ _ _ H58.out, ← HTZ.out, HQ.out]), hs.into ((Below.refl _ _).alloc (Nat.le_refl _) _) ho5 hg5 ha5 g6 b6⟩, by simp [intOf]; omega⟩
       ·have hq : tz = 126 := by rw [HTY.out]; rfl
        have HQ := Lib.hid hq
        clear hq
        go_wp2_with (first | (with_reducible refine ix1 rfl 65 size_by under_by _ _ rfl Y 0 _ _ rfl _ rfl j rfl hlj ?_) | (with_reducible refine ld1 rfl 5 isAgg_u8 _ rfl _ rfl _ hcy ?_) | ((with_reducible refine load_w ?_ 34 isAgg_slint _ rfl _ _ rfl _ _ hs.blk _ rfl ?_); (focus rfl)) | (at_builtin; refine app_int1 rfl _ _ rfl i0 HI0.out HZ0.out HZ1.out HZ2.out x3.heap.size t ys 126 _ _ rfl (hs.out.alloc _) rfl (heap_alloc_new _ _) (by omega) (by have := hgs; simp; omega) ?_; intro v5 x5 ho5 hg5 ha5 hc5 h15; have hb5 := hs.blk2 ((Below.refl _ _).alloc (Nat.le_refl _) _) hg5 (fun k hk => (hs.out.lt k hk).1)) | (with_reducible refine store_fld rfl 34 size_slint _ _ rfl (wo.heap.size + 1) 4 rfl v5 rfl hc5 h15 _ _ hb5 (five_4 _ _ _ _ _) ?_; intro x6 g6 sz6 b6))
        exact ⟨⟨j + 1, true, xs, ys ++ [126], s, v5, by omega, by go_num, rfl, Lib.hid (by rw [HST.out, sigStep_out _ _ _ H58.out, ← HTZ.out, HQ.out]), hs.onto ((Below.refl _ _).alloc (Nat.le_refl _) _) ho5 hg5 ha5 g6 b6⟩, by simp [intOf]; omega⟩
       ·have hq : tz = 126 := by rw [HTY.out]; rfl
        have HQ := Lib.hid hq
        clear hq
        go_wp2_with (first | (with_reducible refine ix1 rfl 65 size_by under_by _ _ rfl Y 0 _ _ rfl _ rfl j rfl hlj ?_) | (with_reducible refine ld1 rfl 5 isAgg_u8 _ rfl _ rfl _ hcy ?_) | ((with_reducible refine load_w ?_ 34 isAgg_slint _ rfl _ _ rfl _ _ hs.blk _ rfl ?_); (focus rfl)) | (at_builtin; refine app_int1 rfl _ _ rfl i0 HI0.out HZ0.out HZ1.out HZ2.out x3.heap.size s xs 126 _ _ rfl (hs.inn.alloc _) rfl (heap_alloc_new _ _) (by omega) (by have := hgs; simp; omega) ?_; intro v5 x5 ho5 hg5 ha5 hc5 h15; have hb5 := hs.blk2 ((Below.refl _ _).alloc (Nat.le_refl _) _) hg5 (fun k hk => (hs.inn.lt k hk).1)) | (with_reducible refine store_fld rfl 34 size_slint _ _ rfl (wo.heap.size + 1) 3 rfl v5 rfl hc5 h15 _ _ hb5 (five_3 _ _ _ _ _) ?_; intro x6 g6 sz6 b6))
        exact ⟨⟨j + 1, false, xs ++ [126], ys, v5, t, by omega, by go_num, rfl, Lib.hid (by rw [HST.out, sigStep_in _ _ _ H58.out, ← HTZ.out, HQ.out]), hs.into ((Below.refl _ _).alloc (Nat.le_refl _) _) ho5 hg5 ha5 g6 b6⟩, by simp [intOf]; omega⟩
       ·have hq : tz = 126 := by rw [HTY.out]; rfl
        have HQ := Lib.hid hq
        clear hq
        go_wp2_with (first | (with_reducible refine ix1 rfl 65 size_by under_by _ _ rfl Y 0 _ _ rfl _ rfl j rfl hlj ?_) | (with_reducible refine ld1 rfl 5 isAgg_u8 _ rfl _ rfl _ hcy ?_) | ((with_reducible refine load_w ?_ 34 isAgg_slint _ rfl _ _ rfl _ _ hs.blk _ rfl ?_); (focus rfl)) | (at_builtin; refine app_int1 rfl _ _ rfl i0 HI0.out HZ0.out HZ1.out HZ2.out x3.heap.size t ys 126 _ _ rfl (hs.out.alloc _) rfl (heap_alloc_new _ _) (by omega) (by have := hgs; simp; omega) ?_; intro v5 x5 ho5 hg5 ha5 hc5 h15; have hb5 := hs.blk2 ((Below.refl _ _).alloc (Nat.le_refl _) _) hg5 (fun k hk => (hs.out.lt k hk).1)) | (with_reducible refine store_fld rfl 34 size_slint _ _ rfl (wo.heap.size + 1) 4 rfl v5 rfl hc5 h15 _ _ hb5 (five_4 _ _ _ _ _) ?_; intro x6 g6 sz6 b6))
        exact ⟨⟨j + 1, true, xs, ys ++ [126], s, v5, by omega, by go_num, rfl, Lib.hid (by rw [HST.out, sigStep_out _ _ _ H58.out, ← HTZ.out, HQ.out]), hs.onto ((Below.refl _ _).alloc (Nat.le_refl _) _) ho5 hg5 ha5 g6 b6⟩, by simp [intOf]; omega⟩
     ·obtain rfl : j = r.sig.length := by omega
      have hRx : wr.heap[w.heap.size]? = some (.cells #[.int .i64 0, .int .i64 0, .bool false, .slice none 0 0, .slice none 0 0] 86 (0, 0)) := by
       rw [hs.grown.block _ (by have := block_lt hRr; have := hx4.size; omega) (fun e => by injection e with e; have := block_lt hRr; omega)]
       exact blk_keep hRr hx4
      have o1 := owns_one hs.inn
      have o2 := owns_one hs.out
      have hall : (#[Value.int .i64 r.form, .int .i64 r.lim, .bool !r.sig.isEmpty, s, t] : Array Value).all (·.oneCell') = true := by rw [← Array.all_toList]; show ([Value.int .i64 r.form, .int .i64 r.lim, .bool !r.sig.isEmpty, s, t].all (·.oneCell')) = true; rw [List.all_cons, List.all_cons, List.all_cons, List.all_cons, List.all_cons, o1.1, o2.1]; rfl
      have hbx : Below w.heap.size w wr := hbr.trans ((hx4.trans (grown_below (B := wo.heap.size) hs.grown (by have := hx4.size; omega) (fun g e => by injection e with e; omega))).mono hbr.size)
      go_wp2_with (first | (with_reducible refine load_info rfl _ rfl _ rfl _ _ _ _ _ hs.blk ?_) | (with_reducible refine store_info rfl _ _ rfl w.heap.size _ _ _ _ _ _ _ _ _ _ rfl rfl hRx hall ?_; intro x7 g7 b7))
      have hlW := block_lt hRx
      have hx0 : w.heap.size < x3.heap.size := by have := block_lt hRr; have := hx4.size; omega
      have ow : ∀ {v n l}, wr.ownsRow x3.heap.size 3 1 v n l → x7.ownsRow w.heap.size 3 1 v n l := fun h => owns_base (own_kept h g7 (fun k hk e => by injection e with e; have := (h.lt k hk).1; omega)) (by omega)
      have hsg := HS.out
      rw [List.take_length] at hsg
      exact bodyPost_ret (results_info_tmp rfl _ _ w.heap.size _ _ _ _ _ _ rfl rfl b7) rfl ⟨⟨⟨_, _, rfl, (fun h => by cases h), fun _ => ⟨i, r, _, s, t, HR2.out, HM.out.1, HM.out.2, HN.out, rfl, by rw [hsg]; exact ow hs.inn, by rw [hsg]; exact ow hs.out⟩⟩, _, _, _, _, _, _, rfl⟩, hbx.trans (grown_below g7 hbx.size (fun g e => by injection e with e; omega))⟩
   ·have hbY : ∀ x, Below W.heap.size W (wo.alloc x) := fun x => hwr.alloc hwr.size x
    have hnx : ∀ j, j < i + 1 → ∀ q, rowsS[j]? = some q → ¬ (q.fr ≤ op ∧ op ≤ q.to) := fun j hj q hq => by
     by_cases e : j = i
     ·subst e; rw [hr] at hq; injection hq with hq; subst hq; exact hm
     ·exact HN.out j (by omega) q hq
    have HX := Lib.hid hnx
    clear hnx
    by_cases hf : op < r.fr
    ·have hm1 : decide (op < r.fr) = true := by simp [hf]
     clear hm
     go_wp2_with (first | (with_reducible refine ix_row rfl _ _ rfl b _ _ rfl _ rfl i rfl hlt ?_) | (with_reducible refine load_row rfl _ rfl b i rfl _ hTab r hr ?_) | ((with_reducible refine load_w ?_ 3 isAgg_int _ rfl _ _ rfl _ _ bX _ rfl ?_); (focus rfl)))
     exact ⟨⟨i + 1, by omega, by go_num, HX.out, hbY _⟩, by simp [intOf]; omega⟩
    ·have hm1 : decide (op < r.fr) = false := by simp; omega
     have hm2 : decide (r.to < op) = true := by simp; omega
     clear hm
     go_wp2_with (first | (with_reducible refine ix_row rfl _ _ rfl b _ _ rfl _ rfl i rfl hlt ?_) | (with_reducible refine load_row rfl _ rfl b i rfl _ hTab r hr ?_) | ((with_reducible refine load_w ?_ 3 isAgg_int _ rfl _ _ rfl _ _ bX _ rfl ?_); (focus rfl)))
     exact ⟨⟨i + 1, by omega, by go_num, HX.out, hbY _⟩, by simp [intOf]; omega⟩
  ·obtain rfl : i = 42 := by omega
   have hall : (#[.int .i64 0, .int .i64 0, .bool false, .slice none 0 0, .slice none 0 0] : Array Value).all (·.oneCell') = true := by rw [← Array.all_toList]; rfl
   go_wp2_with (first | (with_reducible refine store_info rfl _ _ rfl w.heap.size _ _ _ _ _ _ _ _ _ _ rfl rfl hRr hall ?_; intro x4 hx4 bR))
   exact bodyPost_ret (results_info_tmp rfl _ _ w.heap.size _ _ _ _ _ _ rfl rfl bR) rfl ⟨⟨⟨_, _, rfl, fun _ => ⟨rfl, fun q hq => by obtain ⟨j, hj⟩ := List.getElem?_of_mem hq; exact HN.out j (by have := (List.getElem?_eq_some_iff.1 hj).1; exact this) q hj⟩, fun h => by cases h⟩, _, _, _, _, _, _, rfl⟩, hbr.trans (grown_below hx4 hbr.size (fun g e => by injection e with e; omega))⟩
def rowsOf (op : Int) : List Row := if 64768 ≤ op then rowsV else rowsS
theorem of_any (op : Int) (w : World) (ho : -9223372036854775808 ≤ op ∧ op ≤ 9223372036854775807) :
  Calls Tryz.prog 22 #[.int .i64 op] w fun e w' => OfIs w.heap.size (rowsOf op) op e w' ∧ Below w.heap.size w w' := by
 unfold rowsOf
 by_cases h : 64768 ≤ op
 ·rw [if_pos h]; exact of_hi op w ho h
 ·rw [if_neg h]; exact of_lo op w ho (by omega)
end Go.Proofs.YtebpijlmeemfaaaGreatDoor
end
