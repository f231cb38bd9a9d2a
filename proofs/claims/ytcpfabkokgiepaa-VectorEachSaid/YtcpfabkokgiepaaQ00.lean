/-
  Names for repeated steps.
-/
import Derived.Carry
import Derived.ChangeKeysEq
import Derived.Deep.MidRow
import Derived.Handy
import Derived.Lib.Hide
import Derived.OpenShut
import Derived.ProofKit
import Derived.StillTail
import Derived.Test.YtcpfabkokgiepaaRows
import Derived.WalkKit
import Derived.WalkLawsBesides
import Derived.WalkSpells
set_option linter.unusedSimpArgs false
set_option linter.unusedVariables false
set_option maxHeartbeats 8000000
namespace Pl
open Go Go.RowKit
theorem z5 {α : Type _} {l : List α} {i : Nat} {a : α} : l.toArray.setIfInBounds i a = (l.set i a).toArray := List.setIfInBounds_toArray ..
theorem z6 {α : Type _} {a b : α} {l : List α} : (a :: l).set 0 b = b :: l := List.set_cons_zero
theorem z7 {α : Type _} {a b : α} {n : Nat} {l : List α} : (a :: l).set (n + 1) b = a :: l.set n b := List.set_cons_succ
theorem zP {α : Type _} {a : α} {l : List α} {i : Nat} : (a :: l).take (i + 1) = a :: l.take i := List.take_succ_cons
theorem zN {α : Type _} {l : List α} : l.take 0 = [] := List.take_zero
theorem zM {α : Type _} {a : α} {l : List α} {i : Nat} : (a :: l).drop (i + 1) = l.drop i := List.drop_succ_cons
theorem zL {α : Type _} {l : List α} : l.drop 0 = l := List.drop_zero
theorem xK {p : Prop} (h : p := by
 have hR' := hs.kb.get hR (by omega)
 go_wp2_with (first | (with_reducible refine mG rfl _ rfl _ rfl _ hs.this ?_) | (with_reducible refine mK rfl _ _ rfl (w.heap.size + 1) _ rfl rfl _ hR' ?_; intro wq hq))
 exact bodyPost_ret (mS rfl _ _ (w.heap.size + 1) _ _ rfl rfl hq.this) rfl ⟨rfl, (hs.kb.to_below hZ (by omega)).trans (hq.below.mono (by omega))⟩) : p := h
theorem xG {p : Prop} (h : p := by
 have hm1 : decide (op < r.fr) = false := by simp; omega
 have hm2 : decide (r.to < op) = false := by simp; omega
 have HM := Lib.hid hm
 clear hm
 have HR2 := Lib.hid hr
 go_wp2_with (first | (with_reducible refine ix_row rfl _ _ rfl b _ _ rfl _ rfl i rfl hlt ?_) | (with_reducible refine load_row rfl _ rfl b i rfl _ hTab r hr ?_) | ((with_reducible refine conv_str rfl _ rfl r.sig rfl ?_); intro Y cY x3 hY hx3 cellY lY) | ((with_reducible refine t8 ?_ 3 mM _ rfl _ _ rfl _ _ bX _ rfl ?_); (focus rfl)) | ((with_reducible refine t8 ?_ 9 vQ _ rfl _ _ rfl _ _ bX _ rfl ?_); (focus rfl)))
 have hI0 : x3.heap[wo.heap.size + 1]? = some (.cells #[.int .i64 r.form, .int .i64 r.lim, .bool !r.sig.isEmpty, .slice none 0 0, .slice none 0 0] 40 (0, 0)) := (hx3.block _ (by simp)).trans (heap_alloc2_new _ _ _)
 have hx4 : Below wo.heap.size wo x3 := (((Below.refl _ _).alloc (Nat.le_refl _) _).alloc (by simp) _).trans (hx3.mono (by simp; omega))
 have hYI : Y ≠ wo.heap.size + 1 := by have := hY; simp at this; omega
 clear hx3 hY
 have CY := Lib.hid cellY
 clear cellY
 go_loopw [8, 44] (fun ov jv wr => ∃ (j : Nat) (ob : Bool) (xs ys : List Int) (s t : Value), j ≤ r.sig.length ∧ jv = .int .i64 j ∧ ov = .bool ob ∧ Hid (fY (r.sig.take j) = (ob, xs, ys)) ∧ InfoSt x3 (wo.heap.size + 1) r.form r.lim (!r.sig.isEmpty) s t xs ys wr) (fun _ jv _ => r.sig.length - (intOf jv).toNat)
 case atStart => exact ⟨0, false, [], [], _, _, Nat.zero_le _, rfl, rfl, Lib.hid rfl, InfoSt.start hI0⟩
 case round =>
  clear hI0
  obtain ⟨j, ob, xs, ys, s, t, hj, rfl, rfl, HS, hs⟩ := hrel
  obtain ⟨i0, hi0, hz0, hz1, hz2⟩ := info_parts intInfo
  have HZ0 := Lib.hid hz0
  have HZ1 := Lib.hid hz1
  have HZ2 := Lib.hid hz2
  have HI0 := Lib.hid hi0
  clear hi0 hz0 hz1 hz2
  by_cases hlj : j < r.sig.length
  ·have hcy : wr.cell? ⟨Y, 0 + j, none⟩ = some (.int .u8 (r.sig[j].toNat : Int)) := by
    rw [Nat.zero_add]
    have := CY.out j hlj
    unfold World.cell? at this ⊢
    rw [hs.keep lY hYI]
    exact this
   have hst := sigOf_take r.sig j hlj
   rw [HS.out] at hst
   have hlen := sigOf_len (r.sig.take j)
   rw [HS.out] at hlen
   simp only [List.length_take] at hlen
   obtain ⟨c, hc⟩ : ∃ c, c = r.sig[j] := ⟨_, rfl⟩
   rw [← hc] at hcy hst
   clear hc
   obtain ⟨cz, hcz⟩ : ∃ cz : Int, cz = (c.toNat : Int) := ⟨_, rfl⟩
   have hcr : 0 ≤ cz ∧ cz < 256 := by have := c.toNat_lt; omega
   rw [← hcz] at hcy
   have HCZ := Lib.hid hcz
   have HST := Lib.hid hst
   have hls := hs.lt
   have hgs := hs.grown.size
   clear hst hcz
   by_cases h58 : c = 58
   ·have q1 : cz = 58 := by rw [HCZ.out, h58]; rfl
    subst q1
    have H58 := Lib.hid h58
    clear h58
    go_wp2_with (first | (with_reducible refine ix1 rfl 80 dR fE _ _ rfl Y 0 _ _ rfl _ rfl j rfl hlj ?_) | (with_reducible refine ld1 rfl 5 e9 _ rfl _ rfl _ hcy ?_))
    exact ⟨⟨j + 1, true, xs, ys, s, t, by omega, by go_num, rfl, Lib.hid (by rw [HST.out, H58.out]; exact sigStep_col _ _ _), hs⟩, by simp [intOf]; omega⟩
   ·have n58 : cz ≠ 58 := fun e => h58 (by apply UInt8.toNat_inj.1; have := HCZ.out; simp; omega)
    have q1 : (cz == 58) = false := by simp [n58]
    have H58 := Lib.hid h58
    clear h58 n58
    obtain ⟨tz, htz⟩ : ∃ tz, tz = tyOf c := ⟨_, rfl⟩
    have HTZ := Lib.hid htz
    clear htz
    obtain ⟨tb, htb⟩ : ∃ tb : Bool, tb = decide (c = 108) := ⟨_, rfl⟩
    obtain ⟨tv, htv⟩ : ∃ tv : Bool, tv = decide (c = 118) := ⟨_, rfl⟩
    have HTB := Lib.hid htb
    have HTV := Lib.hid htv
    clear htb htv
    have q2 : (cz == 108) = tb := by
     rw [HTB.out]
     by_cases h : c = 108
     ·rw [HCZ.out, h]; rfl
     ·have : cz ≠ 108 := fun e => h (by apply UInt8.toNat_inj.1; have := HCZ.out; simp; omega)
      simp [h, this]
    have q3 : (cz == 118) = tv := by
     rw [HTV.out]
     by_cases h : c = 118
     ·rw [HCZ.out, h]; rfl
     ·have : cz ≠ 118 := fun e => h (by apply UInt8.toNat_inj.1; have := HCZ.out; simp; omega)
      simp [h, this]
    have hty : tz = if tb = true then 126 else if tv = true then 123 else 127 := by rw [HTZ.out, HTB.out, HTV.out]; unfold tyOf; simp
    have HTY := Lib.hid hty
    clear hty
    rcases tb with _ | _ <;> rcases tv with _ | _ <;> rcases ob with _ | _
    ·have hq : tz = 127 := by rw [HTY.out]; rfl
     have HQ := Lib.hid hq
     clear hq
     go_wp2_with (first | (with_reducible refine ix1 rfl 80 dR fE _ _ rfl Y 0 _ _ rfl _ rfl j rfl hlj ?_) | (with_reducible refine ld1 rfl 5 e9 _ rfl _ rfl _ hcy ?_) | ((with_reducible refine t8 ?_ 23 tP _ rfl _ _ rfl _ _ hs.blk _ rfl ?_); (focus rfl)) | (at_builtin; refine uM rfl _ _ rfl i0 HI0.out HZ0.out HZ1.out HZ2.out x3.heap.size s xs 127 _ _ rfl (hs.inn.alloc _) rfl (heap_alloc_new _ _) (by omega) (by have := hgs; simp; omega) ?_; intro v5 x5 ho5 hg5 ha5 hc5 h15; have hb5 := hs.blk2 ((Below.refl _ _).alloc (Nat.le_refl _) _) hg5 (fun k hk => (hs.inn.lt k hk).1)) | (with_reducible refine rP rfl 23 sK _ _ rfl (wo.heap.size + 1) 3 rfl v5 rfl hc5 h15 _ _ hb5 (five_3 _ _ _ _ _) ?_; intro x6 g6 sz6 b6))
     exact ⟨⟨j + 1, false, xs ++ [127], ys, v5, t, by omega, by go_num, rfl, Lib.hid (by rw [HST.out, sigStep_in _ _ _ H58.out, ← HTZ.out, HQ.out]), hs.into ((Below.refl _ _).alloc (Nat.le_refl _) _) ho5 hg5 ha5 g6 b6⟩, by simp [intOf]; omega⟩
    ·have hq : tz = 127 := by rw [HTY.out]; rfl
     have HQ := Lib.hid hq
     clear hq
     go_wp2_with (first | (with_reducible refine ix1 rfl 80 dR fE _ _ rfl Y 0 _ _ rfl _ rfl j rfl hlj ?_) | (with_reducible refine ld1 rfl 5 e9 _ rfl _ rfl _ hcy ?_) | ((with_reducible refine t8 ?_ 23 tP _ rfl _ _ rfl _ _ hs.blk _ rfl ?_); (focus rfl)) | (at_builtin; refine uM rfl _ _ rfl i0 HI0.out HZ0.out HZ1.out HZ2.out x3.heap.size t ys 127 _ _ rfl (hs.out.alloc _) rfl (heap_alloc_new _ _) (by omega) (by have := hgs; simp; omega) ?_; intro v5 x5 ho5 hg5 ha5 hc5 h15; have hb5 := hs.blk2 ((Below.refl _ _).alloc (Nat.le_refl _) _) hg5 (fun k hk => (hs.out.lt k hk).1)) | (with_reducible refine rP rfl 23 sK _ _ rfl (wo.heap.size + 1) 4 rfl v5 rfl hc5 h15 _ _ hb5 (five_4 _ _ _ _ _) ?_; intro x6 g6 sz6 b6))
     exact ⟨⟨j + 1, true, xs, ys ++ [127], s, v5, by omega, by go_num, rfl, Lib.hid (by rw [HST.out, sigStep_out _ _ _ H58.out, ← HTZ.out, HQ.out]), hs.onto ((Below.refl _ _).alloc (Nat.le_refl _) _) ho5 hg5 ha5 g6 b6⟩, by simp [intOf]; omega⟩
    ·have hq : tz = 123 := by rw [HTY.out]; rfl
     have HQ := Lib.hid hq
     clear hq
     go_wp2_with (first | (with_reducible refine ix1 rfl 80 dR fE _ _ rfl Y 0 _ _ rfl _ rfl j rfl hlj ?_) | (with_reducible refine ld1 rfl 5 e9 _ rfl _ rfl _ hcy ?_) | ((with_reducible refine t8 ?_ 23 tP _ rfl _ _ rfl _ _ hs.blk _ rfl ?_); (focus rfl)) | (at_builtin; refine uM rfl _ _ rfl i0 HI0.out HZ0.out HZ1.out HZ2.out x3.heap.size s xs 123 _ _ rfl (hs.inn.alloc _) rfl (heap_alloc_new _ _) (by omega) (by have := hgs; simp; omega) ?_; intro v5 x5 ho5 hg5 ha5 hc5 h15; have hb5 := hs.blk2 ((Below.refl _ _).alloc (Nat.le_refl _) _) hg5 (fun k hk => (hs.inn.lt k hk).1)) | (with_reducible refine rP rfl 23 sK _ _ rfl (wo.heap.size + 1) 3 rfl v5 rfl hc5 h15 _ _ hb5 (five_3 _ _ _ _ _) ?_; intro x6 g6 sz6 b6))
     exact ⟨⟨j + 1, false, xs ++ [123], ys, v5, t, by omega, by go_num, rfl, Lib.hid (by rw [HST.out, sigStep_in _ _ _ H58.out, ← HTZ.out, HQ.out]), hs.into ((Below.refl _ _).alloc (Nat.le_refl _) _) ho5 hg5 ha5 g6 b6⟩, by simp [intOf]; omega⟩
    ·have hq : tz = 123 := by rw [HTY.out]; rfl
     have HQ := Lib.hid hq
     clear hq
     go_wp2_with (first | (with_reducible refine ix1 rfl 80 dR fE _ _ rfl Y 0 _ _ rfl _ rfl j rfl hlj ?_) | (with_reducible refine ld1 rfl 5 e9 _ rfl _ rfl _ hcy ?_) | ((with_reducible refine t8 ?_ 23 tP _ rfl _ _ rfl _ _ hs.blk _ rfl ?_); (focus rfl)) | (at_builtin; refine uM rfl _ _ rfl i0 HI0.out HZ0.out HZ1.out HZ2.out x3.heap.size t ys 123 _ _ rfl (hs.out.alloc _) rfl (heap_alloc_new _ _) (by omega) (by have := hgs; simp; omega) ?_; intro v5 x5 ho5 hg5 ha5 hc5 h15; have hb5 := hs.blk2 ((Below.refl _ _).alloc (Nat.le_refl _) _) hg5 (fun k hk => (hs.out.lt k hk).1)) | (with_reducible refine rP rfl 23 sK _ _ rfl (wo.heap.size + 1) 4 rfl v5 rfl hc5 h15 _ _ hb5 (five_4 _ _ _ _ _) ?_; intro x6 g6 sz6 b6))
     exact ⟨⟨j + 1, true, xs, ys ++ [123], s, v5, by omega, by go_num, rfl, Lib.hid (by rw [HST.out, sigStep_out _ _ _ H58.out, ← HTZ.out, HQ.out]), hs.onto ((Below.refl _ _).alloc (Nat.le_refl _) _) ho5 hg5 ha5 g6 b6⟩, by simp [intOf]; omega⟩
    ·exact wT
    ·exact wU
    ·exact wT
    ·exact wU
  ·obtain rfl : j = r.sig.length := by omega
   have hRx : wr.heap[w.heap.size]? = some (.cells #[.int .i64 0, .int .i64 0, .bool false, .slice none 0 0, .slice none 0 0] 40 (0, 0)) := by
    rw [hs.grown.block _ (by have := mF hRr; have := hx4.size; omega) (fun e => by injection e with e; have := mF hRr; omega)]
    exact mV hRr hx4
   have o1 := tL hs.inn
   have o2 := tL hs.out
   have hall : (#[Value.int .i64 r.form, .int .i64 r.lim, .bool !r.sig.isEmpty, s, t] : Array Value).all (·.oneCell') = true := by rw [← Array.all_toList]; show ([Value.int .i64 r.form, .int .i64 r.lim, .bool !r.sig.isEmpty, s, t].all (·.oneCell')) = true; rw [List.all_cons, List.all_cons, List.all_cons, List.all_cons, List.all_cons, o1.1, o2.1]; rfl
   have hbx : Below w.heap.size w wr := hbr.trans ((hx4.trans (tU (B := wo.heap.size) hs.grown (by have := hx4.size; omega) (fun g e => by injection e with e; omega))).mono hbr.size)
   go_wp2_with (first | (with_reducible refine eC rfl _ rfl _ rfl _ _ _ _ _ hs.blk ?_) | (with_reducible refine uE rfl _ _ rfl w.heap.size _ _ _ _ _ _ _ _ _ _ rfl rfl hRx hall ?_; intro x7 g7 b7))
   have hlW := mF hRx
   have hx0 : w.heap.size < x3.heap.size := by have := mF hRr; have := hx4.size; omega
   have ow : ∀ {v n l}, wr.ownsRow x3.heap.size 3 1 v n l → x7.ownsRow w.heap.size 3 1 v n l := fun h => eE (vG h g7 (fun k hk e => by injection e with e; have := (h.lt k hk).1; omega)) (by omega)
   have hsg := HS.out
   rw [List.take_length] at hsg
   exact bodyPost_ret (rM rfl _ _ w.heap.size _ _ _ _ _ _ rfl rfl b7) rfl ⟨⟨⟨_, _, rfl, (fun h => by cases h), fun _ => ⟨i, r, _, s, t, HR2.out, HM.out.1, HM.out.2, HN.out, rfl, by rw [hsg]; exact ow hs.inn, by rw [hsg]; exact ow hs.out⟩⟩, _, _, _, _, _, _, rfl⟩, hbx.trans (tU g7 hbx.size (fun g e => by injection e with e; omega))⟩) : p := h
theorem xV {p : Prop} (h : p := by
 go_enter Try.func49, Try.ntmps49
 go_wp2
 all_goals go_ret2
 all_goals exact ⟨rfl, rfl⟩) : p := h
theorem xU {p : Prop} (h : p := by
 skip
 as_aux_lemma =>
 go_wp2_with (first | (with_reducible refine vZ rfl _ rfl _ _ rfl _ (tM HA.out hBW hne hs.kb) ?_) | (with_reducible refine vZ rfl _ rfl _ _ rfl _ (tM HB.out hBW hne hs.kb) ?_) | ((with_reducible refine r7 ?_ _ rfl _ _ rfl _ (tM HA.out hBW hne hs.kb) ?_); (focus rfl)) | ((with_reducible refine r7 ?_ _ rfl _ _ rfl _ (tM HB.out hBW hne hs.kb) ?_); (focus rfl)) | (go_at_call 84; (with_reducible refine (Ca.out _).mono ?_); rintro e u ⟨rfl, hb⟩; replace hs := hs.below hb; clear hb; have cO := pY hs i hli) | (go_at_call 84; (with_reducible refine (Cb.out _).mono ?_); rintro e u ⟨rfl, hb⟩; replace hs := hs.below hb; clear hb; have cO := pY hs i hli))
 go_roundw
 case rel => exact nT
 case measure => (simp [intOf] <;> omega)) : p := h
theorem xS {p : Prop} (h : p := by
 skip
 as_aux_lemma =>
 go_wp2_with (first | (with_reducible refine vZ rfl _ rfl _ _ rfl _ (tM HA.out hBW hne hs.kb) ?_) | (with_reducible refine vZ rfl _ rfl _ _ rfl _ (tM HB.out hBW hne hs.kb) ?_) | ((with_reducible refine r7 ?_ _ rfl _ _ rfl _ (tM HA.out hBW hne hs.kb) ?_); (focus rfl)) | ((with_reducible refine r7 ?_ _ rfl _ _ rfl _ (tM HB.out hBW hne hs.kb) ?_); (focus rfl)) | (go_at_call 84; (with_reducible refine (Ca.out _).mono ?_); rintro e u ⟨rfl, hb⟩; replace hs := hs.below hb; clear hb; have cO := pY hs i hli) | (go_at_call 84; (with_reducible refine (Cb.out _).mono ?_); rintro e u ⟨rfl, hb⟩; replace hs := hs.below hb; clear hb; have cO := pY hs i hli) | (refine mP rfl _ _ rfl (w.heap.size + 1) (i / 8) _ (mT (vP R i) 8 (i / 8) ||| 2 ^ (i % 8)) rfl rfl _ hs.this (by omega) (or_byte2 _ _ (mL _ 8 _) (Nat.mod_lt _ (by decide))) ?_; intro wy hy; replace hs := (hs.sets hy).eqX (HN.out hyes).symm))
 go_roundw
 case rel => exact nX
 case measure => (simp [intOf] <;> omega)) : p := h
theorem xR {p : Prop} (h : p := by
 go_wp2_with (first | (with_reducible refine mG rfl _ rfl _ rfl _ hs.hA ?_) | (with_reducible refine mG rfl _ rfl _ rfl _ hs.hB ?_) | (with_reducible refine mG rfl _ rfl _ rfl _ hs.hV ?_) | (go_at_call 76; (with_reducible refine (H2.out _ hs.bel).mono ?_); rintro e u ⟨rfl, hb⟩; replace hs := hs.below hb; clear hb) | (go_at_call 77; (with_reducible refine (H3.out _ hs.bel).mono ?_); rintro e u ⟨rfl, hb⟩; replace hs := hs.below hb; clear hb) | (go_at_call 78; (with_reducible refine (H4.out _ hs.bel).mono ?_); rintro e u ⟨rfl, hb⟩; replace hs := hs.below hb; clear hb) | (go_at_call 79; (with_reducible refine (H5.out _ hs.bel).mono ?_); rintro e u ⟨rfl, hb⟩; replace hs := hs.below hb; clear hb) | (go_at_call 80; (with_reducible refine (H6.out _ hs.bel).mono ?_); rintro e u ⟨rfl, hb⟩; replace hs := hs.below hb; clear hb) | (go_at_call 81; (with_reducible refine (H7.out _ hs.bel).mono ?_); rintro e u ⟨rfl, hb⟩; replace hs := hs.below hb; clear hb) | (with_reducible refine mK rfl _ _ rfl jV _ rfl rfl _ hs.hV ?_; intro wq hq; replace hs := hs.set hq; clear hq) | (with_reducible refine mK rfl _ _ rfl w.heap.size _ rfl rfl _ hs.res ?_; intro wr hr))
 exact bodyPost_ret (results_cell_row rfl _ _ w.heap.size _ _ _ _ rfl hr.this r5 rfl (sY _)) rfl ⟨congrArg (fun z => Ending.returned (.agg (mY z))) hR.symm, hs.bel.trans (hr.below.mono (Nat.le_refl _))⟩) : p := h
theorem xP {p : Prop} (h : p := by
 have hR' := hs.kb.get hR (by omega)
 go_wp2_with (first | (with_reducible refine mG rfl _ rfl _ rfl _ hs.this ?_) | (with_reducible refine mK rfl _ _ rfl (w.heap.size + 2) _ rfl rfl _ hR' ?_; intro wq hq))
 exact bodyPost_ret (mS rfl _ _ (w.heap.size + 2) _ _ rfl rfl hq.this) rfl ⟨rfl, (hs.kb.to_below hZ (by omega)).trans (hq.below.mono (by omega))⟩) : p := h
theorem xN {p : Prop} (h : p := by
 go_wp2_with fail
 go_roundw
 case rel => first | exact ⟨t + 1, by omega, by go_num, by first | go_num | exact congrArg (Value.int .u64) gs1, hs⟩ | ((repeat apply Exists.intro); exact ⟨⟨t + 1, by omega, by go_num, by first | go_num | exact congrArg (Value.int .u64) gs1, hs⟩, rfl⟩)
 case measure => (simp [intOf] <;> omega)) : p := h
theorem xM {p : Prop} (h : p := by
 skip
 as_aux_lemma =>
 go_wp2_with (first | (with_reducible refine vZ rfl _ rfl _ _ rfl _ (tM HA.out hBW hne hs.kb) ?_) | (with_reducible refine vZ rfl _ rfl _ _ rfl _ (tM HB.out hBW hne hs.kb) ?_) | (with_reducible refine vZ rfl _ rfl _ _ rfl _ (tM HC.out hBW hne hs.kb) ?_) | ((with_reducible refine r7 ?_ _ rfl _ _ rfl _ (tM HA.out hBW hne hs.kb) ?_); (focus rfl)) | ((with_reducible refine r7 ?_ _ rfl _ _ rfl _ (tM HB.out hBW hne hs.kb) ?_); (focus rfl)) | ((with_reducible refine r7 ?_ _ rfl _ _ rfl _ (tM HC.out hBW hne hs.kb) ?_); (focus rfl)) | (go_at_call 84; (with_reducible refine (Ca.out _).mono ?_); rintro e u ⟨rfl, hb⟩; replace hs := hs.below hb; clear hb; have cO := pY hs i hli) | (go_at_call 84; (with_reducible refine (Cb.out _).mono ?_); rintro e u ⟨rfl, hb⟩; replace hs := hs.below hb; clear hb; have cO := pY hs i hli) | (go_at_call 84; (with_reducible refine (Cc.out _).mono ?_); rintro e u ⟨rfl, hb⟩; replace hs := hs.below hb; clear hb; have cO := pY hs i hli) | (refine mP rfl _ _ rfl (w.heap.size + 1) (i / 8) _ (mT (vP R i) 8 (i / 8) ||| 2 ^ (i % 8)) rfl rfl _ hs.this (by omega) (or_byte2 _ _ (mL _ 8 _) (Nat.mod_lt _ (by decide))) ?_; intro wy hy; replace hs := (hs.sets hy).eqX (HN.out hyes).symm))
 go_roundw
 case rel => exact nX
 case measure => (simp [intOf] <;> omega)) : p := h
theorem xL {p : Prop} (h : p := by
 (simp [intOf] <;> omega)) : p := h
theorem xH {p : Prop} (h : p := by
 first | exact ⟨i + 1, by omega, by go_num, St.eqY HE.out hs⟩ | ((repeat apply Exists.intro); exact ⟨⟨i + 1, by omega, by go_num, St.eqY HE.out hs⟩, rfl⟩)) : p := h
theorem xF {p : Prop} (h : p := by
 have hR' := hs.kb.get kR4 (by omega)
 go_wp2_with (first | (with_reducible refine mG rfl _ rfl _ rfl _ hs.this ?_) | (with_reducible refine mK rfl _ _ rfl (w.heap.size + 2) _ rfl rfl _ hR' ?_; intro wq hq))
 exact bodyPost_ret (mS rfl _ _ (w.heap.size + 2) _ _ rfl rfl hq.this) rfl ⟨rfl, (hs.kb.to_below z4 (by omega)).trans (hq.below.mono (by omega))⟩) : p := h
theorem xE {p : Prop} (h : p := by
 exact ⟨0, Nat.zero_le _, rfl, St.start hO⟩) : p := h
theorem xD {p : Prop} (h : p := by
 first | exact ⟨k + 1, by omega, by go_num, hr.sets hy⟩ | ((repeat apply Exists.intro); exact ⟨⟨k + 1, by omega, by go_num, hr.sets hy⟩, rfl⟩)) : p := h
theorem xC {p : Prop} (h : p := by
 have hR' := hs.kb.get hR (by omega)
 go_wp2_with (first | (with_reducible refine mG rfl _ rfl _ rfl _ hs.this ?_) | (with_reducible refine mK rfl _ _ rfl w.heap.size _ rfl rfl _ hR' ?_; intro wq hq))
 exact bodyPost_ret (mS rfl _ _ w.heap.size _ _ rfl rfl hq.this) rfl ⟨rfl, (hs.kb.to_below hZ (by omega)).trans (hq.below.mono (by omega))⟩) : p := h
theorem xB {p : Prop} (h : p := by
 go_enter Try.func77, Try.ntmps77
 go_wp2_with fail
 rw [← mU]
 obtain ⟨W, hW, hB, hR, hO, hZ⟩ := zA w v
 rw [← hW]
 clear hW
 refine wp_loop_rounds 4 ?_
 iterate 4 (rw [rounds_succ]; go_wp2_with fail)
 refine wp_loop_rounds 5 ?_
 iterate 4 (rw [rounds_succ]; go_wp2_with fail)
 rw [rounds_succ]
 go_wp2_with (first | (with_reducible refine mG rfl _ rfl _ rfl _ hO ?_) | (with_reducible refine mK rfl _ _ rfl (w.heap.size + 1) _ rfl rfl _ hR ?_; intro wq hq))
 exact bodyPost_ret (mS rfl _ _ (w.heap.size + 1) _ _ rfl rfl hq.this) rfl ⟨rfl, hZ.trans (hq.below.mono (by omega))⟩) : p := h
theorem xA {p : Prop} (h : p := by
 first | exact ⟨k + 1, by omega, by go_num, hq.sets hz⟩ | ((repeat apply Exists.intro); exact ⟨⟨k + 1, by omega, by go_num, hq.sets hz⟩, rfl⟩)) : p := h
theorem y0 {p : Prop} (h : p := by
 exact nT) : p := h
theorem y5 {p : Prop} (h : p := by
 obtain rfl : i = 128 := by omega
 have hR' := hs.kb.get hR0 (by omega)
 have hT := hs.this
 rw [lowB_all] at hT
 go_wp2_with (first | (with_reducible refine mG rfl _ rfl _ rfl _ hT ?_) | (with_reducible refine mK rfl _ _ rfl w.heap.size _ rfl rfl _ hR' ?_; intro wq hq))
 refine bodyPost_ret (mS rfl _ _ w.heap.size _ _ rfl rfl hq.this) rfl ⟨rfl, (hs.kb.to_below hZ (by omega)).trans (hq.below.mono (by omega))⟩) : p := h
theorem y6 {p : Prop} (h : p := by
 go_wp2_with fail
 rw [← mU]
 refine bodyPost_ret (mS rfl _ _ w.heap.size 0 _ rfl rfl (heap_alloc_new _ _)) rfl ⟨rfl, hx _⟩) : p := h
theorem y7 {p : Prop} (h : p := by
 obtain rfl : i = 16 := by omega
 have hR' := hs.kb.get kR (by omega)
 go_wp2_with (first | (with_reducible refine mG rfl _ rfl _ rfl _ hs.this ?_) | (with_reducible refine mK rfl _ _ rfl w.heap.size _ rfl rfl _ hR' ?_; intro wq hq))
 refine bodyPost_ret (mS rfl _ _ w.heap.size _ _ rfl rfl hq.this) rfl ⟨?_, (hs.kb.to_below kZ (by omega)).trans (hq.below.mono (by omega))⟩
 rw [bit_all]; rfl) : p := h
theorem y8 {p : Prop} (h : p := by
 exact nX) : p := h
theorem y9 {p : Prop} (h : p := by
 have q5 : IntKind.u32.wrap (2 * (M : Int)) = 2 * (M : Int) := IntWalk.u32_in _ (by omega)
 have q6 : IntKind.u32.wrap ((B : Int) / 128) = (B : Int) / 128 := IntWalk.u32_in _ (by omega)
 have q7 : IntKind.u32.wrap (2 * (M : Int) + (B : Int) / 128) = (M2 : Int) := by rw [IntWalk.u32_in _ (by omega)]; omega
 have q8 : IntKind.u8.wrap ((B : Int) / 128) = (B : Int) / 128 := IntWalk.u8_in _ (by omega)
 skip
 skip
 go_wp2_with fail
 go_roundw
 case rel => exact nQ
 case measure => first | (simp only [intOf]; omega) | (simp [intOf] <;> omega)) : p := h
theorem yQ {p : Prop} (h : p := by
 have hR' := hs.kb.get hR (by omega)
 go_wp2_with (first | (with_reducible refine mG rfl _ rfl _ rfl _ hs.this ?_) | (with_reducible refine mK rfl _ _ rfl (w.heap.size + 2) _ rfl rfl _ hR' ?_; intro wq hq))
 exact bodyPost_ret (results_cell_row rfl _ _ (w.heap.size + 2) _ _ _ _ rfl hq.this r5 rfl (sY _)) rfl ⟨rfl, (hs.kb.to_below hZ (by omega)).trans (hq.below.mono (by omega))⟩) : p := h
theorem yZ {p : Prop} (h : p := by
 go_enter Try.func14, Try.ntmps14
 go_wp2_with (first | (go_at_call 34; refine (HOF.out _).mono ?_; rintro e u1 ⟨s, t, pl, rfl, hs, ht, hb1⟩) | ((with_reducible refine vR rfl 40 _ _ rfl _ _ rfl rfl (sW _ _ _ _ _) (uR _ _ _ _ _ _ _ _ _ _) (all5 _ _ _ (tL hs).1 (tL ht).1) ?_); intro u2 hb2 hF lF) | ((with_reducible refine t8 ?_ 3 mM _ rfl _ _ rfl _ _ hF _ rfl ?_); (focus rfl)))
 go_ret
 exact ⟨rfl, hb1.trans (hb2.mono hb1.size)⟩) : p := h
theorem yX {p : Prop} (h : p := by
 first | exact ⟨1, by decide, rfl, rfl, (by first | trivial | rfl)⟩ | ((repeat apply Exists.intro); exact ⟨⟨1, by decide, rfl, rfl, (by first | trivial | rfl)⟩, rfl⟩)) : p := h
theorem yW {p : Prop} (h : p := by
 first | exact ⟨i + 1, by omega, by go_num, fun t ht => (by by_cases e : t = i; (rw [e, ← HZZ.out]; exact HOP.out); exact HZ.out t (by omega)), by first | trivial | rfl⟩ | ((repeat apply Exists.intro); exact ⟨⟨i + 1, by omega, by go_num, fun t ht => (by by_cases e : t = i; (rw [e, ← HZZ.out]; exact HOP.out); exact HZ.out t (by omega)), by first | trivial | rfl⟩, rfl⟩)) : p := h
theorem yY {p : Prop} (h : p := by
 exact ⟨i + 1, by omega, by go_num, hs.sets hy⟩) : p := h
theorem yJ {p : Prop} (h : p := by
 clear hm
 go_wp2_with (first | (with_reducible refine ix_row rfl _ _ rfl b _ _ rfl _ rfl i rfl hlt ?_) | (with_reducible refine load_row rfl _ rfl b i rfl _ hTab r hr ?_) | ((with_reducible refine t8 ?_ 3 mM _ rfl _ _ rfl _ _ bX _ rfl ?_); (focus rfl)))
 exact ⟨⟨i + 1, by omega, by go_num, HX.out, hbY _⟩, by simp [intOf]; omega⟩) : p := h
theorem yK {p : Prop} (h : p := by
 have HA := Lib.hid ha
 clear ha h0
 go_wp2_with (first | (with_reducible refine mG rfl _ rfl _ rfl v hs.fst ?_) | (go_at_call 74; (with_reducible refine (HG.out _).mono ?_); rintro e u ⟨rfl, hb⟩; replace hs := hs.below hb; clear hb))
 go_ret2
 exact ⟨ret_u32p (show (0 : Int) = _ by rw [HA.out]; rfl) 0, hs.bel⟩) : p := h
theorem yG {p : Prop} (h : p := by
 go_enter Try.func13, Try.ntmps13
 go_wp2_with (first | (go_at_call 15; refine (HOF.out _).mono ?_; rintro e u1 ⟨s, t, pl, rfl, hs, ht, hb1⟩) | ((with_reducible refine vR rfl 40 _ _ rfl _ _ rfl rfl (sW _ _ _ _ _) (uR _ _ _ _ _ _ _ _ _ _) (all5 _ _ _ (tL hs).1 (tL ht).1) ?_); intro u2 hb2 hF lF) | ((with_reducible refine t8 ?_ 3 mM _ rfl _ _ rfl _ _ hF _ rfl ?_); (focus rfl)))
 go_ret
 exact ⟨rfl, hb1.trans (hb2.mono hb1.size)⟩) : p := h
theorem yV {p : Prop} (h : p := by
 first | exact ⟨2, by decide, rfl, rfl, (by first | trivial | rfl)⟩ | ((repeat apply Exists.intro); exact ⟨⟨2, by decide, rfl, rfl, (by first | trivial | rfl)⟩, rfl⟩)) : p := h
theorem yU {p : Prop} (h : p := by
 exact ⟨0, Nat.zero_le _, rfl, St.start hB⟩) : p := h
theorem yT {p : Prop} (h : p := by
 intro os
 induction os with
 | nil => intro a K K' hk h; exact hk _ h
 | cons o os ih => intro a K K' hk ⟨v, h1, h2⟩; exact ⟨v, h1, ih _ _ _ hk h2⟩) : p := h
theorem yS {p : Prop} (h : p := by
 go_enter Try.func61, Try.ntmps61
 go_wp2_with fail
 go_ret2
 exact ⟨rfl, rfl⟩) : p := h
theorem yR {p : Prop} (h : p := by
 have hall : (#[.int .i64 0, .int .i64 0, .bool false, .slice none 0 0, .slice none 0 0] : Array Value).all (·.oneCell') = true := by rw [← Array.all_toList]; rfl
 go_wp2_with (first | (with_reducible refine uE rfl _ _ rfl w.heap.size _ _ _ _ _ _ _ _ _ _ rfl rfl hRr hall ?_; intro x4 hx4 bR))
 exact bodyPost_ret (rM rfl _ _ w.heap.size _ _ _ _ _ _ rfl rfl bR) rfl ⟨⟨⟨_, _, rfl, fun _ => ⟨rfl, fun q hq => by obtain ⟨j, hj⟩ := List.getElem?_of_mem hq; exact HN.out j (by have := (List.getElem?_eq_some_iff.1 hj).1; exact this) q hj⟩, fun h => by cases h⟩, _, _, _, _, _, _, rfl⟩, hbr.trans (tU hx4 hbr.size (fun g e => by injection e with e; omega))⟩) : p := h
theorem yP {p : Prop} (h : p := by
 exact ⟨0, Nat.zero_le _, rfl, by rw [G0.out], hs⟩) : p := h
theorem yN {p : Prop} (h : p := by
 first | exact ⟨i + 1, by omega, by go_num, hs.sets hy⟩ | ((repeat apply Exists.intro); exact ⟨⟨i + 1, by omega, by go_num, hs.sets hy⟩, rfl⟩)) : p := h
theorem yM {p : Prop} (h : p := by
 obtain rfl : k = 8 := by omega
 have hR' : wr.heap[w.heap.size + 1]? = some (.cells (mY 0) 45 (0, 0)) := (hs.other _ (by omega)).trans hR
 go_wp2_with (first | (with_reducible refine mG rfl _ rfl _ rfl _ hs.this ?_) | (with_reducible refine mK rfl _ _ rfl (w.heap.size + 1) _ rfl rfl _ hR' ?_; intro wq hq))
 refine bodyPost_ret (results_cell_row rfl _ _ (w.heap.size + 1) _ _ _ _ rfl hq.this r5 rfl (sY _)) rfl ⟨?_, ?_⟩
 ·unfold t7
  rw [show 8 * (i * 8) = 64 * i by omega]
 ·exact nU) : p := h
theorem yL {p : Prop} (h : p := by
 obtain rfl : k = 4 := by omega
 have hR' : wr.heap[w.heap.size + 1]? = some (.cells (mY 0) 45 (0, 0)) := (hs.other _ (by omega)).trans hR
 go_wp2_with (first | (with_reducible refine mG rfl _ rfl _ rfl _ hs.this ?_) | (with_reducible refine mK rfl _ _ rfl (w.heap.size + 1) _ rfl rfl _ hR' ?_; intro wq hq))
 refine bodyPost_ret (results_cell_row rfl _ _ (w.heap.size + 1) _ _ _ _ rfl hq.this r5 rfl (sY _)) rfl ⟨?_, ?_⟩
 ·unfold t7
  rw [show 8 * (i * 4) = 32 * i by omega]
 ·exact nU) : p := h
theorem yH {p : Prop} (h : p := by
 obtain rfl : k = 2 := by omega
 have hR' : wr.heap[w.heap.size + 1]? = some (.cells (mY 0) 45 (0, 0)) := (hs.other _ (by omega)).trans hR
 go_wp2_with (first | (with_reducible refine mG rfl _ rfl _ rfl _ hs.this ?_) | (with_reducible refine mK rfl _ _ rfl (w.heap.size + 1) _ rfl rfl _ hR' ?_; intro wq hq))
 refine bodyPost_ret (results_cell_row rfl _ _ (w.heap.size + 1) _ _ _ _ rfl hq.this r5 rfl (sY _)) rfl ⟨?_, ?_⟩
 ·unfold t7
  rw [show 8 * (i * 2) = 16 * i by omega]
 ·exact nU) : p := h
theorem yF {p : Prop} (h : p := by
 obtain rfl : k = 1 := by omega
 have hR' : wr.heap[w.heap.size + 1]? = some (.cells (mY 0) 45 (0, 0)) := (hs.other _ (by omega)).trans hR
 go_wp2_with (first | (with_reducible refine mG rfl _ rfl _ rfl _ hs.this ?_) | (with_reducible refine mK rfl _ _ rfl (w.heap.size + 1) _ rfl rfl _ hR' ?_; intro wq hq))
 refine bodyPost_ret (results_cell_row rfl _ _ (w.heap.size + 1) _ _ _ _ rfl hq.this r5 rfl (sY _)) rfl ⟨?_, ?_⟩
 ·unfold t7
  rw [show 8 * (i) = 8 * i by omega]
 ·exact nU) : p := h
theorem yE {p : Prop} (h : p := by
 skip
 go_enter Try.func78, Try.ntmps78
 go_wp2_with (first | (go_at_call 85; (with_reducible refine (T.out _).mono ?_); rintro e u ⟨rfl, hb⟩; replace hs := hs.below hb; clear hb) | (go_at_call 86; (with_reducible refine (K.out _).mono ?_); rintro e u ⟨rfl, hb⟩; replace hs := hs.below hb; clear hb) | (with_reducible refine store_z rfl _ _ rfl (w.heap.size + 1) rfl rfl 0 (hs.hold (_, 0) List.mem_cons_self) ?_; intro wq hq))
 exact bodyPost_ret (mS rfl _ _ (w.heap.size + 1) _ _ rfl rfl hq.this) rfl ⟨rfl, hs.bel.trans (hq.below.mono (by omega))⟩) : p := h
theorem yD {p : Prop} (h : p := by
 skip
 go_enter Try.func76, Try.ntmps76
 go_wp2_with (first | (go_at_call 85; (with_reducible refine (T.out _).mono ?_); rintro e u ⟨rfl, hb⟩; replace hs := hs.below hb; clear hb) | (go_at_call 86; (with_reducible refine (K.out _).mono ?_); rintro e u ⟨rfl, hb⟩; replace hs := hs.below hb; clear hb) | (with_reducible refine store_z rfl _ _ rfl (w.heap.size + 1) rfl rfl 0 (hs.hold (_, 0) List.mem_cons_self) ?_; intro wq hq))
 exact bodyPost_ret (mS rfl _ _ (w.heap.size + 1) _ _ rfl rfl hq.this) rfl ⟨rfl, hs.bel.trans (hq.below.mono (by omega))⟩) : p := h
theorem yC {p : Prop} (h : p := by
 first | exact ⟨3, by decide, rfl, rfl, rfl, (by first | trivial | rfl)⟩ | ((repeat apply Exists.intro); exact ⟨⟨3, by decide, rfl, rfl, rfl, (by first | trivial | rfl)⟩, rfl⟩)) : p := h
theorem yB {p : Prop} (h : p := by
 first | exact ⟨2, by decide, rfl, rfl, rfl, (by first | trivial | rfl)⟩ | ((repeat apply Exists.intro); exact ⟨⟨2, by decide, rfl, rfl, rfl, (by first | trivial | rfl)⟩, rfl⟩)) : p := h
theorem yA {p : Prop} (h : p := by
 first | exact ⟨1, by decide, rfl, rfl, rfl, (by first | trivial | rfl)⟩ | ((repeat apply Exists.intro); exact ⟨⟨1, by decide, rfl, rfl, rfl, (by first | trivial | rfl)⟩, rfl⟩)) : p := h
theorem qQ {p : Prop} (h : p := by
 go_enter Try.func59, Try.ntmps59
 go_wp2
 go_region
 all_goals go_wp2
 all_goals go_ret2
 all_goals exact ⟨rfl, rfl⟩) : p := h
theorem qZ {p : Prop} (h : p := by
 rcases Nat.lt_or_ge j n with h | h
 ·exact h
 ·exact absurd hj (tail_waits hs hc hn inv _ i rfl hin hun j h)) : p := h
theorem qX {p : Prop} (h : p := by
 first | exact ⟨i + 1, by omega, by go_num, all_step HZ.out h0, hs⟩ | ((repeat apply Exists.intro); exact ⟨⟨i + 1, by omega, by go_num, all_step HZ.out h0, hs⟩, rfl⟩)) : p := h
theorem qW {p : Prop} (h : p := by
 go_wp2_with (first | (go_at_call 49; refine (H.out _).mono ?_; rintro e w' ⟨rfl, rfl⟩))
 exact bodyPost_ret (mS rfl _ _ (w.heap.size + 1) _ _ rfl rfl (heap_z2 w _ _)) rfl ⟨rfl, ((Below.refl _ _).alloc (Nat.le_refl _) _).alloc (by simp) _⟩) : p := h
theorem qY {p : Prop} (h : p := by
 first | exact ⟨i + 1, by omega, by go_num, St.eqX HE2.out hs⟩ | ((repeat apply Exists.intro); exact ⟨⟨i + 1, by omega, by go_num, St.eqX HE2.out hs⟩, rfl⟩)) : p := h
theorem qJ {p : Prop} (h : p := by
 have := hs.kb.get kC (by omega)
 rw [cell_of_row wr y i _ _ _ this, getElem?_cells _ _ (by omega)]; rfl) : p := h
theorem qK {p : Prop} (h : p := by
 have := hs.kb.get kB (by omega)
 rw [cell_of_row wr x i _ _ _ this, getElem?_cells _ _ (by omega)]; rfl) : p := h
theorem qG {p : Prop} (h : p := by
 go_enter Try.func26, Try.ntmps26
 go_wp2_with (go_at_call 61; refine (HL.out _).mono ?_; rintro e w1 ⟨rfl, rfl⟩)
 exact bodyPost_ret (mS rfl _ _ (w.heap.size + 1) _ _ rfl rfl (sD w 45 _)) rfl ⟨rfl, eF w _ _⟩) : p := h
theorem qV {p : Prop} (h : p := by
 go_wp2_with (with_reducible refine store_zero rfl _ _ rfl (w.heap.size + 2) rfl rfl 0 hR0 ?_; intro wq hq)
 exact bodyPost_ret (mS rfl _ _ (w.heap.size + 2) _ _ rfl rfl hq.this) rfl ⟨rfl, hZ0.trans (hq.below.mono (by omega))⟩) : p := h
theorem qU {p : Prop} (h : p := by
 first | exact ⟨i + 1, by omega, by go_num, HE.out ▸ hs⟩ | ((repeat apply Exists.intro); exact ⟨⟨i + 1, by omega, by go_num, HE.out ▸ hs⟩, rfl⟩)) : p := h
theorem qT {p : Prop} (h : p := by
 go_enter Try.func73, Try.ntmps73
 go_wp2_with (first | (go_at_call 82; ((with_reducible refine (pR _).mono ?_); rintro e w' ⟨rfl, rfl⟩)) | (with_reducible refine mG rfl _ rfl _ rfl v (heap_alloc_new _ _) ?_) | (go_at_call 74; refine hg.mono ?_; rintro e w' ⟨rfl, hb⟩) | (go_at_call 83; refine (hs _).mono ?_; rintro e w' ⟨rfl, rfl⟩))
 go_ret
 exact ⟨rfl, ((Below.refl _ _).alloc (Nat.le_refl _) _).trans (hb.mono (by simp))⟩) : p := h
theorem qS {p : Prop} (h : p := by
 go_enter Try.func73, Try.ntmps73
 go_wp2_with (first | (go_at_call 82; ((with_reducible refine (pP _).mono ?_); rintro e w' ⟨rfl, rfl⟩)) | (with_reducible refine mG rfl _ rfl _ rfl v (heap_alloc_new _ _) ?_) | (go_at_call 74; refine hg.mono ?_; rintro e w' ⟨rfl, hb⟩) | (go_at_call 83; refine (hs _).mono ?_; rintro e w' ⟨rfl, rfl⟩))
 go_ret
 exact ⟨rfl, ((Below.refl _ _).alloc (Nat.le_refl _) _).trans (hb.mono (by simp))⟩) : p := h
theorem qR {p : Prop} (h : p := by
 exact ⟨0, Nat.zero_le _, rfl, St.start kO4⟩) : p := h
theorem qP {p : Prop} (h : p := by
 unfold Oper.wp execOp
 simp only [ho, hx, Instr.loadAt, Instr.sureAddr, Sem.run_bind, Sem.run_pure, Result.andThen_ok]
 simp only [loadVar, Sem.run_bind, ha, Result.andThen_ok]
 simp [hc, go_sem]
 exact hK _ _ h) : p := h
theorem qN {p : Prop} (h : p := by
 obtain ⟨h1, h2, h3⟩ := Oper.apart_spec hap
 obtain ⟨o, ho, hN, hK⟩ := h
 have : o = oj := Option.some.inj (ho.symm.trans hj)
 subst this
 refine ⟨o, ho, hN.same (execOp_put o hsj a oi.dst v h1).symm (wanted_put o a oi.dst v h1).symm, fun x hx => ⟨hy.same (execOp_put oi hsi a o.dst (val j x) h3) (wanted_put oi a o.dst (val j x) h3), ?_⟩⟩
 rw [← Act.put_comm a v (val j x) h2]
 exact hK x hx) : p := h
theorem qM {p : Prop} (h : p := by
 go_wp2_with fail
 go_ret
 exact ⟨rfl, Below.refl _ _⟩) : p := h
theorem qL {p : Prop} (h : p := by
 exact ⟨0, by decide, rfl, rfl, rfl⟩) : p := h
theorem qH {p : Prop} (h : p := by
 have := uL (Q := Q) (g := l.toArray.size - n) (fun D listed a' hL w' hS' => by
  have := wpAny_of_seq (md := .any) (Q' := Q) (l.drop n) n listed a' w' (fun j => by simp [List.getElem?_drop]) (by rw [hdl]; exact hL.1) (hL.2 w' hS')
  rwa [hdl] at this) _ _ _ _ H w.drew hS
 exact m6) : p := h
theorem qF {p : Prop} (h : p := by
 obtain ⟨h1, h2, h3⟩ := Oper.apart_spec hap
 obtain ⟨o, u, ho, hu, hK⟩ := h
 have : o = oj := Option.some.inj (ho.symm.trans hj)
 subst this
 refine ⟨o, u, ho, hu.same (execOp_put o hsj a oi.dst v h1).symm (wanted_put o a oi.dst v h1).symm, hy.same (execOp_put oi hsi a o.dst u h3) (wanted_put oi a o.dst u h3), ?_⟩
 rw [← Act.put_comm a v u h2]
 exact hK) : p := h
theorem qE {p : Prop} (h : p := by
 first | exact ⟨3, by decide, rfl, rfl, (by first | trivial | rfl)⟩ | ((repeat apply Exists.intro); exact ⟨⟨3, by decide, rfl, rfl, (by first | trivial | rfl)⟩, rfl⟩)) : p := h
theorem qD {p : Prop} (h : p := by
 first | exact ⟨1, by decide, rfl, rfl, by first | trivial | rfl⟩ | ((repeat apply Exists.intro); exact ⟨⟨1, by decide, rfl, rfl, by first | trivial | rfl⟩, rfl⟩)) : p := h
theorem qC {p : Prop} (h : p := by
 go_wp2_with fail
 go_ret2
 exact ⟨ret_u32p (show (1 : Int) = _ by rw [fF, if_pos HZ.out]; rfl) 0, hs.bel⟩) : p := h
theorem qB {p : Prop} (h : p := by
 have Q := Lib.hid q
 clear q
 go_enter Try.func88, Try.ntmps88
 go_wp2
 go_ret
 exact ⟨congrArg (fun z => Ending.returned (.int .u64 z)) Q.out, Below.refl _ _⟩) : p := h
theorem qA {p : Prop} (h : p := by
 exact ⟨0, x, Nat.zero_le _, rfl, rfl, by simp, by rw [fB _ _ _ (by omega)]; exact Sets.refl hB⟩) : p := h
theorem g9 {p : Prop} (h : p := by
 have h2 := doOpA_put hoj hap (fun cs b => hsel i oi cs b hi) (fun cs b => hsel j oj cs b hoj) hy h1
 refine .inr ⟨hjp, doOpA_mono (fun b h3 => ih D (listed.setIfInBounds j true) b (inv.set hj hjn) hfree' (ready_mono hr (Ne.symm hji)) h3.1 ?_) h2⟩
 rw [Array.setIfInBounds_comm _ _ hji]
 exact h3.2) : p := h
theorem gQ {p : Prop} (h : p := by
 rw [if_neg]
 intro h
 apply hg
 rw [hz]
 refine ⟨h.1, ?_⟩
 have h5 := (hk (by rw [hz]; exact h.1)).2.2
 have h6 := h.2
 unfold kF at h6
 rw [h5]
 exact h6) : p := h
theorem gZ {p : Prop} (h : p := by
 have h2 : (0 ≤ z ∧ z < (n : Int)) := by omega
 refine wpList_plain hgd fun K hK => ?_
 unfold Oper.wp execOp
 simp only [ho, hx, hi, Sem.run_bind, run_indexAt_slice (h := hu)]
 rw [if_pos h2, hs]
 subst hz
 rw [Nat.mul_comm] at h
 have := hK _ _ h
 simpa [Go.Addr.add_mid, go_sem] using this) : p := h
theorem gX {p : Prop} (h : p := by
 go_enter Try.func27, Try.ntmps27
 go_wp2_with (go_at_call 61; refine (HL.out _).mono ?_; rintro e w1 ⟨rfl, rfl⟩)
 go_ret2
 exact ⟨rfl, hZ _⟩) : p := h
theorem gW {p : Prop} (h : p := by
 exact ⟨i + 1, by omega, by go_num, congrArg (Value.int IntKind.u32) em.out, by rw [ea.out], hs⟩) : p := h
theorem gY {p : Prop} (h : p := by
 first | exact ⟨3, by decide, rfl, fun h => absurd h (by decide), fun _ => ⟨rfl, rfl⟩, (by first | trivial | rfl)⟩ | ((repeat apply Exists.intro); exact ⟨⟨3, by decide, rfl, fun h => absurd h (by decide), fun _ => ⟨rfl, rfl⟩, (by first | trivial | rfl)⟩, rfl⟩)) : p := h
theorem gJ {p : Prop} (h : p := by
 first | exact ⟨1, by decide, rfl, fun _ => ⟨rfl, rfl⟩, fun h => absurd h (by decide), (by first | trivial | rfl)⟩ | ((repeat apply Exists.intro); exact ⟨⟨1, by decide, rfl, fun _ => ⟨rfl, rfl⟩, fun h => absurd h (by decide), (by first | trivial | rfl)⟩, rfl⟩)) : p := h
theorem gK {p : Prop} (h : p := by
 rcases h with ⟨rfl, rfl, rfl, rfl⟩ | ⟨rfl, rfl, rfl, rfl⟩
 ·exact w7_0 W
 ·exact w7_1 W) : p := h
theorem gG {p : Prop} (h : p := by
 obtain rfl : k = 0 := by omega
 go_wp2_with fail
 go_ret2
 exact ⟨ret_u32p (by simp) 0, hs.bel⟩) : p := h
theorem gU {p : Prop} (h : p := by
 exact ⟨k + 1, by omega, by go_num, hq2.sets hz⟩) : p := h
theorem gT {p : Prop} (h : p := by
 exact ⟨0, Nat.zero_le _, rfl, by rw [fB _ _ _ (by omega)]; exact Sets.refl hB⟩) : p := h
theorem gS {p : Prop} (h : p := by
 go_enter Try.func21, Try.ntmps21
 go_wp2_with (first | (go_at_call 49; refine (H.out _).mono ?_; rintro e w' ⟨rfl, rfl⟩))
 exact bodyPost_ret (mS rfl _ _ (w.heap.size + 2) _ _ rfl rfl (heap_z3 w _ _ _)) rfl ⟨rfl, pL _ _ _ _⟩) : p := h
theorem gR {p : Prop} (h : p := by
 by_cases e2 : j < i
 ·rw [decide_eq_true e2, decide_eq_true (by omega)]
 ·rw [decide_eq_false e2, decide_eq_false (by omega)]) : p := h
theorem gP {p : Prop} (h : p := by
 refine hfree k ok hk hki ?_ hno
 by_cases hjk : j = k
 ·subst hjk; exact hjun
 ·rw [getD_set_ne true hjk] at hun; exact hun) : p := h
theorem gN {p : Prop} (h : p := by
 match hs, h with
 | [p, q, y], h => exact ⟨p, q, y, rfl, by simpa [tX] using h.symm⟩
 | [], h => simp [tX] at h
 | [_], h => simp [tX] at h
 | [_, _], h => simp [tX] at h
 | _ :: _ :: _ :: _ :: _, h => simp [tX] at h) : p := h
theorem gM {p : Prop} (h : p := by
 exact ⟨0, Nat.zero_le _, rfl, by rw [fB _ _ _ (by omega)]; exact hs⟩) : p := h
theorem gL {p : Prop} (h : p := by
 go_enter Try.func28, Try.ntmps28
 go_wp2_with fail
 go_ret2
 exact ⟨rfl, (Below.refl _ _).alloc (Nat.le_refl _) _⟩) : p := h
theorem gH {p : Prop} (h : p := by
 exact ⟨i + 1, by omega, by go_num, by rw [em.out], by rw [ea.out]; rfl, hs⟩) : p := h
theorem gF {p : Prop} (h : p := by
 exact ⟨k + 1, by omega, by go_num, hq.sets hz⟩) : p := h
theorem gE {p : Prop} (h : p := by
 exact ⟨0, Nat.zero_le _, rfl, rfl, rfl⟩) : p := h
theorem gD {p : Prop} (h : p := by
 apply Classical.byContradiction
 intro hn
 apply e1
 unfold vF
 rw [if_neg (by omega), if_neg (by omega), if_neg (by omega), if_neg (by omega), if_neg (by omega), if_neg (by omega), if_neg (by omega), if_neg (by omega)]) : p := h
theorem gC {p : Prop} (h : p := by
 exact ⟨i + 1, by omega, by go_num, by rw [em.out], by rw [ea.out], hs⟩) : p := h
theorem j0 {p : Prop} (h : p := by
 have hl := HLN.out
 rw [HLN2.out] at hl
 have hd := List.length_drop (i := m) (l := hs)
 cases hh : hs.drop m with
 | nil => rw [hh] at hd; simp [nOf] at hl hd; omega
 | cons lo r1 =>
   exact ⟨lo, r1, rfl⟩) : p := h
theorem j1 {p : Prop} (h : p := by
 clear h
 go_enter Try.func25, Try.ntmps25
 go_wp2_with fail
 exact bodyPost_ret (mS rfl _ _ w.heap.size _ _ rfl rfl (mC _)) rfl ⟨rfl, (Below.refl _ _).alloc (Nat.le_refl _) _⟩) : p := h
theorem j2 {p : Prop} (h : p := by
 have h2 : (0 ≤ z ∧ z < (n : Int)) := by omega
 unfold execOp
 simp only [ho, hx, hi, Sem.run_bind, run_indexAt_slice (h := under_su)]
 rw [if_pos h2, size_su]
 subst hz
 simp [Go.Addr.add_mid, go_sem]) : p := h
theorem j3 {p : Prop} (h : p := by
 exact ⟨0, Nat.zero_le _, rfl, St.start kA⟩) : p := h
theorem j4 {p : Prop} (h : p := by
 exact ⟨0, Nat.zero_le _, rfl, fun t h => absurd h (by omega), rfl⟩) : p := h
theorem j5 {p : Prop} (h : p := by
 clear hv
 go_enter Try.func28, Try.ntmps28
 go_wp2_with (with_reducible refine mG rfl _ rfl _ rfl v (heap_alloc_new _ _) ?_)
 go_ret2
 exact ⟨rfl, (Below.refl _ _).alloc (Nat.le_refl _) _⟩) : p := h
theorem j6 {p : Prop} (h : p := by
 go_wp2_with fail
 exact ⟨⟨1, by decide, rfl, rfl, by first | rfl | trivial⟩, by simp [intOf]⟩) : p := h
theorem j7 {p : Prop} (h : p := by
 exact ⟨0, Nat.zero_le _, rfl, fun j h => absurd h (by omega), hs⟩) : p := h
theorem j8 {p : Prop} (h : p := by
 rcases h with ⟨rfl, rfl, rfl, rfl⟩ | ⟨rfl, rfl, rfl, rfl⟩ | ⟨rfl, rfl, rfl, rfl⟩ | ⟨rfl, rfl, rfl, rfl⟩
 ·exact w7_0 W
 ·exact w7_1 W
 ·exact w7_2 W
 ·exact w7_3 W) : p := h
theorem j9 {p : Prop} (h : p := by
 have := List.getElem?_drop (xs := hs) (i := m) (j := 0)
 rw [hcut] at this
 simpa using this.symm) : p := h
theorem jQ {p : Prop} (h : p := by
 first | exact ⟨2, by decide, rfl, rfl, by first | trivial | rfl⟩ | ((repeat apply Exists.intro); exact ⟨⟨2, by decide, rfl, rfl, by first | trivial | rfl⟩, rfl⟩)) : p := h
theorem jZ {p : Prop} (h : p := by
 exact ⟨0, by decide, rfl, fun _ => ⟨rfl, rfl⟩, fun h => absurd h (by decide), rfl⟩) : p := h
theorem jX {p : Prop} (h : p := by
 rw [cell_of_row W _ _ _ _ _ hB, getElem?_cells _ _ (by omega)]) : p := h
theorem jW {p : Prop} (h : p := by
 exact ⟨i + 1, by omega, by go_num, HM2.out ▸ hr.sets hy⟩) : p := h
theorem jY {p : Prop} (h : p := by
 rw [Array.setIfInBounds_comm _ _ hji]
 exact h3.2) : p := h
theorem jJ {p : Prop} (h : p := by
 rw [HX.out, Nat.div_div_eq_div_mul, Nat.mul_add, Nat.pow_add]) : p := h
theorem jK {p : Prop} (h : p := by
 exact ⟨0, Nat.zero_le _, rfl, rfl, rfl, H1.start v w⟩) : p := h
theorem jG {p : Prop} (h : p := by
 exact ⟨i + 1, by omega, by go_num, HM2.out ▸ hq⟩) : p := h
theorem jU {p : Prop} (h : p := by
 match hs, h with
 | [y], h => exact ⟨y, rfl, by simpa [tX] using h.symm⟩
 | [], h => simp [tX] at h
 | _ :: _ :: _, h => simp [tX] at h) : p := h
theorem jT {p : Prop} (h : p := by
 exact ⟨0, by decide, rfl, St.start hO⟩) : p := h
theorem jS {p : Prop} (h : p := by
 go_enter Try.func86, Try.ntmps86
 go_wp2_with (go_at_call 85; refine (T.out _).mono ?_; rintro e u ⟨rfl, hb⟩)
 go_ret
 exact ⟨rfl, hb⟩) : p := h
theorem jR {p : Prop} (h : p := by
 exfalso; rw [hz] at hn; exact absurd hn (by decide)) : p := h
theorem jP {p : Prop} (h : p := by
 exact ⟨k + 1, by omega, by go_num, hs.sets hz⟩) : p := h
theorem jN {p : Prop} (h : p := by
 exact ⟨k + 1, by omega, by go_num, hr.sets hy⟩) : p := h
theorem jL {p : Prop} (h : p := by
 exact ⟨i + 1, by omega, by go_num, hr.sets hy⟩) : p := h
theorem jH {p : Prop} (h : p := by
 exact .inr (.inr (.inr (.inr (.inr (.inl ⟨by omega, by omega⟩)))))) : p := h
theorem jF {p : Prop} (h : p := by
 subst hji; exact .inr ⟨hip, oi, v, hi, hy, H⟩) : p := h
theorem jE {p : Prop} (h : p := by
 go_wp2_with fail
 go_ret2
 exact ⟨rfl, hs.bel⟩) : p := h
theorem jD {p : Prop} (h : p := by
 by_cases e : j = i
 ·subst e; rw [hr] at hq; injection hq with hq; subst hq; exact hm
 ·exact HN.out j (by omega) q hq) : p := h
theorem jC {p : Prop} (h : p := by
 exact .inr (.inr (.inr (.inr (.inl ⟨by omega, by omega⟩))))) : p := h
theorem k0 {p : Prop} (h : p := by
 have h1 := hall e he hb
 rw [heq, getD_both hun] at h1
 cases h1) : p := h
theorem kQ {p : Prop} (h : p := by
 exact ⟨0, by decide, rfl, rfl, rfl, rfl⟩) : p := h
theorem kX {p : Prop} (h : p := by
 rwa [show (64768 : Int) + (op - 64768) = op by omega] at this) : p := h
theorem kW {p : Prop} (h : p := by
 have HOP := Lib.hid hop
 clear hop
 go_wp2_with fail
 go_ret
 exact ⟨by rw [HR.out, HOP.out, HV.out]; rfl, hw2⟩) : p := h
theorem kY {p : Prop} (h : p := by
 exact .inr (.inl ⟨by omega, by omega⟩)) : p := h
theorem kJ {p : Prop} (h : p := by
 exact absurd rfl e2) : p := h
theorem kK {p : Prop} (h : p := by
 simp [Lit.wf, IntKind.min, IntKind.max, IntKind.signed, IntKind.bits] at h
 exact ⟨by omega, by omega⟩) : p := h
theorem kG {p : Prop} (h : p := by
 rw [← hxx, ← hss, if_pos (by omega)]) : p := h
theorem kV {p : Prop} (h : p := by
 rw [← hxx, ← hss, if_neg (by omega)]) : p := h
theorem kU {p : Prop} (h : p := by
 exact .inr (.inr (.inr (.inl ⟨by omega, by omega⟩)))) : p := h
theorem kT {p : Prop} (h : p := by
 rw [List.drop_eq_getElem_cons hlt]
 rw [List.getElem?_eq_getElem hlt] at ht
 injection ht with ht
 rw [ht]) : p := h
theorem kS {p : Prop} (h : p := by
 exact ⟨0, Nat.zero_le _, rfl, Lib.hid (fun j hj => absurd hj (Nat.not_lt_zero _)), Below.refl _ _⟩) : p := h
theorem kP {p : Prop} (h : p := by
 go_wp2_with fail
 exact ⟨⟨2, by decide, rfl, rfl, by first | rfl | trivial⟩, by simp [intOf]⟩) : p := h
theorem kN {p : Prop} (h : p := by
 exact .inr (.inr (.inr (.inr (.inr (.inr (.inr (.inr (.inr (.inl ⟨by omega, by omega⟩)))))))))) : p := h
theorem kM {p : Prop} (h : p := by
 rcases h with ⟨rfl, rfl, rfl, rfl⟩ | ⟨rfl, rfl, rfl, rfl⟩
 ·exact w7_2 W
 ·exact w7_3 W) : p := h
theorem kL {p : Prop} (h : p := by
 exact ⟨0, Nat.zero_le _, rfl, fun j hj => absurd hj (Nat.not_lt_zero _), Below.refl _ _⟩) : p := h
theorem kH {p : Prop} (h : p := by
 exact .inr (.inr (.inr (.inr (.inr (.inr (.inr (.inr (.inl ⟨by omega, by omega⟩))))))))) : p := h
theorem kE {p : Prop} (h : p := by
 exact .inr (.inr (.inl ⟨by omega, by omega⟩))) : p := h
theorem kD {p : Prop} (h : p := by
 exact .inl ⟨by omega, by omega⟩) : p := h
theorem w6 {p : Prop} (h : p := by
 exact rbits_no op _ _ _ w ho hl (by simp; omega)) : p := h
theorem w7 {p : Prop} (h : p := by
 simp only [decide_eq_true_eq] at this
 rw [Bool.not_eq_true]
 exact inRow_f.2 (by omega)) : p := h
theorem w8 {p : Prop} (h : p := by
 rw [← hxx]
 exact Nat.mod_mod _ _) : p := h
theorem w9 {p : Prop} (h : p := by
 exact bits_no op _ _ _ w ho hl (by simp; omega)) : p := h
theorem wQ {p : Prop} (h : p := by
 exact .inr (.inr (.inr (.inr (.inr (.inr (.inr (.inl ⟨by omega, by omega⟩)))))))) : p := h
theorem wZ {p : Prop} (h : p := by
 obtain ⟨o, h1, h2, h3⟩ := hh
 exact ⟨o, h1, h2, fun x hx => h x _ (h3 x hx)⟩) : p := h
theorem wX {p : Prop} (h : p := by
 have := heap_alloc_new ((((w.alloc A).alloc B).alloc C).alloc D) E
 simpa using this) : p := h
theorem wW {p : Prop} (h : p := by
 rw [pX _ _ _ _ _ (by omega), if_neg (by omega)]
 simp [mT, tW]) : p := h
theorem wY {p : Prop} (h : p := by
 exact .inr (.inr (.inr (.inr (.inr (.inr (.inl ⟨by omega, by omega⟩))))))) : p := h
theorem wJ {p : Prop} (h : p := by
 skip
 as_aux_lemma =>
 go_wp2_with (first | (with_reducible refine vZ rfl _ rfl _ _ rfl _ (tM HA.out hBW hne hs.kb) ?_) | (with_reducible refine vZ rfl _ rfl _ _ rfl _ (tM HB.out hBW hne hs.kb) ?_) | (with_reducible refine vZ rfl _ rfl _ _ rfl _ (tM HC.out hBW hne hs.kb) ?_) | ((with_reducible refine r7 ?_ _ rfl _ _ rfl _ (tM HA.out hBW hne hs.kb) ?_); (focus rfl)) | ((with_reducible refine r7 ?_ _ rfl _ _ rfl _ (tM HB.out hBW hne hs.kb) ?_); (focus rfl)) | ((with_reducible refine r7 ?_ _ rfl _ _ rfl _ (tM HC.out hBW hne hs.kb) ?_); (focus rfl)) | (go_at_call 84; (with_reducible refine (Ca.out _).mono ?_); rintro e u ⟨rfl, hb⟩; replace hs := hs.below hb; clear hb; have cO := pY hs i hli) | (go_at_call 84; (with_reducible refine (Cb.out _).mono ?_); rintro e u ⟨rfl, hb⟩; replace hs := hs.below hb; clear hb; have cO := pY hs i hli) | (go_at_call 84; (with_reducible refine (Cc.out _).mono ?_); rintro e u ⟨rfl, hb⟩; replace hs := hs.below hb; clear hb; have cO := pY hs i hli))
 go_roundw
 case rel => exact y0
 case measure => exact xL) : p := h
theorem wK {p : Prop} (h : p := by
 as_aux_lemma =>
 go_enter Try.func80, Try.ntmps80
 go_wp2_with fail
 rw [← mU]
 obtain ⟨W0, hW⟩ : ∃ W0, W0 = ((w.alloc (.cells (mY a) 45)).alloc (.cells (mY b) 45)).alloc (.cells (mY 0) 45) := ⟨_, rfl⟩
 have hA0 : W0.heap[w.heap.size]? = some (.cells (mY a) 45 (0, 0)) := hW ▸ pB _ _ _ _
 have hB0 : W0.heap[w.heap.size + 1]? = some (.cells (mY b) 45 (0, 0)) := hW ▸ pC _ _ _ _
 have hR0 : W0.heap[w.heap.size + 2]? = some (.cells (mY 0) 45 (0, 0)) := hW ▸ pK _ _ _ _
 have hZ0 : Below w.heap.size w W0 := hW ▸ pL _ _ _ _
 have hN : W0.heap.size = w.heap.size + 3 := by rw [hW]; simp
 rw [← hW]
 clear hW
 go_loopw [9, 10, 11] (fun wv nv ov wr => ∃ i : Nat, i ≤ 3 ∧ ov = .int .i64 i ∧ wv = .int .i64 0 ∧ nv = .int .i64 0 ∧ W0 = wr) (fun _ _ ov _ => 3 - (intOf ov).toNat)
 case atStart => exact kQ
 case round =>
  obtain ⟨i, hi, rfl, rfl, rfl, rfl⟩ := hrel
  obtain rfl | rfl | rfl | rfl : i = 0 ∨ i = 1 ∨ i = 2 ∨ i = 3 := by omega
  ·exact mW
  ·exact mX
  ·exact mZ
  ·exact qV) : p := h
theorem wG {p : Prop} (h : p := by
 have gs1 := GS.out t
 have gw : IntKind.u64.wrap ((g (t + 1) : Nat) : Int) = ((g (t + 1) : Nat) : Int) := IntWalk.u64_in _ (by have := GL.out (t + 1); omega)
 exact xN) : p := h
theorem wU {p : Prop} (h : p := by
 have hq : tz = 126 := by rw [HTY.out]; rfl
 have HQ := Lib.hid hq
 clear hq
 go_wp2_with (first | (with_reducible refine ix1 rfl 80 dR fE _ _ rfl Y 0 _ _ rfl _ rfl j rfl hlj ?_) | (with_reducible refine ld1 rfl 5 e9 _ rfl _ rfl _ hcy ?_) | ((with_reducible refine t8 ?_ 23 tP _ rfl _ _ rfl _ _ hs.blk _ rfl ?_); (focus rfl)) | (at_builtin; refine uM rfl _ _ rfl i0 HI0.out HZ0.out HZ1.out HZ2.out x3.heap.size t ys 126 _ _ rfl (hs.out.alloc _) rfl (heap_alloc_new _ _) (by omega) (by have := hgs; simp; omega) ?_; intro v5 x5 ho5 hg5 ha5 hc5 h15; have hb5 := hs.blk2 ((Below.refl _ _).alloc (Nat.le_refl _) _) hg5 (fun k hk => (hs.out.lt k hk).1)) | (with_reducible refine rP rfl 23 sK _ _ rfl (wo.heap.size + 1) 4 rfl v5 rfl hc5 h15 _ _ hb5 (five_4 _ _ _ _ _) ?_; intro x6 g6 sz6 b6))
 exact ⟨⟨j + 1, true, xs, ys ++ [126], s, v5, by omega, by go_num, rfl, Lib.hid (by rw [HST.out, sigStep_out _ _ _ H58.out, ← HTZ.out, HQ.out]), hs.onto ((Below.refl _ _).alloc (Nat.le_refl _) _) ho5 hg5 ha5 g6 b6⟩, by simp [intOf]; omega⟩) : p := h
theorem wT {p : Prop} (h : p := by
 have hq : tz = 126 := by rw [HTY.out]; rfl
 have HQ := Lib.hid hq
 clear hq
 go_wp2_with (first | (with_reducible refine ix1 rfl 80 dR fE _ _ rfl Y 0 _ _ rfl _ rfl j rfl hlj ?_) | (with_reducible refine ld1 rfl 5 e9 _ rfl _ rfl _ hcy ?_) | ((with_reducible refine t8 ?_ 23 tP _ rfl _ _ rfl _ _ hs.blk _ rfl ?_); (focus rfl)) | (at_builtin; refine uM rfl _ _ rfl i0 HI0.out HZ0.out HZ1.out HZ2.out x3.heap.size s xs 126 _ _ rfl (hs.inn.alloc _) rfl (heap_alloc_new _ _) (by omega) (by have := hgs; simp; omega) ?_; intro v5 x5 ho5 hg5 ha5 hc5 h15; have hb5 := hs.blk2 ((Below.refl _ _).alloc (Nat.le_refl _) _) hg5 (fun k hk => (hs.inn.lt k hk).1)) | (with_reducible refine rP rfl 23 sK _ _ rfl (wo.heap.size + 1) 3 rfl v5 rfl hc5 h15 _ _ hb5 (five_3 _ _ _ _ _) ?_; intro x6 g6 sz6 b6))
 exact ⟨⟨j + 1, false, xs ++ [126], ys, v5, t, by omega, by go_num, rfl, Lib.hid (by rw [HST.out, sigStep_in _ _ _ H58.out, ← HTZ.out, HQ.out]), hs.into ((Below.refl _ _).alloc (Nat.le_refl _) _) ho5 hg5 ha5 g6 b6⟩, by simp [intOf]; omega⟩) : p := h
theorem wS {p : Prop} (h : p := by
 go_wp2_with (first | (with_reducible refine mG rfl _ rfl _ rfl _ hs.this ?_) | ((with_reducible refine tF ?_ _ rfl _ rfl _ hs.this ?_); (focus rfl)) | (go_at_call 51; (with_reducible refine (got64 v _ i _ (by omega)).mono ?_); rintro e u2 ⟨rfl, hb⟩; replace hs := hs.below hb; clear hb) | (go_at_call 53; (with_reducible refine (gots64 v _ i _ (by omega)).mono ?_); rintro e u2 ⟨rfl, hb⟩; replace hs := hs.below hb; clear hb) | (go_at_call 52; (refine (rF _ _ (by omega)).mono ?_); rintro e u2 ⟨rfl, hb⟩; replace hs := hs.below hb; clear hb) | (go_at_call 54; (with_reducible refine (fD _ _ _ i (tC 64 0 v i) _ rfl rfl (by omega)).mono ?_); rintro e u2 ⟨rfl, hb⟩; replace hs := hs.below hb; clear hb) | (with_reducible refine mK rfl _ _ rfl w.heap.size _ rfl rfl _ hs.this ?_; intro wy hy))
 go_roundw
 case rel => exact yY
 case measure => exact xL) : p := h
theorem wR {p : Prop} (h : p := by
 go_wp2_with (first | (with_reducible refine mG rfl _ rfl _ rfl _ hs.this ?_) | ((with_reducible refine tF ?_ _ rfl _ rfl _ hs.this ?_); (focus rfl)) | (go_at_call 51; (with_reducible refine (got32 v _ i _ (by omega)).mono ?_); rintro e u2 ⟨rfl, hb⟩; replace hs := hs.below hb; clear hb) | (go_at_call 53; (with_reducible refine (gots32 v _ i _ (by omega)).mono ?_); rintro e u2 ⟨rfl, hb⟩; replace hs := hs.below hb; clear hb) | (go_at_call 52; (refine (rF _ _ (by omega)).mono ?_); rintro e u2 ⟨rfl, hb⟩; replace hs := hs.below hb; clear hb) | (go_at_call 54; (with_reducible refine (uK _ _ _ i (tC 32 0 v i) _ rfl rfl (by omega)).mono ?_); rintro e u2 ⟨rfl, hb⟩; replace hs := hs.below hb; clear hb) | (with_reducible refine mK rfl _ _ rfl w.heap.size _ rfl rfl _ hs.this ?_; intro wy hy))
 go_roundw
 case rel => exact yY
 case measure => exact xL) : p := h
theorem wP {p : Prop} (h : p := by
 go_wp2_with (first | (with_reducible refine mG rfl _ rfl _ rfl _ hs.this ?_) | ((with_reducible refine tF ?_ _ rfl _ rfl _ hs.this ?_); (focus rfl)) | (go_at_call 51; (with_reducible refine (got16 v _ i _ (by omega)).mono ?_); rintro e u2 ⟨rfl, hb⟩; replace hs := hs.below hb; clear hb) | (go_at_call 53; (with_reducible refine (gots16 v _ i _ (by omega)).mono ?_); rintro e u2 ⟨rfl, hb⟩; replace hs := hs.below hb; clear hb) | (go_at_call 52; (refine (rF _ _ (by omega)).mono ?_); rintro e u2 ⟨rfl, hb⟩; replace hs := hs.below hb; clear hb) | (go_at_call 54; (with_reducible refine (rN _ _ _ i (tC 16 0 v i) _ rfl rfl (by omega)).mono ?_); rintro e u2 ⟨rfl, hb⟩; replace hs := hs.below hb; clear hb) | (with_reducible refine mK rfl _ _ rfl w.heap.size _ rfl rfl _ hs.this ?_; intro wy hy))
 go_roundw
 case rel => exact yY
 case measure => exact xL) : p := h
theorem wN {p : Prop} (h : p := by
 go_wp2_with (first | (with_reducible refine mG rfl _ rfl _ rfl _ hs.this ?_) | ((with_reducible refine tF ?_ _ rfl _ rfl _ hs.this ?_); (focus rfl)) | (go_at_call 51; (with_reducible refine (got8 v _ i _ (by omega)).mono ?_); rintro e u2 ⟨rfl, hb⟩; replace hs := hs.below hb; clear hb) | (go_at_call 53; (with_reducible refine (gots8 v _ i _ (by omega)).mono ?_); rintro e u2 ⟨rfl, hb⟩; replace hs := hs.below hb; clear hb) | (go_at_call 52; (refine (rF _ _ (by omega)).mono ?_); rintro e u2 ⟨rfl, hb⟩; replace hs := hs.below hb; clear hb) | (go_at_call 54; (with_reducible refine (eG _ _ _ i (tC 8 0 v i) _ rfl rfl (by omega)).mono ?_); rintro e u2 ⟨rfl, hb⟩; replace hs := hs.below hb; clear hb) | (with_reducible refine mK rfl _ _ rfl w.heap.size _ rfl rfl _ hs.this ?_; intro wy hy))
 go_roundw
 case rel => exact yY
 case measure => exact xL) : p := h
theorem wM {p : Prop} (h : p := by
 have HG := Lib.hid G
 clear G
 go_wp2_with (first | (with_reducible refine mG rfl _ rfl _ rfl v hs.fst ?_) | (go_at_call 74; (with_reducible refine (HG.out _).mono ?_); rintro e u ⟨rfl, hb⟩; replace hs := hs.below hb; clear hb))
 go_roundw
 case rel => exact qX
 case measure => exact xL) : p := h
theorem wL {p : Prop} (h : p := by
 refine mN (St W (w.heap.size + 3) (mJ 0 16 (uV a b) k)) 5 (by kernel_rfl) (by kernel_rfl) hq.drew ?_
 simp only [zP, zN, zM, zL]
 (refine zK rfl _ rfl _ rfl _ (fun u hS => hS.this) ?_)
 repeat (refine z8 ?_)
 (refine zZ (.int .u64 (uV a b k : Nat)) 89 (c := fun u hS => by exact rhold16s _ _ (uV a b k) _ Ht.out (rq_fold a b k p Hp.out)) (r := ?_))
 (refine zZ (.agg (mY (t7 (mJ 0 16 (uV a b) k) 16 k (uV a b k)))) 68 (c := fun u hS => by exact v4 _ _ _ k (uV a b k) _ rfl rfl (by omega) (tR _)) (r := ?_))
 refine mH (fun wr2 hr => ?_)
 go_wp2_with ((with_reducible refine mK rfl _ _ rfl (w.heap.size + 3) _ rfl rfl _ hr.this ?_; intro wy hy))
 go_roundw
 case rel => exact xD
 case measure => exact xL) : p := h
theorem wH {p : Prop} (h : p := by
 clear hs
 obtain ⟨t, ht, rfl, rfl, hs⟩ := hrel
 by_cases htp : t < p
 ·exact mQ
 ·obtain rfl : t = p := by omega
  go_wp2_with (first | (go_at_call 82; ((with_reducible refine (pH _).mono ?_); rintro e w' ⟨rfl, rfl⟩)) | (with_reducible refine mG rfl _ rfl _ rfl _ hs.this ?_) | (go_at_call 68; (with_reducible refine (vN (mJ 0#128 64 (shR 64 12 t v) i) _ _ i (g t) _ rfl rfl hlt HZ2.out).mono ?_); rintro e u ⟨rfl, hb⟩; replace hs := hs.below hb; clear hb) | (with_reducible refine mK rfl _ _ rfl O _ rfl rfl _ hs.this ?_; intro wq hq; replace hs := hs.sets hq; clear hq))
  go_roundw
  case rel => exact xH
  case measure => exact xL) : p := h
theorem wE {p : Prop} (h : p := by
 clear hs
 obtain ⟨t, ht, rfl, rfl, hs⟩ := hrel
 by_cases htp : t < p
 ·exact mQ
 ·obtain rfl : t = p := by omega
  go_wp2_with (first | (go_at_call 82; ((with_reducible refine (pR _).mono ?_); rintro e w' ⟨rfl, rfl⟩)) | (with_reducible refine mG rfl _ rfl _ rfl _ hs.this ?_) | (go_at_call 68; (with_reducible refine (vM (mJ 0#128 32 (shR 32 12 t v) i) _ _ i (g t) _ rfl rfl hlt HZ2.out).mono ?_); rintro e u ⟨rfl, hb⟩; replace hs := hs.below hb; clear hb) | (with_reducible refine mK rfl _ _ rfl O _ rfl rfl _ hs.this ?_; intro wq hq; replace hs := hs.sets hq; clear hq))
  go_roundw
  case rel => exact xH
  case measure => exact xL) : p := h
theorem wD {p : Prop} (h : p := by
 clear hs
 obtain ⟨t, ht, rfl, rfl, hs⟩ := hrel
 by_cases htp : t < p
 ·exact mQ
 ·obtain rfl : t = p := by omega
  go_wp2_with (first | (go_at_call 82; ((with_reducible refine (pP _).mono ?_); rintro e w' ⟨rfl, rfl⟩)) | (with_reducible refine mG rfl _ rfl _ rfl _ hs.this ?_) | (go_at_call 68; (with_reducible refine (v4 (mJ 0#128 16 (shR 16 12 t v) i) _ _ i (g t) _ rfl rfl hlt HZ2.out).mono ?_); rintro e u ⟨rfl, hb⟩; replace hs := hs.below hb; clear hb) | (with_reducible refine mK rfl _ _ rfl O _ rfl rfl _ hs.this ?_; intro wq hq; replace hs := hs.sets hq; clear hq))
  go_roundw
  case rel => exact xH
  case measure => exact xL) : p := h
theorem wC {p : Prop} (h : p := by
 clear hs
 obtain ⟨t, ht, rfl, rfl, hs⟩ := hrel
 by_cases htp : t < p
 ·exact mQ
 ·obtain rfl : t = p := by omega
  go_wp2_with (first | (go_at_call 82; ((with_reducible refine (v6 _).mono ?_); rintro e w' ⟨rfl, rfl⟩)) | (with_reducible refine mG rfl _ rfl _ rfl _ hs.this ?_) | (go_at_call 68; (with_reducible refine (uA (mJ 0#128 8 (shR 8 12 t v) i) _ _ i (g t) _ rfl rfl hlt HZ2.out).mono ?_); rintro e u ⟨rfl, hb⟩; replace hs := hs.below hb; clear hb) | (with_reducible refine mK rfl _ _ rfl O _ rfl rfl _ hs.this ?_; intro wq hq; replace hs := hs.sets hq; clear hq))
  go_roundw
  case rel => exact xH
  case measure => exact xL) : p := h
theorem n3 {p : Prop} (h : p := by
 as_aux_lemma =>
 go_wp2_with fail
 go_roundw
 case rel => exact yX
 case measure => exact xL) : p := h
theorem n4 {p : Prop} (h : p := by
 go_wp2_with (first | (with_reducible refine mG rfl _ rfl _ rfl _ hq.this ?_) | (go_at_call 54; refine (rN _ _ _ k (q15N a b k) _ rfl Hv.out (by omega)).mono ?_; rintro e u2 ⟨rfl, hb⟩; have hq2 := hq.below hb) | (with_reducible refine mK rfl _ _ rfl (w.heap.size + 3) _ rfl rfl _ hq2.this ?_; intro wz hz))
 go_roundw
 case rel => exact gU
 case measure => exact xL) : p := h
theorem n5 {p : Prop} (h : p := by
 as_aux_lemma =>
 go_wp2_with fail
 go_roundw
 case rel => exact yV
 case measure => exact xL) : p := h
theorem n6 {p : Prop} (h : p := by
 have hq : ((m : Int) != 2) = true := bne_iff_ne.2 (by omega)
 clear h hop
 go_enter Try.func75, Try.ntmps75
 exact y6) : p := h
theorem n7 {p : Prop} (h : p := by
 have hq : ((m : Int) != 2) = true := bne_iff_ne.2 (by omega)
 clear h hop
 go_enter Try.func19, Try.ntmps19
 exact y6) : p := h
theorem n8 {p : Prop} (h : p := by
 clear hs
 obtain ⟨rfl, hs⟩ := hrel
 go_wp2_with fail
 go_roundw
 case rel => exact qY
 case measure => exact xL) : p := h
theorem n9 {p : Prop} (h : p := by
 have HOP := Lib.hid hop
 clear hop
 go_wp2_with fail
 go_roundw
 case rel => exact yW
 case measure => exact xL) : p := h
theorem nQ {p : Prop} (h : p := by
 first | exact ⟨i, by omega, by go_num, by rw [← HM2.out]; first | rfl | (congr 1; omega), by first | trivial | rfl⟩ | ((repeat apply Exists.intro); exact ⟨⟨i, by omega, by go_num, by rw [← HM2.out]; first | rfl | (congr 1; omega), by first | trivial | rfl⟩, rfl⟩)) : p := h
theorem nZ {p : Prop} (h : p := by
 rw [e2] at hs
 clear e2 HM
 go_wp2_with fail
 go_roundw
 case rel => exact y8
 case measure => exact xL) : p := h
theorem nX {p : Prop} (h : p := by
 first | exact ⟨i + 1, by omega, by go_num, hs⟩ | ((repeat apply Exists.intro); exact ⟨⟨i + 1, by omega, by go_num, hs⟩, rfl⟩)) : p := h
theorem nW {p : Prop} (h : p := by
 obtain rfl : k = 8 := by omega
 exact xK) : p := h
theorem nY {p : Prop} (h : p := by
 obtain rfl : k = 4 := by omega
 exact xK) : p := h
theorem nJ {p : Prop} (h : p := by
 have HX := Lib.hid hnx
 clear hnx
 by_cases hf : op < r.fr
 ·have hm1 : decide (op < r.fr) = true := by simp [hf]
  exact yJ
 ·have hm1 : decide (op < r.fr) = false := by simp; omega
  have hm2 : decide (r.to < op) = true := by simp; omega
  exact yJ) : p := h
theorem nK {p : Prop} (h : p := by
 go_enter Try.func75, Try.ntmps75
 exact y6) : p := h
theorem nG {p : Prop} (h : p := by
 go_enter Try.func19, Try.ntmps19
 exact y6) : p := h
theorem nV {p : Prop} (h : p := by
 go_wp2_with (refine mP rfl _ _ rfl (w.heap.size + 4) i _ (sA s a b i) rfl rfl _ hs.this hli HV.out ?_; intro wy hy)
 go_roundw
 case rel => exact ⟨i + 1, by omega, by go_num, HNx, hs.sets hy⟩
 case measure => exact xL) : p := h
theorem nU {p : Prop} (h : p := by
 exact hZ.trans ((hs.below.mono (Nat.le_refl _)).trans (hq.below.mono (by omega)))) : p := h
theorem nT {p : Prop} (h : p := by
 first | exact ⟨i + 1, by omega, by go_num, hs.eqX (HM.out hyes)⟩ | ((repeat apply Exists.intro); exact ⟨⟨i + 1, by omega, by go_num, hs.eqX (HM.out hyes)⟩, rfl⟩)) : p := h
theorem nS {p : Prop} (h : p := by
 obtain rfl : i = 16 := by omega
 exact xK) : p := h
theorem nP {p : Prop} (h : p := by
 as_aux_lemma =>
 go_wp2_with fail
 go_roundw
 case rel => exact qE
 case measure => exact xL) : p := h
theorem nN {p : Prop} (h : p := by
 obtain rfl : k = 8 := by omega
 exact xP) : p := h
theorem nM {p : Prop} (h : p := by
 as_aux_lemma =>
 obtain ⟨rfl, rfl⟩ := hr2 (by decide)
 clear hr1 hr2
 go_wp2_with fail
 go_roundw
 case rel => exact gY
 case measure => exact xL) : p := h
theorem nL {p : Prop} (h : p := by
 as_aux_lemma =>
 obtain ⟨rfl, rfl⟩ := hr1 (by decide)
 clear hr1 hr2
 go_wp2_with fail
 go_roundw
 case rel => exact gJ
 case measure => exact xL) : p := h
theorem nH {p : Prop} (h : p := by
 go_wp2_with fail
 go_roundw
 case rel => exact qD
 case measure => exact xL) : p := h
theorem nF {p : Prop} (h : p := by
 obtain rfl : k = 2 := by omega
 exact xK) : p := h
theorem nE {p : Prop} (h : p := by
 obtain rfl : i = 8 := by omega
 exact xK) : p := h
theorem nD {p : Prop} (h : p := by
 obtain rfl : i = 4 := by omega
 exact xK) : p := h
theorem nC {p : Prop} (h : p := by
 obtain rfl : i = 2 := by omega
 exact xK) : p := h
theorem nB {p : Prop} (h : p := by
 have : decide (j < i + 1) = decide (j < i) := gR
 rw [this]) : p := h
theorem nA {p : Prop} (h : p := by
 go_enter Try.func67, Try.ntmps67
 exact qM) : p := h
theorem m0 {p : Prop} (h : p := by
 obtain rfl : k = 8 := by omega
 exact xF) : p := h
theorem m1 {p : Prop} (h : p := by
 obtain rfl : k = 4 := by omega
 exact xF) : p := h
theorem m3 {p : Prop} (h : p := by
 obtain rfl : k = 2 := by omega
 exact xF) : p := h
theorem m5 {p : Prop} (h : p := by
 have ha := ha w
 have hc : w.cell? ⟨g, j, none⟩ = some v := by simp [World.cell?, hg, hv]
 exact qP) : p := h
theorem m6 {p : Prop} (h : p := by
 rw [hlen, show n + (l.toArray.size - n) = l.toArray.size by omega] at this
 exact this) : p := h
theorem m7 {p : Prop} (h : p := by
 have q0 : (K == 77) = false := beq_eq_false_iff_ne.2 (by omega)
 have q1 : (K == 82) = false := beq_eq_false_iff_ne.2 (by omega)
 clear ho hw h
 exact nK) : p := h
theorem m9 {p : Prop} (h : p := by
 have q0 : (K == 77) = false := beq_eq_false_iff_ne.2 (by omega)
 have q1 : (K == 82) = false := beq_eq_false_iff_ne.2 (by omega)
 clear ho hw h
 exact nG) : p := h
theorem mQ {p : Prop} (h : p := by
 obtain ⟨gs1, gs2⟩ := GS.out t
 exact xN) : p := h
theorem mZ {p : Prop} (h : p := by
 as_aux_lemma =>
 go_wp2_with fail
 go_roundw
 case rel => exact yC
 case measure => exact xL) : p := h
theorem mX {p : Prop} (h : p := by
 as_aux_lemma =>
 go_wp2_with fail
 go_roundw
 case rel => exact yB
 case measure => exact xL) : p := h
theorem mW {p : Prop} (h : p := by
 as_aux_lemma =>
 go_wp2_with fail
 go_roundw
 case rel => exact yA
 case measure => exact xL) : p := h
end Pl
