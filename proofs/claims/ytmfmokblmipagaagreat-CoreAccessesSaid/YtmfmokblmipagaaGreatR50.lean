/-
  Texts Ti3.
-/
import Derived.Test.YtmfmokblmipagaaGreatR47
set_option linter.unusedSimpArgs false
set_option linter.unusedVariables false
set_option maxHeartbeats 8000000
open Pl
namespace Go.Proofs.YtmfmokblmipagaaGreat
open Go.RowKit Pl
set_option maxRecDepth 100000 in
theorem access_s (op a : Int) (off lo : Nat) (hi : Int) (L : Value) (x : Nat) (v : Vec) (pages : Nat) (r : Row) (w : World) (hp : pages ≤ 2) (hx : x < 4294967296) (ho : off < 4294967296) (hor : -9223372036854775808 ≤ op ∧ op ≤ 9223372036854775807) (hr : vrowAt op = some r) (hrl : (tyIn r).length = 2) (hvst : vst op = true)
 (hA : AccP true op a off lo hi L x v (65536 * pages) (layB (65536 * pages)) true) :
 Calls Tryz.prog 7 #[inV op a off lo hi L, .int .u32 (x : Int), .agg (cells v), .int .i64 (pages : Int)] w fun e w' => e = .returned (.bool true) ∧ Below w.heap.size w w' := by
 have HN := Lib.hid (fun W => rnew_ok pages 3 W (by omega) (.inr ⟨by omega, by decide⟩))
 have HOF := Lib.hid (fun W => rof_row op r W hr)
 have HSP := Lib.hid (fun (V : Vec) W => rsplit_s V W)
 have HST := Lib.hid (fun W => rst_any op W)
 rw [hvst] at HST
 have HACC := Lib.hid hA
 have HRL := Lib.hid hrl
 clear hr hA hvst hrl
 unfold inV
 go_enter Tryz.func7, Tryz.ntmps7
 go_upto_region 2 with (go_at_call 14; refine (HN.out _).mono ?_; rintro e u1 ⟨oa, rfl, hfa⟩)
 go_upto_region 3 with (go_at_call 14; refine (HN.out _).mono ?_; rintro e u2 ⟨ob, rfl, hfb⟩)
 have hI1 := blk_keep (heap_alloc2_old w (.cells #[.int .i64 op, .int .i64 a, .int .i64 (off : Int), .int .u64 (lo : Int), .int .u64 hi, L] 25) (.cells (cells v) 28)) hfa.bel
 have hV1 := blk_keep (heap_alloc2_new w (.cells #[.int .i64 op, .int .i64 a, .int .i64 (off : Int), .int .u64 (lo : Int), .int .u64 hi, L] 25) (.cells (cells v) 28)) hfa.bel
 have hI2 := blk_keep hI1 hfb.bel
 have hV2 := blk_keep hV1 hfb.bel
 have hs1 : w.heap.size + 2 ≤ u1.heap.size := by have := hfa.bel.size; simp at this; omega
 have hb0 : Below w.heap.size w u2 := ((((Below.refl _ _).alloc (Nat.le_refl _) _).alloc (by simp) _).trans (hfa.bel.mono (by simp; omega))).trans (hfb.bel.mono (by omega))
 obtain ⟨n, hn⟩ : ∃ n, n = 65536 * pages := ⟨_, rfl⟩
 have hna : oa.n = n := by rw [hfa.hn, hn]
 have hnb : ob.n = n := by rw [hfb.hn, hn]
 have ha2 : MemAt u2 (withβ oa (layB 0)) := (hfa.mem.below hfb.bel).reb (fun i hi => by rw [layB_zero, hfa.hβ i (by rw [hna, hn] at hi; exact hi)])
 have hb2 : MemAt u2 (withβ ob (layB 0)) := hfb.mem.reb (fun i hi => by rw [layB_zero, hfb.hβ i (by rw [hnb, hn] at hi; exact hi)])
 have hanew : ∀ k, oa.has k → w.heap.size + 2 ≤ k := fun k hk => by have := hfa.new k hk; simp at this; omega
 have habl : ∀ k, oa.has k → k < u1.heap.size := fun k hk => hfa.mem.has_lt hk
 have hbnew : ∀ k, ob.has k → u1.heap.size ≤ k := hfb.new
 have hn2 : n ≤ 131072 := by omega
 have HF := Lib.hid (And.intro hanew (And.intro habl hbnew))
 have HI2 := Lib.hid hI2
 have HV2 := Lib.hid hV2
 have HB0 := Lib.hid hb0
 have HN0 := Lib.hid hn
 clear hI1 hV1 hI2 hV2 hfa hfb hb0 hanew habl hbnew hn HN
 go_upto_region 4 with fail
 go_loopw [13] (fun iv wr => ∃ i : Nat, i ≤ n ∧ iv = .int .i64 (i : Int) ∧ Hid (MemAt wr (withβ oa (layB i))) ∧ Hid (MemAt wr (withβ ob (layB i))) ∧ Hid (Keep (fun k => oa.q = some k ∨ ob.q = some k) u2 wr)) (fun iv _ => n - (intOf iv).toNat)
 case atStart => exact ⟨0, Nat.zero_le _, rfl, Lib.hid ha2, Lib.hid hb2, Lib.hid (Keep.refl _ _)⟩
 case round =>
  clear ha2 hb2
  obtain ⟨i, hi, rfl, HA, HBm, HK⟩ := hrel
  have ma := HA.out.c0
  simp only [withβ] at ma
  rw [hna] at ma
  by_cases hlt : i < n
  ·obtain ⟨qa, hqa, hra⟩ := HA.out.row.pos (by show _ < oa.n; omega)
   obtain ⟨qb, hqb, hrb⟩ := HBm.out.row.pos (by show _ < ob.n; omega)
   have hqa' : oa.q = some qa := hqa
   have hqb' : ob.q = some qb := hqb
   rw [hqa', show headOf (some qa) = some ⟨qa, 0, none⟩ from rfl] at ma
   have hca := BytesAt.cell hra (i := i) (by show _ < oa.n; omega)
   have hfa := BytesAt.frozen hra i
   have hle := BytesAt.le hra
   have HQ := Lib.hid (And.intro hqa' hqb')
   have HRB := Lib.hid hrb
   clear hqa hqb hqa' hqb' hra hrb
   go_upto_region 7 with fail
   rw [patB_bits]
   obtain ⟨W1, hW1⟩ : ∃ W1, W1 = wr.setCell ⟨qa, i, none⟩ (.int .u8 (patB i : Int)) := ⟨_, rfl⟩
   have h1a : MemAt W1 (withβ oa (layB (i + 1))) := by
    have := HA.out.set HQ.out.1 (i := i) (x := patB i) (by show _ < oa.n; omega) (patB_lt i)
    rw [show withβ (withβ oa (layB i)) (upd (withβ oa (layB i)).β i (patB i)) = withβ oa (upd (layB i) i (patB i)) from rfl, layB_succ] at this
    rw [hW1]
    exact this
   have h1b : MemAt W1 (withβ ob (layB i)) := HBm.out.keep (S := fun k => k = qa) (hW1 ▸ keep_set wr qa i _) (fun b hb e => by
    have h1 := HF.out.2.2 b hb
    have h2 := HF.out.2.1 qa (.inr HQ.out.1)
    omega)
   have h1k : Keep (fun k => oa.q = some k ∨ ob.q = some k) u2 W1 := hW1 ▸ HK.out.setCell (.inl (.inl HQ.out.1)) _
   rw [← hW1]
   have ma1 := h1a.c0
   have mb1 := h1b.c0
   have hra1 := h1a.row
   have hrb1 := h1b.row
   simp only [withβ] at ma1 mb1 hra1 hrb1
   rw [hna, HQ.out.1] at ma1
   rw [hnb, HQ.out.2] at mb1
   rw [HQ.out.1] at hra1
   rw [HQ.out.2] at hrb1
   rw [show headOf (some qa) = some ⟨qa, 0, none⟩ from rfl] at ma1
   rw [show headOf (some qb) = some ⟨qb, 0, none⟩ from rfl] at mb1
   have ca1 := BytesAt.cell hra1 (i := i) (by omega)
   have cb1 := BytesAt.cell hrb1 (i := i) (by omega)
   have fb1 := BytesAt.frozen hrb1 i
   have lb1 := BytesAt.le hrb1
   rw [show layB (i + 1) i = patB i by simp [layB]] at ca1
   have hset : MemAt (W1.setCell ⟨qb, i, none⟩ (.int .u8 (patB i : Int))).drew (withβ ob (layB (i + 1))) := by
    have := h1b.set HQ.out.2 (i := i) (x := patB i) (by show _ < ob.n; omega) (patB_lt i)
    rw [show withβ (withβ ob (layB i)) (upd (withβ ob (layB i)).β i (patB i)) = withβ ob (upd (layB i) i (patB i)) from rfl, layB_succ] at this
    exact this.drew
   have hsea : MemAt (W1.setCell ⟨qb, i, none⟩ (.int .u8 (patB i : Int))).drew (withβ oa (layB (i + 1))) := (h1a.keep (S := fun k => k = qb) (keep_set W1 qb i _) (fun b hb e => by
    have h1 := HF.out.2.2 qb (.inr HQ.out.2)
    have h2 := HF.out.2.1 b hb
    omega)).drew
   have hkk : Keep (fun k => oa.q = some k ∨ ob.q = some k) u2 (W1.setCell ⟨qb, i, none⟩ (.int .u8 (patB i : Int))).drew := (h1k.setCell (.inl (.inr HQ.out.2)) _).drew
   have HSET := Lib.hid (And.intro hset (And.intro hsea hkk))
   clear hset hsea hkk hra1 hrb1 h1a h1b h1k hW1 hca hfa hle ma HRB HA HBm HK
   go_region
   go_wp2
   exact ⟨⟨i + 1, by omega, by go_num, Lib.hid HSET.out.2.1, Lib.hid HSET.out.1, Lib.hid HSET.out.2.2⟩, by simp [intOf]; omega⟩
  ·obtain rfl : i = n := by omega
   have hI := HK.out.get HI2.out (fun h => by
    rcases h with h | h
    ·have := HF.out.1 _ (.inr h); omega
    ·have := HF.out.2.2 _ (.inr h); omega)
   have hV := HK.out.get HV2.out (fun h => by
    rcases h with h | h
    ·have := HF.out.1 _ (.inr h); omega
    ·have := HF.out.2.2 _ (.inr h); omega)
   have hbw := Keep.below HB0.out HK.out HB0.out.size (fun k h => by
    rcases h with h | h
    ·have := HF.out.1 _ (.inr h); omega
    ·have := HF.out.2.2 _ (.inr h); omega)
   have HBW := Lib.hid hbw
   clear HI2 HV2 HB0 HK hbw hlt hi
   go_upto_region 9 with (first | (go_at_call 15; refine (HOF.out _).mono ?_; rintro e u5 ⟨s, t, pl, rfl, hs, ht, hb5⟩; rw [HRL.out] at hs; obtain ⟨sa, sc, rfl⟩ := own_slice hs; replace hI := blk_keep hI hb5; replace hV := blk_keep hV hb5) | ((with_reducible refine store_newk rfl 50 _ _ rfl _ _ rfl rfl (infsize _ _ _ _ _) (five_sz _ _ _ _ _ _ _ _ _ _) (all5 _ _ _ (owns_one hs).1 (owns_one ht).1) ?_); intro u6 hb6 hF lF; replace hI := blk_keep hI hb6; replace hV := blk_keep hV hb6) | ((with_reducible refine load_w ?_ 3 isAgg_int _ rfl _ _ rfl _ _ hI _ rfl ?_); (focus rfl)))
   have hb56 := HBW.out.trans ((hb5.trans (hb6.mono hb5.size)).mono HBW.out.size)
   have HBW := Lib.hid hb56
   have HMA := Lib.hid ((HA.out.below hb5).below hb6)
   have HMB := Lib.hid ((HBm.out.below hb5).below hb6)
   clear hb5 hb6 hb56 lF ht hs HA HBm ma HOF
   go_upto_region 11 with (first | ((with_reducible refine load_w ?_ 23 isAgg_slint _ rfl _ _ rfl _ _ hF _ rfl ?_); (focus rfl)) | ((with_reducible refine load_w ?_ 22 isAgg_u6 _ rfl _ _ rfl _ _ hH _ rfl ?_); (focus rfl)) | (with_reducible refine load_vec rfl _ rfl _ rfl _ hV ?_) | (go_at_call 16; refine (HSP.out _ _).mono ?_; rintro e u7 ⟨rfl, hb7⟩; replace hI := blk_keep hI hb7; replace hV := blk_keep hV hb7; replace hF := blk_keep hF hb7) | ((with_reducible refine store_newk rfl 54 _ _ rfl _ _ rfl rfl (hsize _ _) rfl (hall _ _) ?_); intro u8 hb8 hH lH; replace hI := blk_keep hI hb8; replace hV := blk_keep hV hb8; replace hF := blk_keep hF hb8))
   obtain ⟨W0, hW⟩ : ∃ W0, W0 = ((u7.alloc (.cells #[.int .u64 (getN v 64 0 : Int), .int .u64 (getN v 64 1 : Int)] 54)).alloc (.cells #[.int .u64 (x : Int)] 22)) := ⟨_, rfl⟩
   have hbW : Below u7.heap.size u7 W0 := hW ▸ ((Below.refl _ _).alloc (Nat.le_refl _) _).alloc (by simp) _
   have hH : W0.heap[u7.heap.size]? = some (.cells #[.int .u64 (getN v 64 0 : Int), .int .u64 (getN v 64 1 : Int)] 54 (0, 0)) := hW ▸ heap_alloc2_old _ _ _
   have hX : W0.heap[u7.heap.size + 1]? = some (.cells #[.int .u64 (x : Int)] 22 (0, 0)) := hW ▸ heap_alloc2_new _ _ _
   have hFO : u5.heap.size < u7.heap.size + 1 := by have := block_lt hF; omega
   have hIO : w.heap.size + 2 ≤ u7.heap.size + 1 := by have := block_lt hV; omega
   rw [← hW]
   replace hI := blk_keep hI hbW; replace hV := blk_keep hV hbW; replace hF := blk_keep hF hbW
   have hO7 : w.heap.size ≤ u7.heap.size + 1 := by have := HBW.out.size; have := hb7.size; omega
   have HOO := Lib.hid (show ∀ k, oa.has k ∨ ob.has k → k < u7.heap.size + 1 from fun k hk => by
    have := hb7.size
    rcases hk with hk | hk
    ·have := MemAt.has_lt HMA.out (o := withβ oa (layB i)) hk; omega
    ·have := MemAt.has_lt HMB.out (o := withβ ob (layB i)) hk; omega)
   have hb8 := HBW.out.trans ((hb7.trans (hbW.mono hb7.size)).mono HBW.out.size)
   have hma8 := (HMA.out.below hb7).below hbW
   have hmb8 := (HMB.out.below hb7).below hbW
   have HBW := Lib.hid hb8
   have HMA := Lib.hid hma8
   have HMB := Lib.hid hmb8
   have HOW := Lib.hid (fun k (hk : oa.has k) => MemAt.has_lt HMA.out (o := withβ oa (layB i)) hk)
   generalize u7.heap.size + 1 = O at hX hO7 HOO hFO hIO ⊢
   generalize u7.heap.size = H at hH ⊢
   clear hW hbW hb7 hb8 hma8 hmb8
   have HOWN := Lib.hid (show W0.ownsRow w.heap.size 22 1 (.slice (some ⟨O, 0, none⟩) 1 1) [w64 x].length (u6s [w64 x]) from ⟨rfl, .inr ⟨O, 1, _, rfl, hO7, hX, Nat.le_refl _, by unfold maxLen; omega, rfl, by simp [u6s, w64_nat x (by omega)]⟩⟩)
   obtain ⟨k, cs, E, Y, β2, hk, hcl, hne, hSEQ, hLD, hSTO, hE, hAcc⟩ : ∃ (k : Nat) (cs : List Cel) (E : Int) (Y : Vec) (β2 : Nat → Nat), _ := by
    have hacc := HACC.out
    rw [← HN0.out] at hacc
    exact hacc.ex
   clear HACC
   have HSEQ := Lib.hid hSEQ
   have HNE := Lib.hid hne
   have HAC := Lib.hid hAcc
   have HEE := Lib.hid hE
   have HSTO := Lib.hid (hSTO rfl)
   clear hSTO
   clear hSEQ hAcc hE hLD hne
   go_upto_region 13 with (first | ((with_reducible refine load_w ?_ 23 isAgg_slint _ rfl _ _ rfl _ _ hF _ rfl ?_); (focus rfl)) | ((with_reducible refine load_w ?_ 22 isAgg_u6 _ rfl _ _ rfl _ _ hH _ rfl ?_); (focus rfl)) | (with_reducible refine load_vec rfl _ rfl _ rfl _ hV ?_) | (go_at_call 16; refine (HSP.out _ _).mono ?_; rintro e u7 ⟨rfl, hb7⟩; replace hI := blk_keep hI hb7; replace hV := blk_keep hV hb7; replace hF := blk_keep hF hb7) | ((with_reducible refine store_newk rfl 54 _ _ rfl _ _ rfl rfl (hsize _ _) rfl (hall _ _) ?_); intro u8 hb8 hH lH; replace hI := blk_keep hI hb8; replace hV := blk_keep hV hb8; replace hF := blk_keep hF hb8) | (at_builtin; refine app_u rfl _ _ rfl w.heap.size (.slice (some ⟨O, 0, none⟩) 1 1) [w64 x] [w64 (getN v 64 0), w64 (getN v 64 1)] rfl (own_below HOWN.out ((Below.refl _ _).alloc (Nat.le_refl _) _)) W0.heap.size 0 2 2 rfl rfl (app_src v W0) (by simp) (by have := HBW.out.size; simp; omega) ?_; intro v2 W hown2 g7 hn7; obtain ⟨ad2, c2, rfl⟩ := own_slice hown2; have G7 := Lib.hid (And.intro hown2 (And.intro g7 hn7)); clear hown2 g7 hn7))
   obtain ⟨hown2, g7, hn7⟩ := G7.out
   have hOW0 := block_lt hX
   have kp : Keep (fun k => k = O) W0 W := ⟨g7.os, g7.tape, g7.output, Nat.le_trans (by simp) g7.size, fun k hk hne => (g7.block k (by simp; omega) (fun e => hne (by injection e))).trans (((Below.refl _ _).alloc (Nat.le_refl _) _).block k hk)⟩
   replace hI := kp.get hI (by omega)
   replace hV := kp.get hV (by omega)
   replace hF := kp.get hF (by omega)
   replace hX := VS.of_own2 hown2 (by simp)
   have hmaT := HMA.out.keep kp (fun b hb e => by have := HOO.out b (.inl hb); omega)
   have hmbT := HMB.out.keep kp (fun b hb e => by have := HOO.out b (.inr hb); omega)
   have hbwT := Keep.below HBW.out kp HBW.out.size (fun k e => e ▸ hO7)
   have HMA := Lib.hid hmaT
   have HMB := Lib.hid hmbT
   have HBW := Lib.hid hbwT
   have HOW := Lib.hid (fun k (hk : oa.has k) => MemAt.has_lt HMA.out (o := withβ oa (layB i)) hk)
   have HOX := Lib.hid (show ∀ (b n c m : Nat), (Value.slice ad2 m c2 : Value) = .slice (some ⟨b, 0, none⟩) n c → ¬ ob.has b from fun b n c m e hb => by
    have h1 := HOO.out b (.inr hb)
    injection e with e1
    subst e1
    rcases hn7 b rfl with h2 | h2
    ·simp only [Value.ownBlock, Option.some.injEq] at h2
     omega
    ·simp at h2
     omega)
   clear G7 hown2 g7 hn7 hOW0 kp hmaT hmbT hbwT HOWN HOO hH
   have HOWb := Lib.hid (fun k (hk : ob.has k) => MemAt.has_lt HMB.out (o := withβ ob (layB i)) hk)
   go_upto_region 22 with (first | ((with_reducible refine load_ins ?_ _ rfl _ rfl _ _ _ _ _ _ hI ?_); (focus rfl)) | (go_at_call 11; refine (HSEQ.out _).mono ?_; rintro e u9 ⟨sv, rfl, hsq⟩; replace hI := blk_keep hI hsq.bel; replace hV := blk_keep hV hsq.bel; replace hF := blk_keep hF hsq.bel; replace hX := hX.below hsq.bel) | ((with_reducible refine load_w ?_ 3 isAgg_int _ rfl _ _ rfl _ _ hI _ rfl ?_); (focus rfl)) | (go_at_call 17; refine (HST.out _).mono ?_; rintro e u10 ⟨rfl, hu10⟩; obtain rfl := hu10.symm) | (go_at_call 18; refine (HSTO.out _ (withβ ob (layB i)) (HMB.out.below hsq.bel) hnb rfl).mono ?_; rintro e W2 ⟨rfl, hms, hks⟩) | (with_reducible refine load_vec rfl _ rfl _ rfl _ hV ?_))
   have nob : ∀ k, k < w.heap.size + 2 → ¬ (withβ ob (layB i)).q = some k := fun k hk e => by
    have h1 := HF.out.2.2 k (.inr e)
    omega
   replace hms : MemAt W2 (withβ ob β2) := hms
   replace hI := hks.get hI (nob _ (by omega))
   replace hX := hX.keep hks (fun b n c e hb => HOX.out b n c _ e (.inr hb))
   obtain ⟨Xc, cX, rfl, hXc, cur, hcur1, hcur2⟩ := hsq.arg (by
    intro h
    subst h
    have hn2 := HNE.out
    exact hn2 rfl)
   have hcur := hks.get hcur1 (fun e => by
    have := HOWb.out Xc (.inr e)
    omega)
   have hma9 := (HMA.out.below hsq.bel).keep hks (fun b hb e => by
    have h1 := HF.out.2.2 b (.inr e)
    have h2 := HF.out.2.1 b hb
    omega)
   have hbw9 := Keep.below (HBW.out.trans (hsq.bel.mono HBW.out.size)) hks (Nat.le_trans HBW.out.size hsq.bel.size) (fun k e => by
    have h1 := HF.out.2.2 k (.inr e)
    omega)
   have HMA := Lib.hid hma9
   have HMB := Lib.hid hms
   have HBW := Lib.hid hbw9
   have HNV := Lib.hid (NV.nil W2)
   have HCU := Lib.hid (And.intro hcur (And.intro hcur2 hXc))
   clear nob hks hms hsq hcur1 hcur2 hcur hma9 hbw9 hF hV
   obtain ⟨Wv, L2, hRun, hLl, hL0, hL1, hLk, hVE⟩ := HAC.out.ex
   obtain ⟨m, hm⟩ : ∃ m : Nat, m = k + 3 := ⟨_, rfl⟩
   have e1 : IntKind.i64.wrap (2 + (k : Int)) = 2 + (k : Int) := IntWalk.i64_in _ (by omega)
   have e2 : IntKind.i64.wrap (2 + (k : Int) + 1) = (m : Int) := by rw [IntWalk.i64_in _ (by omega)]; omega
   have d64 : decide (64 < (k : Int)) = false := decide_eq_false (by omega)
   obtain ⟨Z, hZ⟩ : ∃ Z : List (BitVec 64), Z = List.replicate m 0 := ⟨_, rfl⟩
   have HZL := Lib.hid (show Z.length = m by rw [hZ]; simp)
   have hmk : ∀ U : World, (Instr.makeSlice 38 (.int .i64 (m : Int)) (.int .i64 (m : Int))).run Tryz.prog U = .ok (.slice (some ⟨U.heap.size, 0, none⟩) m m) (U.alloc (.cells (u6s Z).toArray 22)) := fun U => hZ ▸ make_u64 U m (by omega)
   rw [← hm] at hRun hLl
   rw [← hZ] at hRun
   have HR := Lib.hid hRun
   have HL := Lib.hid (And.intro hLl (And.intro hL0 (And.intro hL1 (And.intro hLk hVE))))
   have HM3 := Lib.hid (And.intro hm (show m ≤ 6 by omega))
   clear HAC hRun hLl hL0 hL1 hLk hVE hm hk hZ
   go_upto_region 27 with fail
   obtain ⟨W3, hW3⟩ : ∃ W3, W3 = ((W2.alloc (.cells #[.slice none 0 0, .slice none 0 0, .slice none 0 0, .slice none 0 0, .slice none 0 0, .slice none 0 0, .slice none 0 0, .int .i64 0, .slice none 0 0, .slice none 0 0, .slice none 0 0, .pointer (some ⟨oa.p, 0, none⟩), .slice none 0 0, .slice none 0 0] 73)).alloc (.cells (u6s Z).toArray 22)) := ⟨_, rfl⟩
   have hbW3 : Below W2.heap.size W2 W3 := hW3 ▸ ((Below.refl _ _).alloc (Nat.le_refl _) _).alloc (by simp) _
   have hS3 : W3.heap[W2.heap.size]? = some (.cells #[.slice none 0 0, .slice none 0 0, .slice none 0 0, .slice none 0 0, .slice none 0 0, .slice none 0 0, .slice none 0 0, .int .i64 0, .slice none 0 0, .slice none 0 0, .slice none 0 0, .pointer (some ⟨oa.p, 0, none⟩), .slice none 0 0, .slice none 0 0] 73 (0, 0)) := hW3 ▸ heap_alloc2_old _ _ _
   have hZ3 : W3.heap[W2.heap.size + 1]? = some (.cells (u6s Z).toArray 22 (0, 0)) := hW3 ▸ heap_alloc2_new _ _ _
   rw [← hW3]
   replace hI := blk_keep hI hbW3; replace hX := hX.below hbW3
   have hma3 := HMA.out.below hbW3
   have hmb3 := HMB.out.below hbW3
   have hbw3 := HBW.out.trans (hbW3.mono HBW.out.size)
   have HNV3 := Lib.hid (HNV.out.below hbW3)
   have hcu3 := blk_keep HCU.out.1 hbW3
   have hOA : ∀ k, oa.has k → w.heap.size + 2 ≤ k ∧ k < W2.heap.size := fun k hk => ⟨HF.out.1 k hk, HMA.out.has_lt (o := withβ oa (layB i)) hk⟩
   clear hW3 hbW3
   refine Calls.mono (over_k (some oa) W2.heap.size Xc cX _ _ cs _ Z (layB i) _ W3 ⟨_, hS3, rfl, rfl⟩ ⟨cur, hcu3, HCU.out.2.1⟩ (fun o ho => by
    injection ho with ho
    subst ho
    refine ⟨hma3, fun e => ?_, fun e => ?_⟩
    ·have := (hOA _ (.inr e)).2; omega
    ·have := HOW.out _ (.inr e); have := HCU.out.2.2; omega) (hX) ⟨_, m, _, by rw [HZL.out], hZ3, fun i x hx => by simp [u6s, hx]⟩ (by simp [opsA]) (by have := HM3.out.2; have := HZL.out; omega) (by omega) (HR.out.castN (by simp [hna]))) ?_
   rintro e u20 ⟨wv, lv, rfl, hov⟩
   have hmaF := hov.m oa rfl
   have hmbF := hmb3.keep hov.k (fun b hb ⟨o, ho, hq⟩ => by
    injection ho with ho
    subst ho
    have h1 := HF.out.2.1 b (.inr hq)
    have h2 := HF.out.2.2 b hb
    omega)
   have hbwF : Below w.heap.size w u20 := Keep.below hbw3 hov.k hbw3.size (fun k ⟨o, ho, hq⟩ => by
    injection ho with ho
    subst ho
    have := HF.out.1 k (.inr hq); omega)
   have hwF := NV.of_own hov.v
   have hlF := NV.of_own hov.l
   have hIF := hov.k.get hI (fun ⟨o, ho, hq⟩ => by
    injection ho with ho
    subst ho
    have := HF.out.1 _ (.inr hq); omega)
   obtain ⟨lb, lc, rfl, hlc⟩ := hlF.ex
   have hLL := HL.out
   obtain ⟨hL9, hLa, hLb, hLc, hVE⟩ := hLL
   obtain ⟨b1, rfl, hb1l, cl0⟩ := hlc 0 _ hLa
   obtain ⟨b2, he2, _, cl1⟩ := hlc 1 _ hLb
   obtain ⟨b3, he3, _, clk⟩ := hlc _ _ hLc
   injection he2 with he2
   injection he2 with he2
   subst he2
   injection he3 with he3
   injection he3 with he3
   subst he3
   dsimp only at hmaF hwF
   replace cl0 : u20.cell? ⟨b1, 0, none⟩ = some (.int .u64 0) := cl0
   replace cl1 : u20.cell? ⟨b1, 1, none⟩ = some (.int .u64 0) := cl1
   replace clk : u20.cell? ⟨b1, 0 + (k + 2), none⟩ = some (.int .u64 0) := by rw [Nat.zero_add]; exact clk
   have hNVF : NV u20 (.slice none 0 0) [] := NV.nil _
   have HVE := Lib.hid hVE
   have HNVF := Lib.hid hNVF
   have HWF := Lib.hid hwF
   have HBF := Lib.hid hbwF
   dsimp only
   rw [hL9]
   obtain ⟨S, hS⟩ : ∃ S, S = strB i β2 := ⟨_, rfl⟩
   have ca : ∀ U, Below u20.heap.size u20 U → (convert 45 9 (.slice (headOf oa.q) i oa.c)).run Tryz.prog U = .ok (.string S) U := fun U hU => by
    have h := (hmaF.below hU).row
    simp only [withβ] at h
    rw [hna] at h
    rw [hS]
    exact conv_bytes (BView.row h)
   have cb : ∀ U, Below u20.heap.size u20 U → (convert 45 9 (.slice (headOf ob.q) i ob.c)).run Tryz.prog U = .ok (.string S) U := fun U hU => by
    have h := (hmbF.below hU).row
    simp only [withβ] at h
    rw [hnb] at h
    rw [hS]
    exact conv_bytes (BView.row h)
   have pa := hmaF.c0
   have pb := hmbF.c0
   simp only [withβ] at pa pb
   rw [hna] at pa
   rw [hnb] at pb
   have hk9 := Lib.hid (show (2 : Int) + k = ((k + 2 : Nat) : Int) by omega)
   have h0m := Lib.hid (show 0 < m by have := HM3.out.1; omega)
   have h1m := Lib.hid (show 1 < m by have := HM3.out.1; omega)
   have hk8 := Lib.hid (show k + 2 < m by have := HM3.out.1; omega)
   clear hmaF hmbF hwF hNVF hov hI hX hma3 hmb3 hbw3 hcu3 hlF hlc hVE hLa hLb hLc hL9 hbwF hZ3 hS3 HMA HMB HBW HNV HNV3 hOA hS hmk
   go_upto_region 27 with fail
   refine region_do (fun U => Below u20.heap.size u20 U) 43 (by kernel_rfl) (by kernel_rfl) (Below.refl _ _).drew ?_
   simp only [zF, zE, zD, zC]
   repeat (first | (refine wpD_hereg rfl (fun U hS => run_conv _ _ _ rfl _ rfl _ (ca _ hS)) ?_; simp only [Act.put, z5, z6, z7]) | (refine wpD_hereg rfl (fun U hS => run_conv _ _ _ rfl _ rfl _ (cb _ hS)) ?_; simp only [Act.put, z5, z6, z7]) | (refine wpD_hereg rfl (fun U hS => run_ldq _ isAgg_bys _ rfl oa.p 0 rfl _ (cell_stay pa hS)) ?_; simp only [Act.put, z5, z6, z7]) | (refine wpD_hereg rfl (fun U hS => run_ldq _ isAgg_bys _ rfl ob.p 0 rfl _ (cell_stay pb hS)) ?_; simp only [Act.put, z5, z6, z7]) | (refine wpD_hereg rfl (fun U hS => run_ldq _ isAgg_u6 _ rfl b1 0 rfl _ (cell_stay cl0 hS)) ?_; simp only [Act.put, z5, z6, z7]) | (refine wpD_hereg rfl (fun U hS => run_ldq _ isAgg_u6 _ rfl b1 1 rfl _ (cell_stay cl1 hS)) ?_; simp only [Act.put, z5, z6, z7]) | (refine wpD_hereg rfl (fun U hS => run_ldq _ isAgg_u6 _ rfl b1 (0 + (k + 2)) rfl _ (cell_stay clk hS)) ?_; simp only [Act.put, z5, z6, z7]) | (refine wpD_hereg rfl (fun U hS => run_ixu3 _ _ rfl b1 0 m lc rfl 0 rfl 0 rfl h0m.out) ?_; simp only [Act.put, z5, z6, z7]) | (refine wpD_hereg rfl (fun U hS => run_ixu3 _ _ rfl b1 0 m lc rfl 1 rfl 1 rfl h1m.out) ?_; simp only [Act.put, z5, z6, z7]) | (refine wpD_hereg rfl (fun U hS => run_ixu3 _ _ rfl b1 0 m lc rfl (2 + (k : Int)) rfl (k + 2) hk9.out hk8.out) ?_; simp only [Act.put, z5, z6, z7]) | (refine wpD_pure (v := ?_) rfl (fun U => ?_) ?_; rotate_left; (focus (go_simp; (try with_reducible rfl); done)); simp only [Act.put, z5, z6, z7]) | (refine wpD_pureg (v := ?_) rfl (fun U => ?_) ?_; rotate_left; (focus (go_simp; (try with_reducible rfl); done)); simp only [Act.put, z5, z6, z7]) | (refine wpD_skip rfl ?_; simp only [Act.put, z5, z6, z7]))
   refine wpD_nil (fun u21 hb21 => ?_)
   clear ca cb pa pb cl0 cl1 clk
   have hW21 := HWF.out.below hb21
   have hN21 := HNVF.out.below hb21
   have hI21 := blk_keep hIF hb21
   have hb22 := HBF.out.trans (hb21.mono HBF.out.size)
   have HW21 := Lib.hid hW21
   have HN21 := Lib.hid hN21
   have HB22 := Lib.hid hb22
   clear hW21 hN21 hb22 hIF hb21
   rcases HEE.out with hE0 | ⟨hE23, hfar⟩
   ·have hVV : Wv = [] := HVE.out hE0
    subst hE0 hVV
    go_wp2_with (go_at_call 12; refine Calls.mono (samen_k _ _ _ _ HW21.out HN21.out (by simp)) ?_; rintro e u23 ⟨rfl, hb23⟩)
    go_ret
    exact ⟨rfl, HB22.out.trans (hb23.mono HB22.out.size)⟩
   ·subst hE23
    have HSZ := Lib.hid (fun U => rsz_any op U hor)
    have hvz : 0 ≤ vszN op ∧ vszN op ≤ 16 := vsz_small op
    rw [HN0.out] at hfar
    generalize vszN op = z at HSZ hfar hvz
    have f1 : IntKind.i64.wrap ((x : Int) + (off : Int)) = (x : Int) + (off : Int) := IntWalk.i64_in _ (by omega)
    have f2 : IntKind.i64.wrap ((x : Int) + (off : Int) + z) = (x : Int) + (off : Int) + z := IntWalk.i64_in _ (by omega)
    have f3 : IntKind.i64.wrap ((pages : Int) * 65536) = (pages : Int) * 65536 := IntWalk.i64_in _ (by omega)
    have f4 : decide ((pages : Int) * 65536 < (x : Int) + (off : Int) + z) = true := decide_eq_true (by omega)
    have f0 : IntKind.i64.wrap (x : Int) = (x : Int) := IntWalk.i64_in _ (by omega)
    have d0 : u21.cell? ⟨w.heap.size, 0, none⟩ = some (.int .i64 op) := by rw [cell_of_row u21 _ 0 _ _ _ hI21]; rfl
    have d2 : u21.cell? ⟨w.heap.size, 2, none⟩ = some (.int .i64 (off : Int)) := by rw [cell_of_row u21 _ 2 _ _ _ hI21]; rfl
    clear hfar hvz hI21
    go_wp2_with fail
    go_quiet ((go_at_call 5; exact Calls.quiet_of_same (HSZ.out _)))
    simp only [Exit.then]
    go_at_K
    go_wp2_with fail
    go_ret
    exact ⟨rfl, HB22.out.trans (Below.mono ⟨rfl, rfl, rfl, Nat.le_refl _, fun _ _ => rfl⟩ HB22.out.size)⟩
end Go.Proofs.YtmfmokblmipagaaGreat
