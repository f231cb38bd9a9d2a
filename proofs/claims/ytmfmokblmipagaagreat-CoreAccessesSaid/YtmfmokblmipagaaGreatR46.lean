/-
  Texts Tg.
-/
import Derived.Test.YtmfmokblmipagaaGreatR29
set_option linter.unusedSimpArgs false
set_option linter.unusedVariables false
set_option maxHeartbeats 8000000
open Pl
namespace Go.Proofs.YtmfmokblmipagaaGreat
open Go.RowKit Pl
theorem over_end2 {f : FX} {sb X cX F fb : Nat} {w w1 u : World} {s : CS} {v l sg : Value} (hf : f = ⟨w.heap.size, F, fb, sb, X, sg, cX, none⟩) (hF : w.heap.size ≤ F) (hb : Below w.heap.size w w1) (h : IS f w1 s u)
 (hv : u.ownsRow w1.heap.size 22 1 v s.V.length (u6s s.V)) (hl : u.ownsRow w1.heap.size 22 1 l s.L.length (u6s s.L)) (n : Nat) : OV none w s v l (u.drewN n) := by
 have hk := h.keep
 rw [hf] at hk
 refine ⟨own_base hv hb.size, own_base hl hb.size, (fun o ho => by cases ho), ⟨hk.os.trans hb.os, hk.tape.trans hb.tape, hk.output.trans hb.output, Nat.le_trans hb.size hk.size, fun k hlt hn => (hk.block k (Nat.lt_of_lt_of_le hlt hb.size) (fun hm2 => ?_)).trans (hb.block k hlt)⟩⟩
 rcases hm2 with e | e | ⟨o, ho, _⟩
 ·simp only at e; omega
 ·simp only at e; omega
 ·cases ho
theorem app_nilnil (T : TypeId) (w : World) : (Builtin.append_ #[38, 38] T #[.slice none 0 0, .slice none 0 0]).run Tryz.prog w = .ok (.slice none 0 0) w := by kernel_rfl
theorem app_nil2 {ops : Array Oper} {rest : List Oper} {o : Oper} {a : Act} {w : World} {Q : Exit → Act → World → Prop} (hgd : o.guard = none) (s x : Operand) (ho : o.op = .call { callee := .builtin .append, args := #[s, x], argTypes := #[38, 38] })
 (hs : a.eval s = .slice none 0 0) (hx : a.eval x = .slice none 0 0) (h : wpList Tryz.prog ops Q rest (a.put o.dst (.slice none 0 0)) w) : wpList Tryz.prog ops Q (o :: rest) a w := by
 refine wpList_plain hgd fun K hK => ?_
 unfold Oper.wp execOp
 simp only [ho, resolve, invoke, builtin, Sem.run_bind, Sem.run_pure, Result.andThen_ok, List.map_toArray, List.map_cons, List.map_nil, hs, hx, app_nilnil]
 exact hK _ _ h
set_option maxRecDepth 100000 in
theorem over_nil (X cX : Nat) (vv lv : Value) (cs : List Cel) (V L : List (BitVec 64)) (β : Nat → Nat) (s2 : CS) (w : World)
 (hce : ∃ cur, w.heap[X]? = some (.cells cur 130 (0, 0)) ∧ cur.toList.take (cs.length * 3) = celsR cs)
 (hV : VS w vv V) (hL : VS w lv L) (hVl : V.length ≤ 90) (hLl : L.length ≤ 200) (hic : cs.length ≤ 500)
 (hR : Runs none cs ⟨V, L, β, 0⟩ s2) :
 Calls Tryz.prog 20 #[.pointer none, .slice (some ⟨X, 0, none⟩) cs.length cX, vv, lv] w fun e u' => ∃ v l, e = .returned (.tuple #[v, l, .int .i64 s2.E]) ∧ OV none w s2 v l u' := by
 obtain ⟨bv, cv, cuv, rfl, hv1, hv2⟩ := hV.ex
 obtain ⟨bl, cl, cul, rfl, hl1, hl2⟩ := hL.ex
 obtain ⟨f, hf⟩ : ∃ f : FX, f = ⟨w.heap.size, w.heap.size + 4, w.heap.size + 3, w.heap.size + 1, X, .slice (some ⟨w.heap.size + 2, 0, none⟩) 1 1, cX, none⟩ := ⟨_, rfl⟩
 obtain ⟨w0, hw0⟩ : ∃ w0, w0 = ((((w.alloc (.cells #[.slice (some ⟨w.heap.size + 1 + 1, 0, none⟩) 1 1, .slice (some ⟨w.heap.size + 1 + 1 + 1, 0, none⟩) 1 1, .pointer (some ⟨w.heap.size + 1, 0, none⟩), .pointer none, .int .i64 0, .int .i64 0, .int .i64 0, .int .i64 0] 121)).alloc (.cells #[.slice none 0 0, .slice none 0 0, .slice none 0 0, .slice none 0 0, .slice none 0 0, .slice none 0 0, .slice none 0 0, .int .i64 0, .slice none 0 0, .slice none 0 0, .slice none 0 0, .pointer none, .slice none 0 0, .slice none 0 0] 73)).alloc (.cells #[.slice none 0 0, .slice none 0 0] 123)).alloc (.cells #[.int .i64 (-1), .int .i64 0, .int .i64 0, .int .i64 0, .int .i64 0, .slice (some ⟨X, 0, none⟩) cs.length cX, .slice none 0 0] 125)) := ⟨_, rfl⟩
 obtain ⟨w1, hw1⟩ : ∃ w1, w1 = w0.alloc (.cells #[.slice none 0 0, .slice none 0 0] 128) := ⟨_, rfl⟩
 have hb0 : Below w.heap.size w w0 := hw0 ▸ below_alloc4 _ _ _ _ _
 have hs0 : w0.heap.size = w.heap.size + 4 := by rw [hw0]; simp
 have hb1 : Below w.heap.size w w1 := hw1 ▸ hb0.alloc hb0.size _
 have hs1 : w1.heap.size = w.heap.size + 5 := by rw [hw1]; simp [hs0]
 have b0 := hw1 ▸ blk_alloc (show w0.heap[w.heap.size]? = _ from hw0 ▸ heap_alloc4_0 _ _ _ _ _) (.cells #[.slice none 0 0, .slice none 0 0] 128)
 have b1 := hw1 ▸ blk_alloc (show w0.heap[w.heap.size + 1]? = _ from hw0 ▸ heap_alloc4_1 _ _ _ _ _) (.cells #[.slice none 0 0, .slice none 0 0] 128)
 have b3 := hw1 ▸ blk_alloc (show w0.heap[w.heap.size + 1 + 1 + 1]? = _ from hw0 ▸ heap_alloc4_3 _ _ _ _ _) (.cells #[.slice none 0 0, .slice none 0 0] 128)
 have b4 : w1.heap[w.heap.size + 4]? = some (.cells #[.slice none 0 0, .slice none 0 0] 128 (0, 0)) := by rw [hw1, ← hs0]; exact heap_alloc_new _ _
 have hmay : ∀ k, f.may k ↔ k = w.heap.size ∨ k = w.heap.size + 4 := fun k => by rw [hf]; simp [FX.may]
 have hF : FixAt f cs w1 := by
  obtain ⟨cur, h4, h5⟩ := hce
  refine ⟨by rw [hf]; exact b3, fun hm => ?_, ⟨_, by rw [hf]; exact b1, by rw [hf]; rfl, rfl⟩, fun hm => ?_, ⟨cur, by rw [hf]; exact blk_keep h4 hb1, h5⟩, fun hm => ?_, by rw [hf]; simp, fun o ho => by rw [hf] at ho; cases ho⟩
  ·rw [hmay] at hm
   rw [hf] at hm
   simp only at hm
   omega
  ·rw [hmay] at hm
   rw [hf] at hm
   simp only at hm
   omega
  ·rw [hmay] at hm
   rw [hf] at hm
   have := block_lt h4
   simp only at hm
   omega
 have hI : IS f w1 ⟨[], [], β, 0⟩ w1 := by
  refine ⟨Keep.refl _ _, by rw [hf]; exact b0, ⟨by rw [hf, hs1]; simp, by rw [hf, hs1]; simp, fun o ho k hk => by rw [hf] at ho; cases ho⟩, ⟨.slice none 0 0, .slice none 0 0, by rw [hf]; exact b4, ⟨rfl, .inl ⟨rfl, rfl⟩⟩, ⟨rfl, .inl ⟨rfl, rfl⟩⟩, fun k hk => by simp [Value.ownBlock] at hk⟩, fun o ho => by rw [hf] at ho; cases ho⟩
 rw [hw0] at hw1
 clear hw0 hb0 hs0 b0 b1 b3 b4
 have hv3 := blk_keep hv1 hb1
 have hl3 := blk_keep hl1 hb1
 have FF := Lib.hid hF
 have HI := Lib.hid hI
 have HR := Lib.hid hR
 have HV2 := Lib.hid hv2
 have HL2 := Lib.hid hl2
 have HF := Lib.hid hf
 have HS1 := Lib.hid hs1
 have HB1 := Lib.hid hb1
 have HW : Hid (bl < w.heap.size) := block_lt hl1
 have hG : f.G = w.heap.size := by rw [hf]
 have hFF : f.F = w.heap.size + 4 := by rw [hf]
 clear hce hV hL hR hb1 hs1 hmay hF hI hv2 hl2 hv1 hl1 hf
 go_enter Tryz.func20, Tryz.ntmps20
 go_upto_region 6 with fail
 rw [← hw1]
 clear hw1
 have eF : w.heap.size + 1 + 1 + 1 + 1 = f.F := by rw [hFF]
 rw [eF, ← hG]
 have kF : w1.heap[f.F]? = some (.cells #[.slice none 0 0, .slice none 0 0] 128 (0, 0)) := by
  obtain ⟨v, l, h1, h2, h3, _⟩ := HI.out.fr
  rcases h2.2 with ⟨rfl, _⟩ | ⟨g, cap, cur, rfl, hB, hh, _⟩
  ·rcases h3.2 with ⟨rfl, _⟩ | ⟨g, cap, cur, rfl, hB, hh, _⟩
   ·exact h1
   ·exact absurd (block_lt hh) (by omega)
  ·exact absurd (block_lt hh) (by omega)
 have k0 : w1.cell? ⟨f.F, 0, none⟩ = some (.slice none 0 0) := by rw [cell_of_row w1 f.F 0 _ _ _ kF]; rfl
 have z0 := frozen_of_row w1 f.F 0 _ _ kF
 have KF := Lib.hid kF
 clear kF eF hG hFF
 go_upto_region 7 with (at_builtin; refine app_u rfl _ _ rfl w1.heap.size (.slice none 0 0) [] V rfl ⟨rfl, .inl ⟨rfl, rfl⟩⟩ bv 0 V.length cv rfl rfl (fun j x hx => by rw [cell_of_row w1 bv _ _ _ _ hv3, Nat.zero_add]; exact HV2.out j x hx) (by simp; omega) (Nat.le_refl _) ?_; intro v2 w7 hown2 g7 hn7; obtain ⟨ad2, c2, rfl⟩ := own_slice hown2; (have hF7 : w7.heap[f.F]? = some (.cells #[.slice none 0 0, .slice none 0 0] 128 (0, 0)) := (g7.block f.F (block_lt KF.out) (by simp [Value.ownBlock])).trans KF.out); (have hz7 := frozen_of_row w7 f.F 0 _ _ hF7); (have hc7 : w7.cell? ⟨f.F, 0, none⟩ = some (.slice none 0 0) := by rw [cell_of_row w7 f.F 0 _ _ _ hF7]; rfl); (have HI7 := Lib.hid (HI.out.setV FF.out.gf FF.out.mm KF.out g7 V hown2 (fun k hk => (hn7 k hk).imp id (fun e => by omega)))); (have HL7 := Lib.hid ((g7.block bl (block_lt hl3) (by simp [Value.ownBlock])).trans hl3)); (have HG7 := Lib.hid g7.size); (have HF7 := Lib.hid hF7); clear hF7 hown2 g7 hn7)
 have HI8 : Hid (IS f w1 ⟨V, [], β, 0⟩ (w7.setCell ⟨f.F, 0, none⟩ (.slice ad2 V.length c2))) := Lib.hid (by have := HI7.out; simpa using this)
 have gs := grown_setCell w7 f.F 0 (.slice ad2 V.length c2)
 have hFl : f.F < w1.heap.size := HI.out.lt.2.1
 have blF : bl ≠ f.F := fun e => by
  have h1 := HF.out
  have h2 := HW.out
  rw [h1] at e
  simp only at e
  omega
 have hl8 := (gs.block bl (block_lt HL7.out) (fun e => blF (by injection e))).trans HL7.out
 have HS8 := Lib.hid (Nat.le_trans HG7.out gs.size)
 have kF : (w7.setCell ⟨f.F, 0, none⟩ (.slice ad2 V.length c2)).heap[f.F]? = some (.cells #[.slice ad2 V.length c2, .slice none 0 0] 128 (0, 0)) := by
  rw [setCell_eq_setRow w7 f.F 0 _ _ _ _ HF7.out, setRow_heap w7 f.F _ _ _ _ HF7.out]
  rfl
 clear HF7
 generalize w7.setCell ⟨f.F, 0, none⟩ (.slice ad2 V.length c2) = w8 at *
 have k1 : w8.cell? ⟨f.F, 1, none⟩ = some (.slice none 0 0) := by rw [cell_of_row w8 f.F 1 _ _ _ kF]; rfl
 have z1 := frozen_of_row w8 f.F 1 _ _ kF
 have KF8 := Lib.hid kF
 clear kF gs hFl blF k0 z0 HI7 HL7
 go_upto_region 8 with (at_builtin; refine app_u rfl _ _ rfl w1.heap.size (.slice none 0 0) [] L rfl ⟨rfl, .inl ⟨rfl, rfl⟩⟩ bl 0 L.length cl rfl rfl (fun j x hx => by rw [cell_of_row w8 bl _ _ _ _ hl8, Nat.zero_add]; exact HL2.out j x hx) (by simp; omega) HS8.out ?_; intro v3 w9 hown3 g9 hn9; obtain ⟨ad3, c3, rfl⟩ := own_slice hown3; (have hF9 : w9.heap[f.F]? = some (.cells #[.slice ad2 V.length c2, .slice none 0 0] 128 (0, 0)) := (g9.block f.F (block_lt KF8.out) (by simp [Value.ownBlock])).trans KF8.out); (have hz9 := frozen_of_row w9 f.F 1 _ _ hF9); (have hc9 : w9.cell? ⟨f.F, 1, none⟩ = some (.slice none 0 0) := by rw [cell_of_row w9 f.F 1 _ _ _ hF9]; rfl); (have HI9 := Lib.hid (HI8.out.setLr FF.out.gf FF.out.mm KF8.out g9 L hown3 (fun k hk => (hn9 k hk).imp id (fun e => by omega)))); clear hF9 hown3 g9 hn9)
 have HI10 : Hid (IS f w1 ⟨V, L, β, 0⟩ (w9.setCell ⟨f.F, 1, none⟩ (.slice ad3 L.length c3))) := Lib.hid (by have := HI9.out; simpa using this)
 generalize w9.setCell ⟨f.F, 1, none⟩ (.slice ad3 L.length c3) = w10 at *
 clear z1 k1 hl8 HS8 hv3 hl3 KF8 HI9 HI8 HG7
 go_wp2_with fail
 go_loopw [13] (fun iv wr => ∃ (j : Nat) (s : CS), j ≤ cs.length ∧ iv = .int .i64 j ∧ Hid (IS f w1 s wr) ∧ Hid (Runs none (cs.drop j) s s2) ∧ s.L.length = L.length) (fun iv _ => cs.length - (intOf iv).toNat)
 case atStart => exact ⟨0, _, Nat.zero_le _, rfl, HI10, HR, rfl⟩
 case round =>
  obtain ⟨j, s, hj, rfl, HIS, HRS, hsl⟩ := hrel
  have hrun := HIS.out.run
  have kE : wr.cell? ⟨f.G, 7, none⟩ = some (.int .i64 s.E) := by rw [cell_of_row wr f.G 7 _ _ _ hrun]; rfl
  clear hrun
  by_cases hE : s.E = 0
  ·by_cases hlt : j < cs.length
   ·obtain ⟨c, hc⟩ : ∃ c, cs[j]? = some c := ⟨_, List.getElem?_eq_getElem hlt⟩
    have hd : cs.drop j = c :: cs.drop (j + 1) := by
     obtain ⟨h3, h4⟩ := List.getElem?_eq_some_iff.1 hc
     rw [List.drop_eq_getElem_cons h3, h4]
    have hr := HRS.out
    rw [hd] at hr
    obtain ⟨s1, hs1, hr1⟩ := hr.go hE
    obtain ⟨⟨o1, o2⟩, ⟨tt, gg, hT, ht0⟩, hA, hs1L⟩ := hs1.ok
    have hce := HIS.out.cel FF.out j c hc
    have fX : f.X = X := by rw [HF.out]
    have q0 : wr.cell? ⟨X, j * 3, none⟩ = some (.int .i64 (c.op : Int)) := by rw [← fX, show j * 3 = 3 * j + 0 by omega]; exact hce 0 _ rfl
    have q1 : wr.cell? ⟨X, j * 3 + 1, none⟩ = some (.int .i64 (c.a : Int)) := by rw [← fX, show j * 3 + 1 = 3 * j + 1 by omega]; exact hce 1 _ rfl
    have HSC := Lib.hid (fun (W : World) => scalar_k c.op tt gg W hT ht0)
    have HST := Lib.hid (fun (W : World) (h : IS f w1 s W) => step_c f cs w1 FF.out none (by rw [HF.out]; rfl) c j hc (by omega) s s1 hs1 W h)
    obtain ⟨z, hz⟩ : ∃ z : Int, z = (c.op : Int) := ⟨_, rfl⟩
    rw [← hz] at q0 HSC
    have d1 : decide (z < 26) = false := decide_eq_false (by omega)
    have d2 : decide (256 < z) = false := decide_eq_false (by omega)
    have dd : decide (32 ≤ z) = false ∨ decide (32 ≤ z) = true ∧ decide (z ≤ 34) = false ∨ decide (32 ≤ z) = true ∧ decide (z ≤ 34) = true ∧ c.a < L.length := by
     by_cases c1 : 32 ≤ z
     ·by_cases c2 : z ≤ 34
      ·exact .inr (.inr ⟨decide_eq_true c1, decide_eq_true c2, by have := hA (by omega); omega⟩)
      ·exact .inr (.inl ⟨decide_eq_true c1, decide_eq_false c2⟩)
     ·exact .inl (decide_eq_false c1)
    rw [hE] at kE
    have HR1 := Lib.hid hr1
    have HS1L := Lib.hid (hs1L.trans hsl)
    clear hz hce fX hA o1 o2 hT ht0 hs1 hr hr1 hd hc hs1L HRS hE
    rcases dd with d3 | ⟨d3, d4⟩ | ⟨d3, d4, d5⟩
    all_goals
     go_wp2_with (first | (go_at_call 53; (with_reducible refine (HSC.out _).mono ?_); rintro e u2 ⟨rfl, hb2⟩; have q1b := cell_kp q1 hb2) | (go_at_call 54; (with_reducible refine (HST.out _ (HIS.out.below hb2)).mono ?_); rintro e u3 ⟨rfl, hIS3⟩))
     exact ⟨⟨j + 1, s1, by omega, by first | rfl | simp, Lib.hid hIS3, HR1, HS1L.out⟩, by simp [intOf]; omega⟩
   ·have hR2 := (by have := HRS.out; rw [List.drop_eq_nil_of_le (by omega)] at this; exact this.nil)
    subst hR2
    obtain ⟨v, l, hFr, hv, hl, _⟩ := HIS.out.fr
    have q0 : wr.cell? ⟨f.F, 0, none⟩ = some v := by rw [cell_of_row wr f.F 0 _ _ _ hFr]; rfl
    have q1 : wr.cell? ⟨f.F, 1, none⟩ = some l := by rw [cell_of_row wr f.F 1 _ _ _ hFr]; rfl
    have HVV := Lib.hid (over_end2 HF.out (by omega) HB1.out HIS.out hv hl)
    rw [hE] at kE
    have HE := Lib.hid hE
    clear hFr hv hl HRS hE
    go_wp2_with fail
    go_quiet (fail)
    simp only [Exit.then]
    go_at_K
    go_wp2_with fail
    go_ret3
    exact ⟨v, l, by rw [HE.out]; rfl, HVV.out _⟩
  ·have tE : (s.E == 0) = false := beq_eq_false_iff_ne.2 hE
   have hR2 := (HRS.out.stop hE)
   subst hR2
   obtain ⟨v, l, hFr, hv, hl, _⟩ := HIS.out.fr
   have q0 : wr.cell? ⟨f.F, 0, none⟩ = some v := by rw [cell_of_row wr f.F 0 _ _ _ hFr]; rfl
   have q1 : wr.cell? ⟨f.F, 1, none⟩ = some l := by rw [cell_of_row wr f.F 1 _ _ _ hFr]; rfl
   have HVV := Lib.hid (over_end2 HF.out (by omega) HB1.out HIS.out hv hl)
   clear hE
   clear hFr hv hl HRS
   by_cases hlt : j < cs.length
   all_goals
    go_wp2_with fail
    go_quiet (fail)
    simp only [Exit.then]
    go_at_K
    go_wp2_with fail
    go_ret3
    exact ⟨v, l, rfl, HVV.out _⟩
set_option maxRecDepth 100000 in
theorem over_nil0 (X cX : Nat) (lv : Value) (cs : List Cel) (L : List (BitVec 64)) (β : Nat → Nat) (s2 : CS) (w : World)
 (hce : ∃ cur, w.heap[X]? = some (.cells cur 130 (0, 0)) ∧ cur.toList.take (cs.length * 3) = celsR cs)
 (hL : VS w lv L) (hLl : L.length ≤ 200) (hic : cs.length ≤ 500)
 (hR : Runs none cs ⟨[], L, β, 0⟩ s2) :
 Calls Tryz.prog 20 #[.pointer none, .slice (some ⟨X, 0, none⟩) cs.length cX, .slice none 0 0, lv] w fun e u' => ∃ v l, e = .returned (.tuple #[v, l, .int .i64 s2.E]) ∧ OV none w s2 v l u' := by
 obtain ⟨bl, cl, cul, rfl, hl1, hl2⟩ := hL.ex
 obtain ⟨f, hf⟩ : ∃ f : FX, f = ⟨w.heap.size, w.heap.size + 4, w.heap.size + 3, w.heap.size + 1, X, .slice (some ⟨w.heap.size + 2, 0, none⟩) 1 1, cX, none⟩ := ⟨_, rfl⟩
 obtain ⟨w0, hw0⟩ : ∃ w0, w0 = ((((w.alloc (.cells #[.slice (some ⟨w.heap.size + 1 + 1, 0, none⟩) 1 1, .slice (some ⟨w.heap.size + 1 + 1 + 1, 0, none⟩) 1 1, .pointer (some ⟨w.heap.size + 1, 0, none⟩), .pointer none, .int .i64 0, .int .i64 0, .int .i64 0, .int .i64 0] 121)).alloc (.cells #[.slice none 0 0, .slice none 0 0, .slice none 0 0, .slice none 0 0, .slice none 0 0, .slice none 0 0, .slice none 0 0, .int .i64 0, .slice none 0 0, .slice none 0 0, .slice none 0 0, .pointer none, .slice none 0 0, .slice none 0 0] 73)).alloc (.cells #[.slice none 0 0, .slice none 0 0] 123)).alloc (.cells #[.int .i64 (-1), .int .i64 0, .int .i64 0, .int .i64 0, .int .i64 0, .slice (some ⟨X, 0, none⟩) cs.length cX, .slice none 0 0] 125)) := ⟨_, rfl⟩
 obtain ⟨w1, hw1⟩ : ∃ w1, w1 = w0.alloc (.cells #[.slice none 0 0, .slice none 0 0] 128) := ⟨_, rfl⟩
 have hb0 : Below w.heap.size w w0 := hw0 ▸ below_alloc4 _ _ _ _ _
 have hs0 : w0.heap.size = w.heap.size + 4 := by rw [hw0]; simp
 have hb1 : Below w.heap.size w w1 := hw1 ▸ hb0.alloc hb0.size _
 have hs1 : w1.heap.size = w.heap.size + 5 := by rw [hw1]; simp [hs0]
 have b0 := hw1 ▸ blk_alloc (show w0.heap[w.heap.size]? = _ from hw0 ▸ heap_alloc4_0 _ _ _ _ _) (.cells #[.slice none 0 0, .slice none 0 0] 128)
 have b1 := hw1 ▸ blk_alloc (show w0.heap[w.heap.size + 1]? = _ from hw0 ▸ heap_alloc4_1 _ _ _ _ _) (.cells #[.slice none 0 0, .slice none 0 0] 128)
 have b3 := hw1 ▸ blk_alloc (show w0.heap[w.heap.size + 1 + 1 + 1]? = _ from hw0 ▸ heap_alloc4_3 _ _ _ _ _) (.cells #[.slice none 0 0, .slice none 0 0] 128)
 have b4 : w1.heap[w.heap.size + 4]? = some (.cells #[.slice none 0 0, .slice none 0 0] 128 (0, 0)) := by rw [hw1, ← hs0]; exact heap_alloc_new _ _
 have hmay : ∀ k, f.may k ↔ k = w.heap.size ∨ k = w.heap.size + 4 := fun k => by rw [hf]; simp [FX.may]
 have hF : FixAt f cs w1 := by
  obtain ⟨cur, h4, h5⟩ := hce
  refine ⟨by rw [hf]; exact b3, fun hm => ?_, ⟨_, by rw [hf]; exact b1, by rw [hf]; rfl, rfl⟩, fun hm => ?_, ⟨cur, by rw [hf]; exact blk_keep h4 hb1, h5⟩, fun hm => ?_, by rw [hf]; simp, fun o ho => by rw [hf] at ho; cases ho⟩
  ·rw [hmay] at hm
   rw [hf] at hm
   simp only at hm
   omega
  ·rw [hmay] at hm
   rw [hf] at hm
   simp only at hm
   omega
  ·rw [hmay] at hm
   rw [hf] at hm
   have := block_lt h4
   simp only at hm
   omega
 have hI : IS f w1 ⟨[], [], β, 0⟩ w1 := by
  refine ⟨Keep.refl _ _, by rw [hf]; exact b0, ⟨by rw [hf, hs1]; simp, by rw [hf, hs1]; simp, fun o ho k hk => by rw [hf] at ho; cases ho⟩, ⟨.slice none 0 0, .slice none 0 0, by rw [hf]; exact b4, ⟨rfl, .inl ⟨rfl, rfl⟩⟩, ⟨rfl, .inl ⟨rfl, rfl⟩⟩, fun k hk => by simp [Value.ownBlock] at hk⟩, fun o ho => by rw [hf] at ho; cases ho⟩
 rw [hw0] at hw1
 clear hw0 hb0 hs0 b0 b1 b3 b4
 have hl3 := blk_keep hl1 hb1
 have FF := Lib.hid hF
 have HI := Lib.hid hI
 have HR := Lib.hid hR
 have HL2 := Lib.hid hl2
 have HF := Lib.hid hf
 have HS1 := Lib.hid hs1
 have HB1 := Lib.hid hb1
 have HW : Hid (bl < w.heap.size) := block_lt hl1
 have hG : f.G = w.heap.size := by rw [hf]
 have hFF : f.F = w.heap.size + 4 := by rw [hf]
 clear hce hL hR hb1 hs1 hmay hF hI hl2 hl1 hf
 go_enter Tryz.func20, Tryz.ntmps20
 go_upto_region 6 with fail
 rw [← hw1]
 clear hw1
 have eF : w.heap.size + 1 + 1 + 1 + 1 = f.F := by rw [hFF]
 rw [eF, ← hG]
 have kF : w1.heap[f.F]? = some (.cells #[.slice none 0 0, .slice none 0 0] 128 (0, 0)) := by
  obtain ⟨v, l, h1, h2, h3, _⟩ := HI.out.fr
  rcases h2.2 with ⟨rfl, _⟩ | ⟨g, cap, cur, rfl, hB, hh, _⟩
  ·rcases h3.2 with ⟨rfl, _⟩ | ⟨g, cap, cur, rfl, hB, hh, _⟩
   ·exact h1
   ·exact absurd (block_lt hh) (by omega)
  ·exact absurd (block_lt hh) (by omega)
 have k0 : w1.cell? ⟨f.F, 0, none⟩ = some (.slice none 0 0) := by rw [cell_of_row w1 f.F 0 _ _ _ kF]; rfl
 have z0 := frozen_of_row w1 f.F 0 _ _ kF
 have KF := Lib.hid kF
 clear kF eF hG hFF
 go_upto_region 7 with (at_builtin; (with_reducible refine app_nil2 rfl _ _ rfl rfl rfl ?_))
 have gs := grown_setCell w1 f.F 0 (.slice none 0 0)
 have hFl : f.F < w1.heap.size := HI.out.lt.2.1
 have blF : bl ≠ f.F := fun e => by
  have h1 := HF.out
  have h2 := HW.out
  rw [h1] at e
  simp only at e
  omega
 have hl8 := (gs.block bl (block_lt hl3) (fun e => blF (by injection e))).trans hl3
 have HS8 := Lib.hid gs.size
 have HI8 : Hid (IS f w1 ⟨[], [], β, 0⟩ (w1.setCell ⟨f.F, 0, none⟩ (.slice none 0 0))) := Lib.hid (by
  have := HI.out.setV FF.out.gf FF.out.mm KF.out (grown_refl _ _) [] ⟨rfl, .inl ⟨rfl, rfl⟩⟩ (fun k hk => by simp [Value.ownBlock] at hk)
  simpa using this)
 have kF : (w1.setCell ⟨f.F, 0, none⟩ (.slice none 0 0)).heap[f.F]? = some (.cells #[.slice none 0 0, .slice none 0 0] 128 (0, 0)) := by
  rw [setCell_eq_setRow w1 f.F 0 _ _ _ _ KF.out, setRow_heap w1 f.F _ _ _ _ KF.out]
  rfl
 generalize w1.setCell ⟨f.F, 0, none⟩ (.slice none 0 0) = w8 at *
 have k1 : w8.cell? ⟨f.F, 1, none⟩ = some (.slice none 0 0) := by rw [cell_of_row w8 f.F 1 _ _ _ kF]; rfl
 have z1 := frozen_of_row w8 f.F 1 _ _ kF
 have KF8 := Lib.hid kF
 clear kF gs hFl blF k0 z0
 go_upto_region 8 with (at_builtin; refine app_u rfl _ _ rfl w1.heap.size (.slice none 0 0) [] L rfl ⟨rfl, .inl ⟨rfl, rfl⟩⟩ bl 0 L.length cl rfl rfl (fun j x hx => by rw [cell_of_row w8 bl _ _ _ _ hl8, Nat.zero_add]; exact HL2.out j x hx) (by simp; omega) HS8.out ?_; intro v3 w9 hown3 g9 hn9; obtain ⟨ad3, c3, rfl⟩ := own_slice hown3; (have hF9 : w9.heap[f.F]? = some (.cells #[.slice none 0 0, .slice none 0 0] 128 (0, 0)) := (g9.block f.F (block_lt KF8.out) (by simp [Value.ownBlock])).trans KF8.out); (have hz9 := frozen_of_row w9 f.F 1 _ _ hF9); (have hc9 : w9.cell? ⟨f.F, 1, none⟩ = some (.slice none 0 0) := by rw [cell_of_row w9 f.F 1 _ _ _ hF9]; rfl); (have HI9 := Lib.hid (HI8.out.setLr FF.out.gf FF.out.mm KF8.out g9 L hown3 (fun k hk => (hn9 k hk).imp id (fun e => by omega)))); clear hF9 hown3 g9 hn9)
 have HI10 : Hid (IS f w1 ⟨[], L, β, 0⟩ (w9.setCell ⟨f.F, 1, none⟩ (.slice ad3 L.length c3))) := Lib.hid (by have := HI9.out; simpa using this)
 generalize w9.setCell ⟨f.F, 1, none⟩ (.slice ad3 L.length c3) = w10 at *
 clear z1 k1 hl8 HS8 hl3 KF8 HI9 HI8
 go_wp2_with fail
 go_loopw [13] (fun iv wr => ∃ (j : Nat) (s : CS), j ≤ cs.length ∧ iv = .int .i64 j ∧ Hid (IS f w1 s wr) ∧ Hid (Runs none (cs.drop j) s s2) ∧ s.L.length = L.length) (fun iv _ => cs.length - (intOf iv).toNat)
 case atStart => exact ⟨0, _, Nat.zero_le _, rfl, HI10, HR, rfl⟩
 case round =>
  obtain ⟨j, s, hj, rfl, HIS, HRS, hsl⟩ := hrel
  have hrun := HIS.out.run
  have kE : wr.cell? ⟨f.G, 7, none⟩ = some (.int .i64 s.E) := by rw [cell_of_row wr f.G 7 _ _ _ hrun]; rfl
  clear hrun
  by_cases hE : s.E = 0
  ·by_cases hlt : j < cs.length
   ·obtain ⟨c, hc⟩ : ∃ c, cs[j]? = some c := ⟨_, List.getElem?_eq_getElem hlt⟩
    have hd : cs.drop j = c :: cs.drop (j + 1) := by
     obtain ⟨h3, h4⟩ := List.getElem?_eq_some_iff.1 hc
     rw [List.drop_eq_getElem_cons h3, h4]
    have hr := HRS.out
    rw [hd] at hr
    obtain ⟨s1, hs1, hr1⟩ := hr.go hE
    obtain ⟨⟨o1, o2⟩, ⟨tt, gg, hT, ht0⟩, hA, hs1L⟩ := hs1.ok
    have hce := HIS.out.cel FF.out j c hc
    have fX : f.X = X := by rw [HF.out]
    have q0 : wr.cell? ⟨X, j * 3, none⟩ = some (.int .i64 (c.op : Int)) := by rw [← fX, show j * 3 = 3 * j + 0 by omega]; exact hce 0 _ rfl
    have q1 : wr.cell? ⟨X, j * 3 + 1, none⟩ = some (.int .i64 (c.a : Int)) := by rw [← fX, show j * 3 + 1 = 3 * j + 1 by omega]; exact hce 1 _ rfl
    have HSC := Lib.hid (fun (W : World) => scalar_k c.op tt gg W hT ht0)
    have HST := Lib.hid (fun (W : World) (h : IS f w1 s W) => step_c f cs w1 FF.out none (by rw [HF.out]; rfl) c j hc (by omega) s s1 hs1 W h)
    obtain ⟨z, hz⟩ : ∃ z : Int, z = (c.op : Int) := ⟨_, rfl⟩
    rw [← hz] at q0 HSC
    have d1 : decide (z < 26) = false := decide_eq_false (by omega)
    have d2 : decide (256 < z) = false := decide_eq_false (by omega)
    have dd : decide (32 ≤ z) = false ∨ decide (32 ≤ z) = true ∧ decide (z ≤ 34) = false ∨ decide (32 ≤ z) = true ∧ decide (z ≤ 34) = true ∧ c.a < L.length := by
     by_cases c1 : 32 ≤ z
     ·by_cases c2 : z ≤ 34
      ·exact .inr (.inr ⟨decide_eq_true c1, decide_eq_true c2, by have := hA (by omega); omega⟩)
      ·exact .inr (.inl ⟨decide_eq_true c1, decide_eq_false c2⟩)
     ·exact .inl (decide_eq_false c1)
    rw [hE] at kE
    have HR1 := Lib.hid hr1
    have HS1L := Lib.hid (hs1L.trans hsl)
    clear hz hce fX hA o1 o2 hT ht0 hs1 hr hr1 hd hc hs1L HRS hE
    rcases dd with d3 | ⟨d3, d4⟩ | ⟨d3, d4, d5⟩
    all_goals
     go_wp2_with (first | (go_at_call 53; (with_reducible refine (HSC.out _).mono ?_); rintro e u2 ⟨rfl, hb2⟩; have q1b := cell_kp q1 hb2) | (go_at_call 54; (with_reducible refine (HST.out _ (HIS.out.below hb2)).mono ?_); rintro e u3 ⟨rfl, hIS3⟩))
     exact ⟨⟨j + 1, s1, by omega, by first | rfl | simp, Lib.hid hIS3, HR1, HS1L.out⟩, by simp [intOf]; omega⟩
   ·have hR2 := (by have := HRS.out; rw [List.drop_eq_nil_of_le (by omega)] at this; exact this.nil)
    subst hR2
    obtain ⟨v, l, hFr, hv, hl, _⟩ := HIS.out.fr
    have q0 : wr.cell? ⟨f.F, 0, none⟩ = some v := by rw [cell_of_row wr f.F 0 _ _ _ hFr]; rfl
    have q1 : wr.cell? ⟨f.F, 1, none⟩ = some l := by rw [cell_of_row wr f.F 1 _ _ _ hFr]; rfl
    have HVV := Lib.hid (over_end2 HF.out (by omega) HB1.out HIS.out hv hl)
    rw [hE] at kE
    have HE := Lib.hid hE
    clear hFr hv hl HRS hE
    go_wp2_with fail
    go_quiet (fail)
    simp only [Exit.then]
    go_at_K
    go_wp2_with fail
    go_ret3
    exact ⟨v, l, by rw [HE.out]; rfl, HVV.out _⟩
  ·have tE : (s.E == 0) = false := beq_eq_false_iff_ne.2 hE
   have hR2 := (HRS.out.stop hE)
   subst hR2
   obtain ⟨v, l, hFr, hv, hl, _⟩ := HIS.out.fr
   have q0 : wr.cell? ⟨f.F, 0, none⟩ = some v := by rw [cell_of_row wr f.F 0 _ _ _ hFr]; rfl
   have q1 : wr.cell? ⟨f.F, 1, none⟩ = some l := by rw [cell_of_row wr f.F 1 _ _ _ hFr]; rfl
   have HVV := Lib.hid (over_end2 HF.out (by omega) HB1.out HIS.out hv hl)
   clear hE
   clear hFr hv hl HRS
   by_cases hlt : j < cs.length
   all_goals
    go_wp2_with fail
    go_quiet (fail)
    simp only [Exit.then]
    go_at_K
    go_wp2_with fail
    go_ret3
    exact ⟨v, l, rfl, HVV.out _⟩
theorem straight_k (X cX : Nat) (vv lv : Value) (cs : List Cel) (V L : List (BitVec 64)) (β : Nat → Nat) (s2 : CS) (w : World)
 (hce : ∃ cur, w.heap[X]? = some (.cells cur 130 (0, 0)) ∧ cur.toList.take (cs.length * 3) = celsR cs)
 (hV : VS w vv V ∨ vv = .slice none 0 0 ∧ V = []) (hL : VS w lv L) (hVl : V.length ≤ 90) (hLl : L.length ≤ 200) (hic : cs.length ≤ 500)
 (hR : Runs none cs ⟨V, L, β, 0⟩ s2) :
 Calls Tryz.prog 9 #[.slice (some ⟨X, 0, none⟩) cs.length cX, vv, lv] w fun e u' => ∃ v l, e = .returned (.tuple #[v, l, .int .i64 s2.E]) ∧ OV none w s2 v l u' := by
 have HO : Calls Tryz.prog 20 #[.pointer none, .slice (some ⟨X, 0, none⟩) cs.length cX, vv, lv] w fun e u' => ∃ v l, e = .returned (.tuple #[v, l, .int .i64 s2.E]) ∧ OV none w s2 v l u' := by
  rcases hV with hV | ⟨rfl, rfl⟩
  ·exact over_nil X cX vv lv cs V L β s2 w hce hV hL hVl hLl hic hR
  ·exact over_nil0 X cX lv cs L β s2 w hce hL hLl hic hR
 replace HO := Lib.hid HO
 clear hce hV hL hR
 go_enter Tryz.func9, Tryz.ntmps9
 go_wp2_with (go_at_call 20; refine HO.out.mono ?_; rintro e u ⟨v, l, rfl, hov⟩)
 go_ret3
 exact ⟨v, l, rfl, hov⟩
end Go.Proofs.YtmfmokblmipagaaGreat
