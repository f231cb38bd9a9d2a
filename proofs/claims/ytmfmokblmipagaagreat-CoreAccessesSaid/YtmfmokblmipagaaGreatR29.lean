/-
  Texts TaD, Tc.
-/
import Derived.Test.YtmfmokblmipagaaGreatR14
import Derived.Test.YtmfmokblmipagaaGreatR28
import Derived.Deep.QuietTactic
import Derived.BigQuiet
set_option linter.unusedSimpArgs false
set_option linter.unusedVariables false
set_option maxHeartbeats 8000000
open Pl
section
namespace Go.Proofs.YtmfmokblmipagaaGreat
open Go.RowKit Pl
theorem StepC.E0 {N : Option Nat} {c : Cel} {s s1 : CS} (h : StepC N c s s1) : s.E = 0 := by cases h <;> rfl
theorem Runs.nil {N : Option Nat} {s s2 : CS} (h : Runs N [] s s2) : s2 = s := by cases h <;> rfl
theorem Runs.stop {N : Option Nat} {l : List Cel} {s s2 : CS} (h : Runs N l s s2) (hE : s.E ≠ 0) : s2 = s := by
 cases h with
 | done => rfl
 | trap => rfl
 | step h k => exact absurd h.E0 hE
theorem Runs.go {N : Option Nat} {c : Cel} {l : List Cel} {s s2 : CS} (h : Runs N (c :: l) s s2) (hE : s.E = 0) : ∃ s1, StepC N c s s1 ∧ Runs N l s1 s2 := by
 cases h with
 | trap _ _ h => exact absurd hE h
 | step h k => exact ⟨_, h, k⟩
theorem StepC.ok {N : Option Nat} {c : Cel} {s s1 : CS} (h : StepC N c s s1) : (26 ≤ c.op ∧ c.op ≤ 256) ∧ (∃ t g : Int, Tab19 c.op t g ∧ 0 ≤ t) ∧ (32 ≤ c.op ∧ c.op ≤ 34 → c.a < s.L.length) ∧ s1.L.length = s.L.length := by
 cases h with
 | get V L β a m ha hV x hx => exact ⟨by simp, ⟨0, 1, tab_32, by decide⟩, fun _ => ha, rfl⟩
 | set V L β a m ha hV x => exact ⟨by simp, ⟨1, 0, tab_33, by decide⟩, fun _ => ha, by simp⟩
 | num V L β a hV x => exact ⟨by simp, ⟨0, 1, tab_66, by decide⟩, fun hh => by simp only at hh; omega, rfl⟩
 | bin V L β op a m ho hV x y h2 => exact ⟨by simp only; omega, ⟨2, 1, tab_bin ho.1, by decide⟩, fun hh => by simp only at hh; omega, rfl⟩
 | ld V L β op a m n ho => have hop := ldC_ops ho; exact ⟨by simp only; omega, ⟨1, 1, tab_ld ho, by decide⟩, fun hh => by simp only at hh; omega, rfl⟩
 | ldx V L β op a m n ho => have hop := ldC_ops ho; exact ⟨by simp only; omega, ⟨1, 1, tab_ld ho, by decide⟩, fun hh => by simp only at hh; omega, rfl⟩
 | st V L β op a m n ho => have hop := stC_ops ho; exact ⟨by simp only; omega, ⟨2, 0, tab_st ho, by decide⟩, fun hh => by simp only at hh; omega, rfl⟩
 | stx V L β op a m n ho => have hop := stC_ops ho; exact ⟨by simp only; omega, ⟨2, 0, tab_st ho, by decide⟩, fun hh => by simp only at hh; omega, rfl⟩
structure VS (w : World) (vv : Value) (V : List (BitVec 64)) : Prop where
 ex : ∃ b c cur, vv = .slice (some ⟨b, 0, none⟩) V.length c ∧ w.heap[b]? = some (.cells cur 22 (0, 0)) ∧ ∀ (i : Nat) (x : BitVec 64), V[i]? = some x → cur[i]? = some (Value.int .u64 (x.toNat : Int))
theorem own_base {w : World} {B B2 : Nat} {e : TypeId} {s : Nat} {v : Value} {n : Nat} {xs : List Value} (h : w.ownsRow B e s v n xs) (hB : B2 ≤ B) : w.ownsRow B2 e s v n xs :=
 ⟨h.1, h.2.imp id fun ⟨g, cap, cur, e, hb, hr⟩ => ⟨g, cap, cur, e, Nat.le_trans hB hb, hr⟩⟩
structure OV (om : Option MObj) (w : World) (s : CS) (v l : Value) (u : World) : Prop where
 v : u.ownsRow w.heap.size 22 1 v s.V.length (u6s s.V)
 l : u.ownsRow w.heap.size 22 1 l s.L.length (u6s s.L)
 m : ∀ o, om = some o → MemAt u (withβ o s.β)
 k : Keep (fun k => ∃ o, om = some o ∧ o.q = some k) w u
theorem over_end {om : Option MObj} {f : FX} {sb X cX : Nat} {w w1 u : World} {s : CS} {v l sg : Value} (hf : f = ⟨w.heap.size, w.heap.size + 3, w.heap.size + 2, sb, X, sg, cX, om⟩) (hb : Below w.heap.size w w1) (h : IS f w1 s u)
 (hv : u.ownsRow w1.heap.size 22 1 v s.V.length (u6s s.V)) (hl : u.ownsRow w1.heap.size 22 1 l s.L.length (u6s s.L)) (n : Nat) : OV om w s v l (u.drewN n) := by
 have hm := h.mem
 have hk := h.keep
 rw [hf] at hm
 refine ⟨own_base hv hb.size, own_base hl hb.size, fun o ho => (hm o ho).below ⟨rfl, rfl, rfl, Nat.le_refl _, fun _ _ => rfl⟩, ⟨hk.os.trans hb.os, hk.tape.trans hb.tape, hk.output.trans hb.output, Nat.le_trans hb.size hk.size, fun k hlt hn => (hk.block k (Nat.lt_of_lt_of_le hlt hb.size) (fun hm2 => ?_)).trans (hb.block k hlt)⟩⟩
 rw [hf] at hm2
 rcases hm2 with e | e | e
 ·simp only at e; omega
 ·simp only at e; omega
 ·exact hn e
set_option maxRecDepth 100000 in
theorem over_k (om : Option MObj) (sb X cX : Nat) (vv lv : Value) (cs : List Cel) (V L : List (BitVec 64)) (β : Nat → Nat) (s2 : CS) (w : World)
 (hst : ∃ sc, w.heap[sb]? = some (.cells sc 73 (0, 0)) ∧ sc[11]? = some (memP om) ∧ sc[13]? = some (.slice none 0 0))
 (hce : ∃ cur, w.heap[X]? = some (.cells cur 130 (0, 0)) ∧ cur.toList.take (cs.length * 3) = celsR cs)
 (hmem : ∀ o, om = some o → MemAt w (withβ o β) ∧ o.q ≠ some sb ∧ o.q ≠ some X) (hV : VS w vv V) (hL : VS w lv L) (hVl : V.length ≤ 90) (hLl : L.length ≤ 200) (hic : cs.length ≤ 500)
 (hR : Runs (om.map (·.n)) cs ⟨V, L, β, 0⟩ s2) :
 Calls Tryz.prog 20 #[.pointer (some ⟨sb, 0, none⟩), .slice (some ⟨X, 0, none⟩) cs.length cX, vv, lv] w fun e u' => ∃ v l, e = .returned (.tuple #[v, l, .int .i64 s2.E]) ∧ OV om w s2 v l u' := by
 obtain ⟨bv, cv, cuv, rfl, hv1, hv2⟩ := hV.ex
 obtain ⟨bl, cl, cul, rfl, hl1, hl2⟩ := hL.ex
 obtain ⟨f, hf⟩ : ∃ f : FX, f = ⟨w.heap.size, w.heap.size + 3, w.heap.size + 2, sb, X, .slice (some ⟨w.heap.size + 1, 0, none⟩) 1 1, cX, om⟩ := ⟨_, rfl⟩
 obtain ⟨w1, hw1⟩ : ∃ w1, w1 = ((((w.alloc (.cells #[.slice (some ⟨w.heap.size + 1, 0, none⟩) 1 1, .slice (some ⟨w.heap.size + 1 + 1, 0, none⟩) 1 1, .pointer (some ⟨sb, 0, none⟩), .pointer none, .int .i64 0, .int .i64 0, .int .i64 0, .int .i64 0] 121)).alloc (.cells #[.slice none 0 0, .slice none 0 0] 123)).alloc (.cells #[.int .i64 (-1), .int .i64 0, .int .i64 0, .int .i64 0, .int .i64 0, .slice (some ⟨X, 0, none⟩) cs.length cX, .slice none 0 0] 125)).alloc (.cells #[.slice none 0 0, .slice none 0 0] 128)) := ⟨_, rfl⟩
 have hb1 : Below w.heap.size w w1 := hw1 ▸ below_alloc4 _ _ _ _ _
 have hs1 : w1.heap.size = w.heap.size + 4 := by rw [hw1]; simp
 have hqlt : ∀ o, om = some o → ∀ k, o.has k → k < w.heap.size := fun o ho k hk => by
  have hm := (hmem o ho).1
  rcases hk with hk | hk
  ·rw [hk]; exact block_lt hm.obj
  ·exact MemAt.has_lt hm (o := withβ o β) (.inr hk)
 have hmay : ∀ k, f.may k ↔ k = w.heap.size ∨ k = w.heap.size + 3 ∨ ∃ o, om = some o ∧ o.q = some k := fun k => by rw [hf]; exact Iff.rfl
 have hF : FixAt f cs w1 := by
  obtain ⟨sc, h1, h2, h3⟩ := hst
  obtain ⟨cur, h4, h5⟩ := hce
  refine ⟨by rw [hf, hw1]; exact heap_alloc4_2 _ _ _ _ _, fun hm => ?_, ⟨sc, by rw [hf]; exact blk_keep h1 hb1, by rw [hf]; exact h2, h3⟩, fun hm => ?_, ⟨cur, by rw [hf]; exact blk_keep h4 hb1, h5⟩, fun hm => ?_, by rw [hf]; simp, fun o ho => ?_⟩
  ·rw [hmay] at hm
   rw [hf] at hm
   rcases hm with hm | hm | ⟨o, ho, hm⟩
   ·simp at hm
   ·simp at hm
   ·have := hqlt o ho _ (.inr hm)
    simp only at this
    omega
  ·rw [hmay] at hm
   rw [hf] at hm
   have := block_lt h1
   rcases hm with hm | hm | ⟨o, ho, hm⟩
   ·simp only at hm; omega
   ·simp only at hm; omega
   ·exact (hmem o ho).2.1 hm
  ·rw [hmay] at hm
   rw [hf] at hm
   have := block_lt h4
   rcases hm with hm | hm | ⟨o, ho, hm⟩
   ·simp only at hm; omega
   ·simp only at hm; omega
   ·exact (hmem o ho).2.2 hm
  ·rw [hf] at ho ⊢
   have hq := hqlt o ho
   refine ⟨fun e => ?_, fun e => ?_, fun e => ?_, fun e => ?_⟩
   ·have := hq o.p (.inl rfl); simp only at e; omega
   ·have := hq o.p (.inl rfl); simp only at e; omega
   ·have := hq _ (.inr e); simp only at this; omega
   ·have := hq _ (.inr e); simp only at this; omega
 have hI : IS f w1 ⟨[], [], β, 0⟩ w1 := by
  refine ⟨Keep.refl _ _, by rw [hf, hw1]; exact heap_alloc4_0 _ _ _ _ _, ⟨by rw [hf, hs1]; simp, by rw [hf, hs1]; simp, fun o ho k hk => by rw [hf] at ho; have := hqlt o ho k hk; omega⟩, ⟨.slice none 0 0, .slice none 0 0, by rw [hf, hw1]; exact heap_alloc4_3 _ _ _ _ _, ⟨rfl, .inl ⟨rfl, rfl⟩⟩, ⟨rfl, .inl ⟨rfl, rfl⟩⟩, fun k hk => by simp [Value.ownBlock] at hk⟩, fun o ho => by rw [hf] at ho; exact (hmem o ho).1.below hb1⟩
 have hv3 := blk_keep hv1 hb1
 have hl3 := blk_keep hl1 hb1
 have FF := Lib.hid hF
 have HI := Lib.hid hI
 have HR := Lib.hid hR
 have HV2 := Lib.hid hv2
 have HL2 := Lib.hid hl2
 have HF := Lib.hid hf
 have HS1 := Lib.hid hs1
 have HB1 := Lib.hid hb1
 have HW : Hid (bl < w.heap.size) := block_lt hl1
 have hG : f.G = w.heap.size := by rw [hf]
 have hFF : f.F = w.heap.size + 3 := by rw [hf]
 clear hst hce hmem hV hL hR hb1 hs1 hqlt hmay hF hI hv2 hl2 hv1 hl1 hf
 go_enter Tryz.func20, Tryz.ntmps20
 go_upto_region 6 with fail
 rw [← hw1]
 clear hw1
 have eF : w.heap.size + 1 + 1 + 1 = f.F := by rw [hFF]
 rw [eF, ← hG]
 have kF : w1.heap[f.F]? = some (.cells #[.slice none 0 0, .slice none 0 0] 128 (0, 0)) := by
  obtain ⟨v, l, h1, h2, h3, _⟩ := HI.out.fr
  rcases h2.2 with ⟨rfl, _⟩ | ⟨g, cap, cur, rfl, hB, hh, _⟩
  ·rcases h3.2 with ⟨rfl, _⟩ | ⟨g, cap, cur, rfl, hB, hh, _⟩
   ·exact h1
   ·exact absurd (block_lt hh) (by omega)
  ·exact absurd (block_lt hh) (by omega)
 have k0 : w1.cell? ⟨f.F, 0, none⟩ = some (.slice none 0 0) := by rw [cell_of_row w1 f.F 0 _ _ _ kF]; rfl
 have z0 := frozen_of_row w1 f.F 0 _ _ kF
 have KF := Lib.hid kF
 clear kF eF hG hFF
 go_upto_region 7 with (at_builtin; refine app_u rfl _ _ rfl w1.heap.size (.slice none 0 0) [] V rfl ⟨rfl, .inl ⟨rfl, rfl⟩⟩ bv 0 V.length cv rfl rfl (fun j x hx => by rw [cell_of_row w1 bv _ _ _ _ hv3, Nat.zero_add]; exact HV2.out j x hx) (by simp; omega) (Nat.le_refl _) ?_; intro v2 w7 hown2 g7 hn7; obtain ⟨ad2, c2, rfl⟩ := own_slice hown2; (have hF7 : w7.heap[f.F]? = some (.cells #[.slice none 0 0, .slice none 0 0] 128 (0, 0)) := (g7.block f.F (block_lt KF.out) (by simp [Value.ownBlock])).trans KF.out); (have hz7 := frozen_of_row w7 f.F 0 _ _ hF7); (have hc7 : w7.cell? ⟨f.F, 0, none⟩ = some (.slice none 0 0) := by rw [cell_of_row w7 f.F 0 _ _ _ hF7]; rfl); (have HI7 := Lib.hid (HI.out.setV FF.out.gf FF.out.mm KF.out g7 V hown2 (fun k hk => (hn7 k hk).imp id (fun e => by omega)))); (have HL7 := Lib.hid ((g7.block bl (block_lt hl3) (by simp [Value.ownBlock])).trans hl3)); (have HG7 := Lib.hid g7.size); (have HF7 := Lib.hid hF7); clear hF7 hown2 g7 hn7)
 have HI8 : Hid (IS f w1 ⟨V, [], β, 0⟩ (w7.setCell ⟨f.F, 0, none⟩ (.slice ad2 V.length c2))) := Lib.hid (by have := HI7.out; simpa using this)
 have gs := grown_setCell w7 f.F 0 (.slice ad2 V.length c2)
 have hFl : f.F < w1.heap.size := HI.out.lt.2.1
 have blF : bl ≠ f.F := fun e => by
  have h1 := HF.out
  have h2 := HW.out
  rw [h1] at e
  simp only at e
  omega
 have hl8 := (gs.block bl (block_lt HL7.out) (fun e => blF (by injection e))).trans HL7.out
 have HS8 := Lib.hid (Nat.le_trans HG7.out gs.size)
 have kF : (w7.setCell ⟨f.F, 0, none⟩ (.slice ad2 V.length c2)).heap[f.F]? = some (.cells #[.slice ad2 V.length c2, .slice none 0 0] 128 (0, 0)) := by
  rw [setCell_eq_setRow w7 f.F 0 _ _ _ _ HF7.out, setRow_heap w7 f.F _ _ _ _ HF7.out]
  rfl
 clear HF7
 generalize w7.setCell ⟨f.F, 0, none⟩ (.slice ad2 V.length c2) = w8 at *
 have k1 : w8.cell? ⟨f.F, 1, none⟩ = some (.slice none 0 0) := by rw [cell_of_row w8 f.F 1 _ _ _ kF]; rfl
 have z1 := frozen_of_row w8 f.F 1 _ _ kF
 have KF8 := Lib.hid kF
 clear kF gs hFl blF k0 z0 HI7 HL7
 go_upto_region 8 with (at_builtin; refine app_u rfl _ _ rfl w1.heap.size (.slice none 0 0) [] L rfl ⟨rfl, .inl ⟨rfl, rfl⟩⟩ bl 0 L.length cl rfl rfl (fun j x hx => by rw [cell_of_row w8 bl _ _ _ _ hl8, Nat.zero_add]; exact HL2.out j x hx) (by simp; omega) HS8.out ?_; intro v3 w9 hown3 g9 hn9; obtain ⟨ad3, c3, rfl⟩ := own_slice hown3; (have hF9 : w9.heap[f.F]? = some (.cells #[.slice ad2 V.length c2, .slice none 0 0] 128 (0, 0)) := (g9.block f.F (block_lt KF8.out) (by simp [Value.ownBlock])).trans KF8.out); (have hz9 := frozen_of_row w9 f.F 1 _ _ hF9); (have hc9 : w9.cell? ⟨f.F, 1, none⟩ = some (.slice none 0 0) := by rw [cell_of_row w9 f.F 1 _ _ _ hF9]; rfl); (have HI9 := Lib.hid (HI8.out.setLr FF.out.gf FF.out.mm KF8.out g9 L hown3 (fun k hk => (hn9 k hk).imp id (fun e => by omega)))); clear hF9 hown3 g9 hn9)
 have HI10 : Hid (IS f w1 ⟨V, L, β, 0⟩ (w9.setCell ⟨f.F, 1, none⟩ (.slice ad3 L.length c3))) := Lib.hid (by have := HI9.out; simpa using this)
 generalize w9.setCell ⟨f.F, 1, none⟩ (.slice ad3 L.length c3) = w10 at *
 clear z1 k1 hl8 HS8 hv3 hl3 KF8 HI9 HI8 HG7
 go_wp2_with fail
 go_loopw [13] (fun iv wr => ∃ (j : Nat) (s : CS), j ≤ cs.length ∧ iv = .int .i64 j ∧ Hid (IS f w1 s wr) ∧ Hid (Runs (om.map (·.n)) (cs.drop j) s s2) ∧ s.L.length = L.length) (fun iv _ => cs.length - (intOf iv).toNat)
 case atStart => exact ⟨0, _, Nat.zero_le _, rfl, HI10, HR, rfl⟩
 case round =>
  obtain ⟨j, s, hj, rfl, HIS, HRS, hsl⟩ := hrel
  have hrun := HIS.out.run
  have kE : wr.cell? ⟨f.G, 7, none⟩ = some (.int .i64 s.E) := by rw [cell_of_row wr f.G 7 _ _ _ hrun]; rfl
  clear hrun
  by_cases hE : s.E = 0
  ·by_cases hlt : j < cs.length
   ·obtain ⟨c, hc⟩ : ∃ c, cs[j]? = some c := ⟨_, List.getElem?_eq_getElem hlt⟩
    have hd : cs.drop j = c :: cs.drop (j + 1) := by
     obtain ⟨h3, h4⟩ := List.getElem?_eq_some_iff.1 hc
     rw [List.drop_eq_getElem_cons h3, h4]
    have hr := HRS.out
    rw [hd] at hr
    obtain ⟨s1, hs1, hr1⟩ := hr.go hE
    obtain ⟨⟨o1, o2⟩, ⟨tt, gg, hT, ht0⟩, hA, hs1L⟩ := hs1.ok
    have hce := HIS.out.cel FF.out j c hc
    have fX : f.X = X := by rw [HF.out]
    have q0 : wr.cell? ⟨X, j * 3, none⟩ = some (.int .i64 (c.op : Int)) := by rw [← fX, show j * 3 = 3 * j + 0 by omega]; exact hce 0 _ rfl
    have q1 : wr.cell? ⟨X, j * 3 + 1, none⟩ = some (.int .i64 (c.a : Int)) := by rw [← fX, show j * 3 + 1 = 3 * j + 1 by omega]; exact hce 1 _ rfl
    have HSC := Lib.hid (fun (W : World) => scalar_k c.op tt gg W hT ht0)
    have HST := Lib.hid (fun (W : World) (h : IS f w1 s W) => step_c f cs w1 FF.out (om.map (·.n)) (by rw [HF.out]) c j hc (by omega) s s1 hs1 W h)
    obtain ⟨z, hz⟩ : ∃ z : Int, z = (c.op : Int) := ⟨_, rfl⟩
    rw [← hz] at q0 HSC
    have d1 : decide (z < 26) = false := decide_eq_false (by omega)
    have d2 : decide (256 < z) = false := decide_eq_false (by omega)
    have dd : decide (32 ≤ z) = false ∨ decide (32 ≤ z) = true ∧ decide (z ≤ 34) = false ∨ decide (32 ≤ z) = true ∧ decide (z ≤ 34) = true ∧ c.a < L.length := by
     by_cases c1 : 32 ≤ z
     ·by_cases c2 : z ≤ 34
      ·exact .inr (.inr ⟨decide_eq_true c1, decide_eq_true c2, by have := hA (by omega); omega⟩)
      ·exact .inr (.inl ⟨decide_eq_true c1, decide_eq_false c2⟩)
     ·exact .inl (decide_eq_false c1)
    rw [hE] at kE
    have HR1 := Lib.hid hr1
    have HS1L := Lib.hid (hs1L.trans hsl)
    clear hz hce fX hA o1 o2 hT ht0 hs1 hr hr1 hd hc hs1L HRS hE
    rcases dd with d3 | ⟨d3, d4⟩ | ⟨d3, d4, d5⟩
    all_goals
     go_wp2_with (first | (go_at_call 53; (with_reducible refine (HSC.out _).mono ?_); rintro e u2 ⟨rfl, hb2⟩; have q1b := cell_kp q1 hb2) | (go_at_call 54; (with_reducible refine (HST.out _ (HIS.out.below hb2)).mono ?_); rintro e u3 ⟨rfl, hIS3⟩))
     exact ⟨⟨j + 1, s1, by omega, by first | rfl | simp, Lib.hid hIS3, HR1, HS1L.out⟩, by simp [intOf]; omega⟩
   ·have hR2 := (by have := HRS.out; rw [List.drop_eq_nil_of_le (by omega)] at this; exact this.nil)
    subst hR2
    obtain ⟨v, l, hFr, hv, hl, _⟩ := HIS.out.fr
    have q0 : wr.cell? ⟨f.F, 0, none⟩ = some v := by rw [cell_of_row wr f.F 0 _ _ _ hFr]; rfl
    have q1 : wr.cell? ⟨f.F, 1, none⟩ = some l := by rw [cell_of_row wr f.F 1 _ _ _ hFr]; rfl
    have HVV := Lib.hid (over_end HF.out HB1.out HIS.out hv hl)
    rw [hE] at kE
    have HE := Lib.hid hE
    clear hFr hv hl HRS hE
    go_wp2_with fail
    go_quiet (fail)
    simp only [Exit.then]
    go_at_K
    go_wp2_with fail
    go_ret3
    exact ⟨v, l, by rw [HE.out]; rfl, HVV.out _⟩
  ·have tE : (s.E == 0) = false := beq_eq_false_iff_ne.2 hE
   have hR2 := (HRS.out.stop hE)
   subst hR2
   obtain ⟨v, l, hFr, hv, hl, _⟩ := HIS.out.fr
   have q0 : wr.cell? ⟨f.F, 0, none⟩ = some v := by rw [cell_of_row wr f.F 0 _ _ _ hFr]; rfl
   have q1 : wr.cell? ⟨f.F, 1, none⟩ = some l := by rw [cell_of_row wr f.F 1 _ _ _ hFr]; rfl
   have HVV := Lib.hid (over_end HF.out HB1.out HIS.out hv hl)
   clear hE
   clear hFr hv hl HRS
   by_cases hlt : j < cs.length
   all_goals
    go_wp2_with fail
    go_quiet (fail)
    simp only [Exit.then]
    go_at_K
    go_wp2_with fail
    go_ret3
    exact ⟨v, l, rfl, HVV.out _⟩
end Go.Proofs.YtmfmokblmipagaaGreat
end
section
namespace Go.Proofs.YtmfmokblmipagaaGreat
open Go.RowKit Pl
structure NV (w : World) (v : Value) (V : List (BitVec 64)) : Prop where
 ex : ∃ ad c, v = .slice ad V.length c ∧ ∀ (i : Nat) (x : BitVec 64), V[i]? = some x → ∃ b, ad = some ⟨b, 0, none⟩ ∧ b < w.heap.size ∧ w.cell? ⟨b, i, none⟩ = some (.int .u64 (x.toNat : Int))
theorem NV.nil (w : World) : NV w (.slice none 0 0) [] := ⟨none, 0, rfl, fun i x h => by simp at h⟩
theorem NV.of_own {w : World} {B : Nat} {v : Value} {V : List (BitVec 64)} (h : w.ownsRow B 22 1 v V.length (u6s V)) : NV w v V := by
 rcases h.2 with ⟨rfl, h0⟩ | ⟨g, cap, cur, e, hB, hh, hn, hm, hs, ht⟩
 ·have : V = [] := by simpa using h0
  subst this
  exact NV.nil w
 ·subst e
  refine ⟨_, _, rfl, fun i x hx => ⟨g, rfl, block_lt hh, ?_⟩⟩
  rw [cell_of_row w g i _ _ _ hh]
  have h1 : (u6s V)[i]? = some (Value.int .u64 (x.toNat : Int)) := by simp [u6s, hx]
  rw [← ht, List.getElem?_take] at h1
  split at h1
  ·rw [← h1]; simp
  ·simp at h1
theorem NV.below {w u : World} {v : Value} {V : List (BitVec 64)} (h : NV w v V) (hb : Below w.heap.size w u) : NV u v V := by
 obtain ⟨ad, c, e, h1⟩ := h.ex
 refine ⟨ad, c, e, fun i x hx => ?_⟩
 obtain ⟨b, e1, h2, h3⟩ := h1 i x hx
 exact ⟨b, e1, Nat.lt_of_lt_of_le h2 hb.size, (hb.cell (p := ⟨b, i, none⟩) h2).trans h3⟩
theorem NV.cells {w : World} {b c : Nat} {V : List (BitVec 64)} {T : TypeId} (h : w.heap[b]? = some (.cells (u6s V).toArray T (0, 0))) {n : Nat} (hn : n = V.length) : NV w (.slice (some ⟨b, 0, none⟩) n c) V := by
 subst hn
 refine ⟨_, _, rfl, fun i x hx => ⟨b, rfl, block_lt h, ?_⟩⟩
 rw [cell_of_row w b i _ _ _ h]
 simp [u6s, hx]
theorem made_u64 (n : Nat) : madeCells #[.int .u64 0] n = (u6s (List.replicate n 0)).toArray := by
 have h0 : u6s (List.replicate n 0) = List.replicate n (Value.int .u64 0) := by simp [u6s]
 rw [h0]
 apply Array.ext_getElem?
 intro i
 simp [madeCells, Array.getElem?_ofFn]
 by_cases h : i < n <;> simp [h, Nat.mod_one]
set_option maxRecDepth 100000 in
theorem info_u64 : ∃ i, Tryz.prog.info? 22 = some i ∧ i.zero = some (.int .u64 0) ∧ i.size = 1 ∧ i.bytes = 8 := ⟨_, rfl, rfl, rfl, rfl⟩
set_option maxRecDepth 100000 in
theorem under_u64s : Tryz.prog.underlying 38 = some (.slice 22) := rfl
theorem make_u64 (w : World) (n : Nat) (hn : n ≤ 1000) : (Instr.makeSlice 38 (.int .i64 (n : Int)) (.int .i64 (n : Int))).run Tryz.prog w =
 .ok (.slice (some ⟨w.heap.size, 0, none⟩) n n) (w.alloc (.cells (u6s (List.replicate n 0)).toArray 22)) := by
 obtain ⟨i, hi, hz, hs, hb⟩ := info_u64
 have := run_make (P := Tryz.prog) w 38 22 i _ under_u64s hi hz .i64 .i64 n n (by omega) (by omega) (by rw [hb]; omega) (by omega)
 rw [hs] at this
 simp only [Int.toNat_natCast, Nat.mul_one] at this
 rw [this, ← made_u64]
 rfl
set_option maxRecDepth 100000 in
theorem samen_k (x y : Value) (V : List (BitVec 64)) (w : World) (hx : NV w x V) (hy : NV w y V) (hl : V.length ≤ 1000) :
 Calls Tryz.prog 12 #[x, y] w fun e w' => e = .returned (.bool true) ∧ Below w.heap.size w w' := by
 obtain ⟨xa, xc, rfl, hx2⟩ := hx.ex
 obtain ⟨ya, yc, rfl, hy2⟩ := hy.ex
 have HX := Lib.hid hx2
 have HY := Lib.hid hy2
 clear hx hy hx2 hy2
 obtain ⟨n, hn⟩ : ∃ n, n = V.length := ⟨_, rfl⟩
 have HN := Lib.hid hn
 rw [← hn] at hl ⊢
 clear hn
 go_enter Tryz.func12, Tryz.ntmps12
 go_wp2_with fail
 go_loopw [5] (fun iv wr => ∃ i : Nat, i ≤ n ∧ iv = .int .i64 i ∧ Below w.heap.size w wr) (fun iv _ => n - (intOf iv).toNat)
 case atStart => exact ⟨0, Nat.zero_le _, rfl, Below.refl _ _⟩
 case round =>
  obtain ⟨i, hi, rfl, hb⟩ := hrel
  by_cases hlt : i < n
  ·obtain ⟨z, hz⟩ : ∃ z, V[i]? = some z := ⟨_, List.getElem?_eq_getElem (by rw [← HN.out]; exact hlt)⟩
   obtain ⟨xb, e1, l1, h1⟩ := HX.out i z hz
   obtain ⟨yb, e2, l2, h2⟩ := HY.out i z hz
   subst e1 e2
   have c1 := (hb.cell (p := ⟨xb, i, none⟩) l1).trans h1
   have c2 := (hb.cell (p := ⟨yb, i, none⟩) l2).trans h2
   clear h1 h2 l1 l2 hz
   go_wp2_with fail
   go_quiet (fail)
   replace hb := hb.trans (Below.mono ⟨rfl, rfl, rfl, Nat.le_refl _, fun _ _ => rfl⟩ hb.size : Below w.heap.size wr (wr.drewN nq))
   clear c1 c2
   simp only [Exit.then]
   go_at_K
   go_wp2_with fail
   exact ⟨⟨i + 1, by omega, by first | rfl | simp, hb⟩, by simp [intOf]; omega⟩
  ·obtain rfl : i = n := by omega
   go_wp2_with fail
   go_ret
   exact ⟨rfl, hb⟩
end Go.Proofs.YtmfmokblmipagaaGreat
end
