/-
  The walk of plaitlaw11.VmemAll.
-/
import Derived.Test.YtlcndenbnokcjaaVmAc
set_option linter.unusedSimpArgs false
set_option linter.unusedVariables false
namespace Go.Proofs.Ytlcndenbnokcjaa
open Go.RowKit Pl

set_option maxHeartbeats 16000000 in
set_option maxRecDepth 100000 in
theorem vall_walk (pa dm dc m c2 : Nat) (ad ad2 : Option Addr) (ν : Nat → Nat) (f : Nat → Acc) (w : World) (hv : BView w (.slice ad dm dc) dm ν) (hdm : dm ≤ dc) (hdc : dc ≤ 9223372036854775807) (hpa : pa < 18446744073709551616) (hm : m ≤ 9223372036854775807)
    (hl : m = 0 ∨ ∃ b off, ad2 = some ⟨b, off, none⟩ ∧ AView w b off m f) :
    Calls Try.prog 10 #[.int .u64 (pa : Nat), .slice ad dm dc, .slice ad2 m c2] w fun e w' => e = .returned (.bool true) ∧ Below w.heap.size w w' := by
  have hN : ∀ W, Calls Try.prog 13 #[.int .i64 1, .int .i64 1] W fun e w' => ∃ o, e = .returned (.tuple #[.pointer (some ⟨o.p, 0, none⟩), .int .i64 0]) ∧ Fresh W w' o 86 65536 (fun _ => 0) 1 := fun W => new_ok 1 1 W (by decide) (by decide)
  have hR : ∀ W, Calls Try.prog 14 #[.int .i64 1, .int .i64 1] W fun e w' => ∃ o, e = .returned (.tuple #[.pointer (some ⟨o.p, 0, none⟩), .int .i64 0]) ∧ Fresh W w' o 88 65536 (fun _ => 0) 1 := fun W => rnew_ok 1 1 W (by decide) (by decide)
  have HN := Lib.hid hN
  have HR := Lib.hid hR
  have HL := Lib.hid hl
  clear hN hR hl
  go_enter Try.func10, Try.ntmps10
  go_wp2_with fail
  refine (awake11 _).mono ?_
  rintro e u0 ⟨rfl, hb0⟩
  have hs := (MS.start w).below hb0
  clear hb0
  go_wp2_with fail
  refine (HN.out _).mono ?_
  rintro e u1 ⟨o, rfl, hf⟩
  have on := hf.hn
  have oβ := hf.hβ
  replace hs := hs.fresh hf
  clear hf
  go_wp2_with fail
  refine (HR.out _).mono ?_
  rintro e u2 ⟨r, rfl, hg⟩
  have rn := hg.hn
  have rβ := hg.hβ
  replace hs := hs.fresh hg
  clear hg HN HR
  have hmr := hs.get 0 rfl
  have hmo := hs.get 1 rfl
  replace hs := hs.stored 0 rfl (γ := fun _ => 0) (Keep.refl _ _) ⟨hmr.obj, hmr.row.congr (fun i hi => (rβ i (by rw [← rn]; exact hi)).symm), hmr.pages, hmr.most, hmr.apart⟩
  replace hs := hs.stored 1 rfl (γ := fun _ => 0) (Keep.refl _ _) ⟨hmo.obj, hmo.row.congr (fun i hi => (oβ i (by rw [← on]; exact hi)).symm), hmo.pages, hmo.most, hmo.apart⟩
  simp only [List.set_cons_zero, List.set_cons_succ] at hs
  clear hmr hmo rβ oβ
  obtain ⟨o1, ho1⟩ : ∃ p, p = withβ o (fun _ => 0) := ⟨_, rfl⟩
  obtain ⟨r1, hr1⟩ : ∃ p, p = withβ r (fun _ => 0) := ⟨_, rfl⟩
  have po : o.p = o1.p := by rw [ho1]; rfl
  have pr : r.p = r1.p := by rw [hr1]; rfl
  have no : o1.n = 65536 := by rw [ho1]; exact on
  have nr : r1.n = 65536 := by rw [hr1]; exact rn
  have ββ : r1.β = o1.β := by rw [hr1, ho1]; rfl
  rw [← ho1, ← hr1] at hs
  rw [po, pr]
  clear ho1 hr1 po pr on rn o r
  go_wp2_with fail
  refine (poke_k o1 u2 (hs.get 1 rfl) pa dm _ ν (hv.below hs.bel) hpa (by omega)).mono ?_
  rintro e u3 ⟨rfl, hm3, hk3⟩
  obtain ⟨PE, hPE⟩ : ∃ z, z = pokeE 65536 pa dm := ⟨_, rfl⟩
  have HPE := Lib.hid hPE
  clear hPE
  rw [show pokeE o1.n pa dm = PE by rw [no, HPE.out]]
  replace hs := hs.stored 1 rfl hk3 hm3
  simp only [List.set_cons_zero, List.set_cons_succ] at hs
  clear hm3 hk3
  go_wp2_with fail
  refine (rpoke_k r1 u3 (hs.get 0 rfl) pa dm dc ad ν (hv.below hs.bel) hdm hpa (by omega) (fun h0 g hg hh => by
    have h1 := hs.new r1 (by simp) _ hh
    obtain ⟨ad', c', he, hx⟩ := hv.ex
    injection he with e1 e2 e3
    subst e1 e3
    obtain ⟨b, off, rfl, hc⟩ := hx.resolve_left (by omega)
    injection hg with hg
    subst hg
    exact absurd (World.block_lt_of_cell? w _ (hc 0 h0)) (Nat.not_lt.2 h1))).mono ?_
  rintro e u4 ⟨rfl, hm4, hk4⟩
  replace hs := hs.stored 0 rfl hk4 hm4
  simp only [List.set_cons_zero, List.set_cons_succ] at hs
  clear hm4 hk4
  rw [show pokeE r1.n pa dm = PE by rw [nr, HPE.out]]
  obtain ⟨o, ho⟩ : ∃ p, p = withβ o1 (pokeB o1 pa dm ν) := ⟨_, rfl⟩
  obtain ⟨r, hr⟩ : ∃ p, p = withβ r1 (pokeB r1 pa dm ν) := ⟨_, rfl⟩
  have po : o1.p = o.p := by rw [ho]; rfl
  have pr : r1.p = r.p := by rw [hr]; rfl
  have on : o.n = 65536 := by rw [ho]; exact no
  have rn : r.n = 65536 := by rw [hr]; exact nr
  have rβ : r.β = o.β := by rw [hr, ho]; show pokeB r1 pa dm ν = pokeB o1 pa dm ν; unfold pokeB; rw [nr, no, ββ]
  rw [← ho, ← hr] at hs
  rw [po, pr]
  clear ho hr po pr no nr ββ HPE o1 r1 hv hdm hdc hpa
  obtain ⟨p1, h1⟩ : ∃ p, p = o.p := ⟨_, rfl⟩
  obtain ⟨p2, h2⟩ : ∃ p, p = r.p := ⟨_, rfl⟩
  rw [← h1, ← h2]
  have Q1 := Lib.hid h1
  have Q2 := Lib.hid h2
  clear h1 h2
  go_wp2_with fail
  go_loopw [11] (fun iv wr => ∃ (I : Nat) (o r : MObj), I ≤ m ∧ iv = .int .i64 (I : Int) ∧ p1 = o.p ∧ p2 = r.p ∧ o.n = 65536 ∧ r.n = 65536 ∧ r.β = o.β ∧ MS w [r, o] wr) (fun iv _ => m - (intOf iv).toNat)
  case atStart => exact ⟨0, o, r, Nat.zero_le _, rfl, Q1.out, Q2.out, on, rn, rβ, hs⟩
  case round =>
    clear hs rβ on rn Q1 Q2 o r
    obtain ⟨I, o, r, hI, rfl, hp1, hp2, on, rn, rβ, hs0⟩ := hrel
    by_cases hlt : I < m
    · obtain ⟨b, off, rfl, hAv⟩ := HL.out.resolve_left (by omega)
      have hs := MW.start hs0
      clear hs0 HL
      subst hp1 hp2
      obtain ⟨y, hy⟩ : ∃ y, y = f I := ⟨_, rfl⟩
      have ok : y.Ok := hy ▸ hAv.ok I hlt
      obtain ⟨X, E, L1, L2⟩ := load_both o r y.op y.a y.b y.lo y.hi y.ad y.L y.v ok.op ok.b ok.lo ok.ad (by rw [rn, on]) rβ
      obtain ⟨E2, γ, T1, T2⟩ := store_both o r y.op y.a y.b y.lo y.hi y.ad y.L y.v ok.op ok.b ok.lo ok.ad (by rw [rn, on]) rβ
      obtain ⟨E3, V1, V2⟩ := loadnil_both y.op y.a y.b y.lo y.hi y.ad y.L y.v ok.op ok.lo
      obtain ⟨E4, M1, M2⟩ := storenil_both y.op y.a y.b y.lo y.hi y.ad y.L y.v ok.op ok.lo
      replace L1 : ∀ W, MemAt W o → Calls Try.prog 29 #[.pointer (some ⟨o.p, 0, none⟩), .agg y.ins, .int .u32 y.ad, .agg (cells y.v)] W fun e w' => e = .returned (.tuple #[.agg (cells X), .int .i64 E]) ∧ Below W.heap.size W w' := L1
      replace L2 : ∀ W, MemAt W r → Calls Try.prog 38 #[.pointer (some ⟨r.p, 0, none⟩), .agg y.ins, .int .u32 y.ad, .agg (cells y.v)] W fun e w' => e = .returned (.tuple #[.agg (cells X), .int .i64 E]) ∧ Below W.heap.size W w' := L2
      replace T1 : ∀ W, MemAt W o → Calls Try.prog 28 #[.pointer (some ⟨o.p, 0, none⟩), .agg y.ins, .int .u32 y.ad, .agg (cells y.v)] W fun e w' => e = .returned (.int .i64 E2) ∧ MemAt w' (withβ o γ) ∧ Keep (fun k => o.q = some k) W w' := T1
      replace T2 : ∀ W, MemAt W r → Calls Try.prog 39 #[.pointer (some ⟨r.p, 0, none⟩), .agg y.ins, .int .u32 y.ad, .agg (cells y.v)] W fun e w' => e = .returned (.int .i64 E2) ∧ MemAt w' (withβ r γ) ∧ Keep (fun k => r.q = some k) W w' := T2
      replace V1 : ∀ W, Calls Try.prog 29 #[.pointer none, .agg y.ins, .int .u32 y.ad, .agg (cells y.v)] W fun e w' => e = .returned (.tuple #[.agg (cells 0), .int .i64 E3]) ∧ Below W.heap.size W w' := V1
      replace V2 : ∀ W, Calls Try.prog 38 #[.pointer none, .agg y.ins, .int .u32 y.ad, .agg (cells y.v)] W fun e w' => e = .returned (.tuple #[.agg (cells 0), .int .i64 E3]) ∧ Below W.heap.size W w' := V2
      replace M1 : ∀ W, Calls Try.prog 28 #[.pointer none, .agg y.ins, .int .u32 y.ad, .agg (cells y.v)] W fun e w' => e = .returned (.int .i64 E4) ∧ Below W.heap.size W w' := M1
      replace M2 : ∀ W, Calls Try.prog 39 #[.pointer none, .agg y.ins, .int .u32 y.ad, .agg (cells y.v)] W fun e w' => e = .returned (.int .i64 E4) ∧ Below W.heap.size W w' := M2
      have Z1 : ∀ W, Calls Try.prog 34 #[.int .i64 y.op] W fun e w' => e = .returned (.int .i64 (vszN y.op)) ∧ w' = W := fun W => vsize_any y.op W ok.op
      have Z2 : ∀ W, Calls Try.prog 40 #[.int .i64 y.op] W fun e w' => e = .returned (.int .i64 (vszN y.op)) ∧ w' = W := fun W => rsz_any y.op W ok.op
      generalize vszN y.op = zz at Z1 Z2
      replace L1 := Lib.hid L1
      replace L2 := Lib.hid L2
      replace T1 := Lib.hid T1
      replace T2 := Lib.hid T2
      replace V1 := Lib.hid V1
      replace V2 := Lib.hid V2
      replace M1 := Lib.hid M1
      replace M2 := Lib.hid M2
      replace Z1 := Lib.hid Z1
      replace Z2 := Lib.hid Z2
      have HY := Lib.hid hy
      clear hy ok
      have hB := hAv.below hs.ms.bel
      have A1 : ∀ W, Below wr.heap.size wr W → W.rangeAt b (off + 23 * I) y.ins.toList := fun W hW => HY.out ▸ (hB.below hW).ins hlt
      have A2 : ∀ W, Below wr.heap.size wr W → W.cell? ⟨b, off + 23 * I + 6, none⟩ = some (.int .u32 y.ad) := fun W hW => HY.out ▸ (hB.below hW).addr hlt
      have A3 : ∀ W, Below wr.heap.size wr W → W.rangeAt b (off + 23 * I + 7) (cells y.v).toList := fun W hW => HY.out ▸ (hB.below hW).vec hlt
      have A4 : ∀ W, Below wr.heap.size wr W → W.cell? ⟨b, off + 23 * I, none⟩ = some (.int .i64 y.op) := fun W hW => HY.out ▸ (hB.below hW).op hlt
      clear hB
      have hmo := hs.ms.get 1 rfl
      go_wp2_with fail
      refine region_new1 _ _ X 22 20 21 [0, 1, 2, 3, 4, 5, 6, 7, 8, 9, 10, 11, 12, 13, 14, 15, 16, 17, 18, 19] (by kernel_rfl) rfl rfl rfl rfl rfl _ _ rfl rfl (N1.start X (Below.refl _ _) hs.hold).drew ?_
      simp only [opsAt, List.getElem?_cons_zero, List.getElem?_cons_succ, List.drop_succ_cons, List.drop_zero]
      repeat (first | (refine wpDA_here rfl (fun D u hS => run_ixa _ _ rfl b off m c2 rfl _ rfl I rfl hlt) ?_; simp only [Act.put, List.setIfInBounds_toArray, List.set_cons_zero, List.set_cons_succ]) | (refine wpDA_here rfl (fun D u hS => run_lin _ rfl b (off + 23 * I) rfl y (A1 _ hS.bel)) ?_; simp only [Act.put, List.setIfInBounds_toArray, List.set_cons_zero, List.set_cons_succ]) | (refine wpDA_here rfl (fun D u hS => run_ldc _ isAgg_u32 _ rfl b (off + 23 * I + 6) rfl _ (A2 _ hS.bel)) ?_; simp only [Act.put, List.setIfInBounds_toArray, List.set_cons_zero, List.set_cons_succ]) | (refine wpDA_here rfl (fun D u hS => run_lvm _ rfl b (off + 23 * I + 7) rfl y.v (A3 _ hS.bel)) ?_; simp only [Act.put, List.setIfInBounds_toArray, List.set_cons_zero, List.set_cons_succ]) | (refine wpDA_pure (v := ?_) rfl (fun u => ?_) ?_; rotate_left; (focus (go_simp; (try with_reducible rfl); done)); simp only [Act.put, List.setIfInBounds_toArray, List.set_cons_zero, List.set_cons_succ]))
      (refine wpDA_call (v := .tuple #[.agg (cells X), .int .i64 E]) rfl 29 ?_ (fun u => ?_) (fun D u hS => ?_) ?_; rotate_left 1; (focus (go_simp; (try with_reducible rfl); done)); (focus (refine (L1.out _ (hmo.below hS.bel)).mono ?_; rintro e u2 ⟨rfl, hb⟩; exact ⟨rfl, hS.below hb⟩)); simp only [Act.put, List.setIfInBounds_toArray, List.set_cons_zero, List.set_cons_succ])
      repeat (refine wpDA_pure (v := ?_) rfl (fun u => ?_) ?_; rotate_left; (focus (go_simp; (try with_reducible rfl); done)); simp only [Act.put, List.setIfInBounds_toArray, List.set_cons_zero, List.set_cons_succ])
      refine wpDA_nil (fun x1 => ⟨rfl, rfl, fun wx hx => ?_⟩)
      unfold ptr
      simp only [Act.put, List.setIfInBounds_toArray, List.set_cons_zero, List.set_cons_succ]
      replace hs := hs.after1 hx
      clear hx A1 A2 A3 A4 hmo
      have hB := hAv.below hs.ms.bel
      have A1 : ∀ W, Below wx.heap.size wx W → W.rangeAt b (off + 23 * I) y.ins.toList := fun W hW => HY.out ▸ (hB.below hW).ins hlt
      have A2 : ∀ W, Below wx.heap.size wx W → W.cell? ⟨b, off + 23 * I + 6, none⟩ = some (.int .u32 y.ad) := fun W hW => HY.out ▸ (hB.below hW).addr hlt
      have A3 : ∀ W, Below wx.heap.size wx W → W.rangeAt b (off + 23 * I + 7) (cells y.v).toList := fun W hW => HY.out ▸ (hB.below hW).vec hlt
      have A4 : ∀ W, Below wx.heap.size wx W → W.cell? ⟨b, off + 23 * I, none⟩ = some (.int .i64 y.op) := fun W hW => HY.out ▸ (hB.below hW).op hlt
      clear hB
      have hmr := hs.ms.get 0 rfl
      go_wp2_with fail
      refine region_new1 _ _ X 22 20 21 [0, 1, 2, 3, 4, 5, 6, 7, 8, 9, 10, 11, 12, 13, 14, 15, 16, 17, 18, 19] (by kernel_rfl) rfl rfl rfl rfl rfl _ _ rfl rfl (N1.start X (Below.refl _ _) hs.hold).drew ?_
      simp only [opsAt, List.getElem?_cons_zero, List.getElem?_cons_succ, List.drop_succ_cons, List.drop_zero]
      repeat (first | (refine wpDA_here rfl (fun D u hS => run_ixa _ _ rfl b off m c2 rfl _ rfl I rfl hlt) ?_; simp only [Act.put, List.setIfInBounds_toArray, List.set_cons_zero, List.set_cons_succ]) | (refine wpDA_here rfl (fun D u hS => run_lin _ rfl b (off + 23 * I) rfl y (A1 _ hS.bel)) ?_; simp only [Act.put, List.setIfInBounds_toArray, List.set_cons_zero, List.set_cons_succ]) | (refine wpDA_here rfl (fun D u hS => run_ldc _ isAgg_u32 _ rfl b (off + 23 * I + 6) rfl _ (A2 _ hS.bel)) ?_; simp only [Act.put, List.setIfInBounds_toArray, List.set_cons_zero, List.set_cons_succ]) | (refine wpDA_here rfl (fun D u hS => run_lvm _ rfl b (off + 23 * I + 7) rfl y.v (A3 _ hS.bel)) ?_; simp only [Act.put, List.setIfInBounds_toArray, List.set_cons_zero, List.set_cons_succ]) | (refine wpDA_pure (v := ?_) rfl (fun u => ?_) ?_; rotate_left; (focus (go_simp; (try with_reducible rfl); done)); simp only [Act.put, List.setIfInBounds_toArray, List.set_cons_zero, List.set_cons_succ]))
      (refine wpDA_call (v := .tuple #[.agg (cells X), .int .i64 E]) rfl 38 ?_ (fun u => ?_) (fun D u hS => ?_) ?_; rotate_left 1; (focus (go_simp; (try with_reducible rfl); done)); (focus (refine (L2.out _ (hmr.below hS.bel)).mono ?_; rintro e u2 ⟨rfl, hb⟩; exact ⟨rfl, hS.below hb⟩)); simp only [Act.put, List.setIfInBounds_toArray, List.set_cons_zero, List.set_cons_succ])
      repeat (refine wpDA_pure (v := ?_) rfl (fun u => ?_) ?_; rotate_left; (focus (go_simp; (try with_reducible rfl); done)); simp only [Act.put, List.setIfInBounds_toArray, List.set_cons_zero, List.set_cons_succ])
      refine wpDA_nil (fun x2 => ⟨rfl, rfl, fun wx hx => ?_⟩)
      unfold ptr
      simp only [Act.put, List.setIfInBounds_toArray, List.set_cons_zero, List.set_cons_succ]
      replace hs := hs.after1 hx
      clear hx A1 A2 A3 A4 hmr
      have hB := hAv.below hs.ms.bel
      have A1 : ∀ W, Below wx.heap.size wx W → W.rangeAt b (off + 23 * I) y.ins.toList := fun W hW => HY.out ▸ (hB.below hW).ins hlt
      have A2 : ∀ W, Below wx.heap.size wx W → W.cell? ⟨b, off + 23 * I + 6, none⟩ = some (.int .u32 y.ad) := fun W hW => HY.out ▸ (hB.below hW).addr hlt
      have A3 : ∀ W, Below wx.heap.size wx W → W.rangeAt b (off + 23 * I + 7) (cells y.v).toList := fun W hW => HY.out ▸ (hB.below hW).vec hlt
      have A4 : ∀ W, Below wx.heap.size wx W → W.cell? ⟨b, off + 23 * I, none⟩ = some (.int .i64 y.op) := fun W hW => HY.out ▸ (hB.below hW).op hlt
      clear hB
      go_wp2_with fail
      refine region_do (fun u => Below wx.heap.size wx u) 16 (by kernel_rfl) (by kernel_rfl) (Below.refl _ _).drew ?_
      simp only [List.take_succ_cons, List.take_zero, List.drop_succ_cons, List.drop_zero]
      repeat (first | (refine wpD_hereg rfl (fun u hS => run_ixa _ _ rfl b off m c2 rfl _ rfl I rfl hlt) ?_; simp only [Act.put, List.setIfInBounds_toArray, List.set_cons_zero, List.set_cons_succ]) | (refine wpD_hereg rfl (fun u hS => run_lin _ rfl b (off + 23 * I) rfl y (A1 _ hS)) ?_; simp only [Act.put, List.setIfInBounds_toArray, List.set_cons_zero, List.set_cons_succ]) | (refine wpD_hereg rfl (fun u hS => run_ldc _ isAgg_u32 _ rfl b (off + 23 * I + 6) rfl _ (A2 _ hS)) ?_; simp only [Act.put, List.setIfInBounds_toArray, List.set_cons_zero, List.set_cons_succ]) | (refine wpD_hereg rfl (fun u hS => run_lvm _ rfl b (off + 23 * I + 7) rfl y.v (A3 _ hS)) ?_; simp only [Act.put, List.setIfInBounds_toArray, List.set_cons_zero, List.set_cons_succ]) | (refine wpD_pure (v := ?_) rfl (fun u => ?_) ?_; rotate_left; (focus (go_simp; (try with_reducible rfl); done)); simp only [Act.put, List.setIfInBounds_toArray, List.set_cons_zero, List.set_cons_succ]))
      refine wpD_nil (fun wq hq => ?_)
      replace hs := hs.below hq
      clear hq A1 A2 A3 A4
      go_wp2_with fail
      refine (T1.out _ (hs.ms.get 1 rfl)).mono ?_
      rintro e u1 ⟨rfl, hm5, hk5⟩
      replace hs := hs.stored 1 rfl hm5 hk5
      simp only [List.set_cons_zero, List.set_cons_succ] at hs
      clear hm5 hk5
      have hB := hAv.below hs.ms.bel
      have A1 : ∀ W, Below u1.heap.size u1 W → W.rangeAt b (off + 23 * I) y.ins.toList := fun W hW => HY.out ▸ (hB.below hW).ins hlt
      have A2 : ∀ W, Below u1.heap.size u1 W → W.cell? ⟨b, off + 23 * I + 6, none⟩ = some (.int .u32 y.ad) := fun W hW => HY.out ▸ (hB.below hW).addr hlt
      have A3 : ∀ W, Below u1.heap.size u1 W → W.rangeAt b (off + 23 * I + 7) (cells y.v).toList := fun W hW => HY.out ▸ (hB.below hW).vec hlt
      have A4 : ∀ W, Below u1.heap.size u1 W → W.cell? ⟨b, off + 23 * I, none⟩ = some (.int .i64 y.op) := fun W hW => HY.out ▸ (hB.below hW).op hlt
      clear hB
      go_wp2_with fail
      refine region_do (fun u => Below u1.heap.size u1 u) 16 (by kernel_rfl) (by kernel_rfl) (Below.refl _ _).drew ?_
      simp only [List.take_succ_cons, List.take_zero, List.drop_succ_cons, List.drop_zero]
      repeat (first | (refine wpD_hereg rfl (fun u hS => run_ixa _ _ rfl b off m c2 rfl _ rfl I rfl hlt) ?_; simp only [Act.put, List.setIfInBounds_toArray, List.set_cons_zero, List.set_cons_succ]) | (refine wpD_hereg rfl (fun u hS => run_lin _ rfl b (off + 23 * I) rfl y (A1 _ hS)) ?_; simp only [Act.put, List.setIfInBounds_toArray, List.set_cons_zero, List.set_cons_succ]) | (refine wpD_hereg rfl (fun u hS => run_ldc _ isAgg_u32 _ rfl b (off + 23 * I + 6) rfl _ (A2 _ hS)) ?_; simp only [Act.put, List.setIfInBounds_toArray, List.set_cons_zero, List.set_cons_succ]) | (refine wpD_hereg rfl (fun u hS => run_lvm _ rfl b (off + 23 * I + 7) rfl y.v (A3 _ hS)) ?_; simp only [Act.put, List.setIfInBounds_toArray, List.set_cons_zero, List.set_cons_succ]) | (refine wpD_pure (v := ?_) rfl (fun u => ?_) ?_; rotate_left; (focus (go_simp; (try with_reducible rfl); done)); simp only [Act.put, List.setIfInBounds_toArray, List.set_cons_zero, List.set_cons_succ]))
      refine wpD_nil (fun wq hq => ?_)
      replace hs := hs.below hq
      clear hq A1 A2 A3 A4
      go_wp2_with fail
      refine (T2.out _ (hs.ms.get 0 rfl)).mono ?_
      rintro e u2 ⟨rfl, hm5, hk5⟩
      replace hs := hs.stored 0 rfl hm5 hk5
      simp only [List.set_cons_zero, List.set_cons_succ] at hs
      clear hm5 hk5
      have hB := hAv.below hs.ms.bel
      have A1 : ∀ W, Below u2.heap.size u2 W → W.rangeAt b (off + 23 * I) y.ins.toList := fun W hW => HY.out ▸ (hB.below hW).ins hlt
      have A2 : ∀ W, Below u2.heap.size u2 W → W.cell? ⟨b, off + 23 * I + 6, none⟩ = some (.int .u32 y.ad) := fun W hW => HY.out ▸ (hB.below hW).addr hlt
      have A3 : ∀ W, Below u2.heap.size u2 W → W.rangeAt b (off + 23 * I + 7) (cells y.v).toList := fun W hW => HY.out ▸ (hB.below hW).vec hlt
      have A4 : ∀ W, Below u2.heap.size u2 W → W.cell? ⟨b, off + 23 * I, none⟩ = some (.int .i64 y.op) := fun W hW => HY.out ▸ (hB.below hW).op hlt
      clear hB
      have hEX := eqv (rfl : X = X)
      go_wp2_with fail
      refine region_do (fun u => Below u2.heap.size u2 u) 29 (by kernel_rfl) (by kernel_rfl) (Below.refl _ _).drew ?_
      simp only [List.take_succ_cons, List.take_zero, List.drop_succ_cons, List.drop_zero]
      repeat (first | (refine do_load rfl _ rfl x1 rfl X (fun u hS => blk_keep (hs.hold (x1, X) (List.mem_cons_of_mem _ List.mem_cons_self)) hS) ?_; simp only [Act.put, List.setIfInBounds_toArray, List.set_cons_zero, List.set_cons_succ]) | (refine do_load rfl _ rfl x2 rfl X (fun u hS => blk_keep (hs.hold (x2, X) (List.mem_cons_self)) hS) ?_; simp only [Act.put, List.setIfInBounds_toArray, List.set_cons_zero, List.set_cons_succ]) | (refine wpD_hereg rfl (fun u hS => run_ixa _ _ rfl b off m c2 rfl _ rfl I rfl hlt) ?_; simp only [Act.put, List.setIfInBounds_toArray, List.set_cons_zero, List.set_cons_succ]) | (refine wpD_hereg rfl (fun u hS => run_ldc _ isAgg_int _ rfl b (off + 23 * I) rfl _ (A4 _ hS)) ?_; simp only [Act.put, List.setIfInBounds_toArray, List.set_cons_zero, List.set_cons_succ]) | (refine wpD_callg (v := .int .i64 zz) rfl 34 ?_ (fun u => ?_) (fun u hS => ?_) ?_; rotate_left 1; (focus (go_simp; (try with_reducible rfl); done)); (focus (refine (Z1.out _).mono ?_; rintro e u2 ⟨rfl, rfl⟩; exact ⟨rfl, hS⟩)); simp only [Act.put, List.setIfInBounds_toArray, List.set_cons_zero, List.set_cons_succ]) | (refine wpD_callg (v := .int .i64 zz) rfl 40 ?_ (fun u => ?_) (fun u hS => ?_) ?_; rotate_left 1; (focus (go_simp; (try with_reducible rfl); done)); (focus (refine (Z2.out _).mono ?_; rintro e u2 ⟨rfl, rfl⟩; exact ⟨rfl, hS⟩)); simp only [Act.put, List.setIfInBounds_toArray, List.set_cons_zero, List.set_cons_succ]) | (refine wpD_pure (v := ?_) rfl (fun u => ?_) ?_; rotate_left; (focus (go_simp; (try with_reducible rfl); done)); simp only [Act.put, List.setIfInBounds_toArray, List.set_cons_zero, List.set_cons_succ]) | (refine wpD_pureg (v := ?_) rfl (fun u => ?_) ?_; rotate_left; (focus (go_simp; (try with_reducible rfl); done)); simp only [Act.put, List.setIfInBounds_toArray, List.set_cons_zero, List.set_cons_succ]) | (refine wpD_skip rfl ?_; simp only [Act.put, List.setIfInBounds_toArray, List.set_cons_zero, List.set_cons_succ]))
      refine wpD_nil (fun u3 hq => ?_)
      replace hs := hs.below hq
      clear hq A1 A2 A3 A4 hEX
      have hB := hAv.below hs.ms.bel
      have A1 : ∀ W, Below u3.heap.size u3 W → W.rangeAt b (off + 23 * I) y.ins.toList := fun W hW => HY.out ▸ (hB.below hW).ins hlt
      have A2 : ∀ W, Below u3.heap.size u3 W → W.cell? ⟨b, off + 23 * I + 6, none⟩ = some (.int .u32 y.ad) := fun W hW => HY.out ▸ (hB.below hW).addr hlt
      have A3 : ∀ W, Below u3.heap.size u3 W → W.rangeAt b (off + 23 * I + 7) (cells y.v).toList := fun W hW => HY.out ▸ (hB.below hW).vec hlt
      have A4 : ∀ W, Below u3.heap.size u3 W → W.cell? ⟨b, off + 23 * I, none⟩ = some (.int .i64 y.op) := fun W hW => HY.out ▸ (hB.below hW).op hlt
      clear hB
      go_wp2_with fail
      refine region_do (fun u => Below u3.heap.size u3 u) 19 (by kernel_rfl) (by kernel_rfl) (Below.refl _ _).drew ?_
      simp only [List.take_succ_cons, List.take_zero, List.drop_succ_cons, List.drop_zero]
      repeat (first | (refine wpD_hereg rfl (fun u hS => run_ixa _ _ rfl b off m c2 rfl _ rfl I rfl hlt) ?_; simp only [Act.put, List.setIfInBounds_toArray, List.set_cons_zero, List.set_cons_succ]) | (refine wpD_hereg rfl (fun u hS => run_lin _ rfl b (off + 23 * I) rfl y (A1 _ hS)) ?_; simp only [Act.put, List.setIfInBounds_toArray, List.set_cons_zero, List.set_cons_succ]) | (refine wpD_hereg rfl (fun u hS => run_ldc _ isAgg_u32 _ rfl b (off + 23 * I + 6) rfl _ (A2 _ hS)) ?_; simp only [Act.put, List.setIfInBounds_toArray, List.set_cons_zero, List.set_cons_succ]) | (refine wpD_hereg rfl (fun u hS => run_lvm _ rfl b (off + 23 * I + 7) rfl y.v (A3 _ hS)) ?_; simp only [Act.put, List.setIfInBounds_toArray, List.set_cons_zero, List.set_cons_succ]) | (refine wpD_call (v := .tuple #[.agg (cells 0), .int .i64 E3]) rfl 29 ?_ (fun u => ?_) (fun u hS => ?_) ?_; rotate_left 1; (focus (go_simp; (try with_reducible rfl); done)); (focus (refine (V1.out _).mono ?_; rintro e u2 ⟨rfl, hb⟩; exact ⟨rfl, hS.trans (hb.mono hS.size)⟩)); simp only [Act.put, List.setIfInBounds_toArray, List.set_cons_zero, List.set_cons_succ]) | (refine wpD_pure (v := ?_) rfl (fun u => ?_) ?_; rotate_left; (focus (go_simp; (try with_reducible rfl); done)); simp only [Act.put, List.setIfInBounds_toArray, List.set_cons_zero, List.set_cons_succ]))
      refine wpD_nil (fun u4 hq => ?_)
      replace hs := hs.below hq
      clear hq A1 A2 A3 A4
      have hB := hAv.below hs.ms.bel
      have A1 : ∀ W, Below u4.heap.size u4 W → W.rangeAt b (off + 23 * I) y.ins.toList := fun W hW => HY.out ▸ (hB.below hW).ins hlt
      have A2 : ∀ W, Below u4.heap.size u4 W → W.cell? ⟨b, off + 23 * I + 6, none⟩ = some (.int .u32 y.ad) := fun W hW => HY.out ▸ (hB.below hW).addr hlt
      have A3 : ∀ W, Below u4.heap.size u4 W → W.rangeAt b (off + 23 * I + 7) (cells y.v).toList := fun W hW => HY.out ▸ (hB.below hW).vec hlt
      have A4 : ∀ W, Below u4.heap.size u4 W → W.cell? ⟨b, off + 23 * I, none⟩ = some (.int .i64 y.op) := fun W hW => HY.out ▸ (hB.below hW).op hlt
      clear hB
      go_wp2_with fail
      refine region_do (fun u => Below u4.heap.size u4 u) 19 (by kernel_rfl) (by kernel_rfl) (Below.refl _ _).drew ?_
      simp only [List.take_succ_cons, List.take_zero, List.drop_succ_cons, List.drop_zero]
      repeat (first | (refine wpD_hereg rfl (fun u hS => run_ixa _ _ rfl b off m c2 rfl _ rfl I rfl hlt) ?_; simp only [Act.put, List.setIfInBounds_toArray, List.set_cons_zero, List.set_cons_succ]) | (refine wpD_hereg rfl (fun u hS => run_lin _ rfl b (off + 23 * I) rfl y (A1 _ hS)) ?_; simp only [Act.put, List.setIfInBounds_toArray, List.set_cons_zero, List.set_cons_succ]) | (refine wpD_hereg rfl (fun u hS => run_ldc _ isAgg_u32 _ rfl b (off + 23 * I + 6) rfl _ (A2 _ hS)) ?_; simp only [Act.put, List.setIfInBounds_toArray, List.set_cons_zero, List.set_cons_succ]) | (refine wpD_hereg rfl (fun u hS => run_lvm _ rfl b (off + 23 * I + 7) rfl y.v (A3 _ hS)) ?_; simp only [Act.put, List.setIfInBounds_toArray, List.set_cons_zero, List.set_cons_succ]) | (refine wpD_call (v := .tuple #[.agg (cells 0), .int .i64 E3]) rfl 38 ?_ (fun u => ?_) (fun u hS => ?_) ?_; rotate_left 1; (focus (go_simp; (try with_reducible rfl); done)); (focus (refine (V2.out _).mono ?_; rintro e u2 ⟨rfl, hb⟩; exact ⟨rfl, hS.trans (hb.mono hS.size)⟩)); simp only [Act.put, List.setIfInBounds_toArray, List.set_cons_zero, List.set_cons_succ]) | (refine wpD_pure (v := ?_) rfl (fun u => ?_) ?_; rotate_left; (focus (go_simp; (try with_reducible rfl); done)); simp only [Act.put, List.setIfInBounds_toArray, List.set_cons_zero, List.set_cons_succ]))
      refine wpD_nil (fun u5 hq => ?_)
      replace hs := hs.below hq
      clear hq A1 A2 A3 A4
      have hB := hAv.below hs.ms.bel
      have A1 : ∀ W, Below u5.heap.size u5 W → W.rangeAt b (off + 23 * I) y.ins.toList := fun W hW => HY.out ▸ (hB.below hW).ins hlt
      have A2 : ∀ W, Below u5.heap.size u5 W → W.cell? ⟨b, off + 23 * I + 6, none⟩ = some (.int .u32 y.ad) := fun W hW => HY.out ▸ (hB.below hW).addr hlt
      have A3 : ∀ W, Below u5.heap.size u5 W → W.rangeAt b (off + 23 * I + 7) (cells y.v).toList := fun W hW => HY.out ▸ (hB.below hW).vec hlt
      have A4 : ∀ W, Below u5.heap.size u5 W → W.cell? ⟨b, off + 23 * I, none⟩ = some (.int .i64 y.op) := fun W hW => HY.out ▸ (hB.below hW).op hlt
      clear hB
      go_wp2_with fail
      refine region_do (fun u => Below u5.heap.size u5 u) 16 (by kernel_rfl) (by kernel_rfl) (Below.refl _ _).drew ?_
      simp only [List.take_succ_cons, List.take_zero, List.drop_succ_cons, List.drop_zero]
      repeat (first | (refine wpD_hereg rfl (fun u hS => run_ixa _ _ rfl b off m c2 rfl _ rfl I rfl hlt) ?_; simp only [Act.put, List.setIfInBounds_toArray, List.set_cons_zero, List.set_cons_succ]) | (refine wpD_hereg rfl (fun u hS => run_lin _ rfl b (off + 23 * I) rfl y (A1 _ hS)) ?_; simp only [Act.put, List.setIfInBounds_toArray, List.set_cons_zero, List.set_cons_succ]) | (refine wpD_hereg rfl (fun u hS => run_ldc _ isAgg_u32 _ rfl b (off + 23 * I + 6) rfl _ (A2 _ hS)) ?_; simp only [Act.put, List.setIfInBounds_toArray, List.set_cons_zero, List.set_cons_succ]) | (refine wpD_hereg rfl (fun u hS => run_lvm _ rfl b (off + 23 * I + 7) rfl y.v (A3 _ hS)) ?_; simp only [Act.put, List.setIfInBounds_toArray, List.set_cons_zero, List.set_cons_succ]) | (refine wpD_call (v := .int .i64 E4) rfl 28 ?_ (fun u => ?_) (fun u hS => ?_) ?_; rotate_left 1; (focus (go_simp; (try with_reducible rfl); done)); (focus (refine (M1.out _).mono ?_; rintro e u2 ⟨rfl, hb⟩; exact ⟨rfl, hS.trans (hb.mono hS.size)⟩)); simp only [Act.put, List.setIfInBounds_toArray, List.set_cons_zero, List.set_cons_succ]) | (refine wpD_pure (v := ?_) rfl (fun u => ?_) ?_; rotate_left; (focus (go_simp; (try with_reducible rfl); done)); simp only [Act.put, List.setIfInBounds_toArray, List.set_cons_zero, List.set_cons_succ]))
      refine wpD_nil (fun u6 hq => ?_)
      replace hs := hs.below hq
      clear hq A1 A2 A3 A4
      have hB := hAv.below hs.ms.bel
      have A1 : ∀ W, Below u6.heap.size u6 W → W.rangeAt b (off + 23 * I) y.ins.toList := fun W hW => HY.out ▸ (hB.below hW).ins hlt
      have A2 : ∀ W, Below u6.heap.size u6 W → W.cell? ⟨b, off + 23 * I + 6, none⟩ = some (.int .u32 y.ad) := fun W hW => HY.out ▸ (hB.below hW).addr hlt
      have A3 : ∀ W, Below u6.heap.size u6 W → W.rangeAt b (off + 23 * I + 7) (cells y.v).toList := fun W hW => HY.out ▸ (hB.below hW).vec hlt
      have A4 : ∀ W, Below u6.heap.size u6 W → W.cell? ⟨b, off + 23 * I, none⟩ = some (.int .i64 y.op) := fun W hW => HY.out ▸ (hB.below hW).op hlt
      clear hB
      go_wp2_with fail
      refine region_do (fun u => Below u6.heap.size u6 u) 16 (by kernel_rfl) (by kernel_rfl) (Below.refl _ _).drew ?_
      simp only [List.take_succ_cons, List.take_zero, List.drop_succ_cons, List.drop_zero]
      repeat (first | (refine wpD_hereg rfl (fun u hS => run_ixa _ _ rfl b off m c2 rfl _ rfl I rfl hlt) ?_; simp only [Act.put, List.setIfInBounds_toArray, List.set_cons_zero, List.set_cons_succ]) | (refine wpD_hereg rfl (fun u hS => run_lin _ rfl b (off + 23 * I) rfl y (A1 _ hS)) ?_; simp only [Act.put, List.setIfInBounds_toArray, List.set_cons_zero, List.set_cons_succ]) | (refine wpD_hereg rfl (fun u hS => run_ldc _ isAgg_u32 _ rfl b (off + 23 * I + 6) rfl _ (A2 _ hS)) ?_; simp only [Act.put, List.setIfInBounds_toArray, List.set_cons_zero, List.set_cons_succ]) | (refine wpD_hereg rfl (fun u hS => run_lvm _ rfl b (off + 23 * I + 7) rfl y.v (A3 _ hS)) ?_; simp only [Act.put, List.setIfInBounds_toArray, List.set_cons_zero, List.set_cons_succ]) | (refine wpD_call (v := .int .i64 E4) rfl 39 ?_ (fun u => ?_) (fun u hS => ?_) ?_; rotate_left 1; (focus (go_simp; (try with_reducible rfl); done)); (focus (refine (M2.out _).mono ?_; rintro e u2 ⟨rfl, hb⟩; exact ⟨rfl, hS.trans (hb.mono hS.size)⟩)); simp only [Act.put, List.setIfInBounds_toArray, List.set_cons_zero, List.set_cons_succ]) | (refine wpD_pure (v := ?_) rfl (fun u => ?_) ?_; rotate_left; (focus (go_simp; (try with_reducible rfl); done)); simp only [Act.put, List.setIfInBounds_toArray, List.set_cons_zero, List.set_cons_succ]))
      refine wpD_nil (fun u7 hq => ?_)
      replace hs := hs.below hq
      clear hq A1 A2 A3 A4
      go_wp2_with fail
      exact ⟨⟨I + 1, withβ o γ, withβ r γ, by omega, by go_num, rfl, rfl, on, rn, rfl, hs.ms⟩, by (simp [intOf] <;> omega)⟩
    · obtain rfl : I = m := by omega
      go_wp2_with fail
      rw [hp1, hp2]
      refine (all11_k o r _ (hs0.get 1 rfl) (hs0.get 0 rfl) (by rw [on, rn]) (fun i _ => by rw [rβ])).mono ?_
      rintro e u9 ⟨rfl, hb9⟩
      go_wp2_with fail
      go_ret
      exact ⟨rfl, hs0.bel.trans (hb9.mono hs0.bel.size)⟩

end Go.Proofs.Ytlcndenbnokcjaa
