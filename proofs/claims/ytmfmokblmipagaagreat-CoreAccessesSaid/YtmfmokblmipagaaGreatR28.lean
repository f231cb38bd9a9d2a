/-
  Texts TaY0, TaG, TaH.
-/
import Derived.Test.YtmfmokblmipagaaGreatR27
set_option linter.unusedSimpArgs false
set_option linter.unusedVariables false
set_option maxHeartbeats 8000000
open Pl
section
namespace Go.Proofs.YtmfmokblmipagaaGreat
open Go.RowKit Pl
theorem app_nn (T : TypeId) (w : World) : (Builtin.append_ #[38, 38] T #[.slice none 0 0, .slice none 0 0]).run Tryz.prog w = .ok (.slice none 0 0) w := by kernel_rfl
theorem app_n {ops : Array Oper} {rest : List Oper} {o : Oper} {a : Act} {w : World} {Q : Exit → Act → World → Prop} (hgd : o.guard = none) (s x : Operand) (ho : o.op = .call { callee := .builtin .append, args := #[s, x], argTypes := #[38, 38] })
 (hs : a.eval s = .slice none 0 0) (hx : a.eval x = .slice none 0 0) (h : wpList Tryz.prog ops Q rest (a.put o.dst (.slice none 0 0)) w) : wpList Tryz.prog ops Q (o :: rest) a w := by
 refine wpList_plain hgd fun K hK => ?_
 unfold Oper.wp execOp
 simp only [ho, resolve, invoke, builtin, Sem.run_bind, Sem.run_pure, Result.andThen_ok, List.map_toArray, List.map_cons, List.map_nil, hs, hx, app_nn]
 exact hK _ _ h
set_option maxRecDepth 100000 in
theorem step_z (f : FX) (cs : List Cel) (w1 : World) (F : FixAt f cs w1) (c : Cel) (i : Nat) (hi : cs[i]? = some c) (g : Nat) (HT : Tab19 c.op 0 g) (V : List (BitVec 64)) (L : List (BitVec 64)) (β : Nat → Nat) (s2 : CS) (u : World) (h : IS f w1 ⟨V, L, β, 0⟩ u) (hV : V.length ≤ 90 ∧ g ≤ 1) (hO : c.op = 32 ∨ c.op = 33 ∨ c.op = 66 ∨ c.op = 41 ∨ c.op = 49 ∨ c.op = 51 ∨ c.op = 53 ∨ c.op = 55 ∨ c.op = 60 ∨ c.op = 61 ∨ c.op = 62 ∨ 124 ≤ c.op ∧ c.op ≤ 138) (hM : 40 ≤ c.op ∧ c.op ≤ 64 → ∃ o, f.om = some o)(hic : cs.length ≤ 1000)
 (HP : ∀ (lv : Value) (xx : Int) (u2 : World), IS f w1 ⟨V, L, β, 0⟩ u2 → Calls Tryz.prog 91 #[.pointer (some ⟨f.G, 0, none⟩), .pointer (some ⟨f.F, 0, none⟩), .agg (celR c).toArray, lv, .int .u64 xx] u2 fun e u' => e = .returned (.tuple #[]) ∧ IS f w1 s2 u') :
 Calls Tryz.prog 54 #[.pointer (some ⟨f.G, 0, none⟩), .pointer (some ⟨f.F, 0, none⟩), .int .i64 0, .int .i64 (i : Int)] u fun e u' => e = .returned (.int .i64 ((i : Int) + 1)) ∧ IS f w1 s2 u' := by
 obtain ⟨z, hz⟩ : ∃ z : Int, z = (c.op : Int) := ⟨_, rfl⟩
 have FF := Lib.hid F
 have HI := Lib.hid h
 have hiL : i < cs.length := (List.getElem?_eq_some_iff.1 hi).1
 have hrun := h.run
 have hfn := h.fn F
 have hce := h.cel F i c hi
 obtain ⟨v, lr, hF, hv, hL, hvl⟩ := h.fr
 have k0 : u.cell? ⟨f.G, 1, none⟩ = some (.slice (some ⟨f.fb, 0, none⟩) 1 1) := by rw [cell_of_row u f.G 1 _ _ _ hrun]; rfl
 have k1 : u.cell? ⟨f.fb, 5, none⟩ = some (.slice (some ⟨f.X, 0, none⟩) cs.length f.c) := by rw [cell_of_row u f.fb 5 _ _ _ hfn]; rfl
 have q0 : u.cell? ⟨f.X, i * 3, none⟩ = some (.int .i64 z) := by rw [hz, show i * 3 = 3 * i + 0 by omega]; exact hce 0 _ rfl
 have q1 : u.cell? ⟨f.X, i * 3 + 1, none⟩ = some (.int .i64 (c.a : Int)) := by rw [show i * 3 + 1 = 3 * i + 1 by omega]; exact hce 1 _ rfl
 have q2 : u.cell? ⟨f.X, i * 3 + 2, none⟩ = some (.int .u64 (c.n : Int)) := by rw [show i * 3 + 2 = 3 * i + 2 by omega]; exact hce 2 _ rfl
 have HE : ∀ W, Calls Tryz.prog 86 #[.agg #[f.sg, .slice (some ⟨f.fb, 0, none⟩) 1 1], .int .i64 0, .agg #[.int .i64 z, .int .i64 (c.a : Int), .int .u64 (c.n : Int)]] W fun e w' => e = .returned (.tuple #[.int .i64 0, .int .i64 (g : Int)]) ∧ Below W.heap.size W w' := fun W => by
  rw [hz]
  exact effects_k f.sg _ 0 c.op c.a c.n 0 g W HT (by omega) (by omega)
 replace HE := Lib.hid HE
 have t35 : (z == 35) = false := beq_eq_false_iff_ne.2 (by omega)
 have t36 : (z == 36) = false := beq_eq_false_iff_ne.2 (by omega)
 have s0 : (z == 0) = false := beq_eq_false_iff_ne.2 (by omega)
 have s12 : (z == 12) = false := beq_eq_false_iff_ne.2 (by omega)
 have s13 : (z == 13) = false := beq_eq_false_iff_ne.2 (by omega)
 have s14 : (z == 14) = false := beq_eq_false_iff_ne.2 (by omega)
 have s15 : (z == 15) = false := beq_eq_false_iff_ne.2 (by omega)
 have s16 : (z == 16) = false := beq_eq_false_iff_ne.2 (by omega)
 have s17 : (z == 17) = false := beq_eq_false_iff_ne.2 (by omega)
 have s257 : (z == 257) = false := beq_eq_false_iff_ne.2 (by omega)
 have hMM : decide (40 ≤ z) = false ∨ decide (40 ≤ z) = true ∧ decide (z ≤ 64) = false ∨ decide (40 ≤ z) = true ∧ decide (z ≤ 64) = true ∧ ∃ o, f.om = some o := by
  by_cases c1 : 40 ≤ z
  ·by_cases c2 : z ≤ 64
   ·exact .inr (.inr ⟨decide_eq_true c1, decide_eq_true c2, hM (by omega)⟩)
   ·exact .inr (.inl ⟨decide_eq_true c1, decide_eq_false c2⟩)
  ·exact .inl (decide_eq_false c1)
 have HUS := Lib.hid h.keep.size
 have hcl : (celR c).toArray = #[.int .i64 z, .int .i64 (c.a : Int), .int .u64 (c.n : Int)] := by rw [hz]; rfl
 rw [hcl] at HP
 replace HP := Lib.hid HP
 have ei : IntKind.i64.wrap ((i : Int) + 1) = (i : Int) + 1 := IntWalk.i64_in _ (by omega)
 clear hcl
 clear h F hce HT hM hO
 clear hz
 go_enter Tryz.func54, Tryz.ntmps54
 go_upto_region 2 with fail
 obtain ⟨W, hW⟩ : ∃ W, W = u.alloc (.cells #[.int .i64 z, .int .i64 (c.a : Int), .int .u64 (c.n : Int)] 130) := ⟨_, rfl⟩
 have hC : W.heap[u.heap.size]? = some (.cells #[.int .i64 z, .int .i64 (c.a : Int), .int .u64 (c.n : Int)] 130 (0, 0)) := hW ▸ heap_alloc_new _ _
 have hIW : Hid (IS f w1 ⟨V, L, β, 0⟩ W) := hW ▸ HI.out.below ((Below.refl _ _).alloc (Nat.le_refl _) _)
 rw [← hW]
 clear hW k0 k1 q0 q1 q2 hrun hfn hF hv hL hvl
 have hrun := hIW.out.run
 have rP : W.rangeAt f.G 0 [f.sg, .slice (some ⟨f.fb, 0, none⟩) 1 1] := range_pre hrun _ (fun j v hj => by
  match j with
  | 0 => exact hj
  | 1 => exact hj
  | j + 2 => simp at hj)
 have rC : W.rangeAt u.heap.size 0 [.int .i64 z, .int .i64 (c.a : Int), .int .u64 (c.n : Int)] := range_pre hC _ (fun j v hj => by
  match j with
  | 0 => exact hj
  | 1 => exact hj
  | 2 => exact hj
  | j + 3 => simp at hj)
 refine region_do (fun v => Below W.heap.size W v) 11 (by kernel_rfl) (by kernel_rfl) (Below.refl _ _).drew ?_
 simp only [zF, zE, zD, zC]
 repeat (first | (refine wpD_here rfl (fun v hS => run_ldprog _ rfl f.G rfl f.sg (.slice (some ⟨f.fb, 0, none⟩) 1 1) (fun j y hj => cell_kp (rP j y hj) hS)) ?_; simp only [Act.put, z5, z6, z7]) | (refine wpD_here rfl (fun v hS => run_ldcel _ rfl u.heap.size rfl (.int .i64 z) (.int .i64 (c.a : Int)) (.int .u64 (c.n : Int)) (fun j y hj => cell_kp (rC j y hj) hS)) ?_; simp only [Act.put, z5, z6, z7]) | (refine wpD_call (v := .tuple #[.int .i64 0, .int .i64 (g : Int)]) rfl 86 ?_ (fun u => ?_) (fun u hS => ?_) ?_; rotate_left 1; (focus (go_simp; (try with_reducible rfl); done)); (focus (refine (HE.out _).mono ?_; rintro e u2 ⟨rfl, hb⟩; exact ⟨rfl, hS.trans (hb.mono hS.size)⟩)); simp only [Act.put, z5, z6, z7]) | (refine wpD_pure (v := ?_) rfl (fun u => ?_) ?_; rotate_left; (focus (go_simp; (try with_reducible rfl); done)); simp only [Act.put, z5, z6, z7]))
 refine wpD_nil (fun w5 hb5 => ?_)
 have hI5 := hIW.out.below hb5
 have hC5 := blk_keep hC hb5
 clear hrun rP rC hC hIW hb5 HI
 obtain ⟨v, lr, hF, hv, hL, hvl⟩ := hI5.fr
 have hvs := own_slice hv
 obtain ⟨ad, cp, rfl⟩ := hvs
 have k0 : w5.cell? ⟨f.F, 0, none⟩ = some (.slice ad V.length cp) := by rw [cell_of_row w5 f.F 0 _ _ _ hF]; rfl
 have k1 : w5.cell? ⟨f.G, 2, none⟩ = some (.pointer (some ⟨f.sb, 0, none⟩)) := by rw [cell_of_row w5 f.G 2 _ _ _ hI5.run]; rfl
 have k2 : w5.cell? ⟨u.heap.size, 1, none⟩ = some (.int .i64 (c.a : Int)) := by rw [cell_of_row w5 u.heap.size 1 _ _ _ hC5]; rfl
 have k3 : w5.cell? ⟨u.heap.size, 0, none⟩ = some (.int .i64 z) := by rw [cell_of_row w5 u.heap.size 0 _ _ _ hC5]; rfl
 have hst := hI5.st FF.out
 have HS := Lib.hid (fun (W : World) (h : W.cell? ⟨f.sb, 13, none⟩ = some (.slice none 0 0)) => slot_k f.sb (c.a : Int) W h)
 have k4 := hst.1
 have HST := Lib.hid hst.2
 clear hst
 go_wp2_with fail
 go_quiet ((go_at_call 87; exact Calls.quiet_of_same (HS.out _ HST.out)))
 have hI6 : IS f w1 ⟨V, L, β, 0⟩ (w5.drewN nq) := hI5.below ⟨rfl, rfl, rfl, Nat.le_refl _, fun _ _ => rfl⟩
 have hF6 : (w5.drewN nq).heap[f.F]? = some (.cells #[.slice ad V.length cp, lr] 128 (0, 0)) := hF
 have hC6 : (w5.drewN nq).heap[u.heap.size]? = some (.cells #[.int .i64 z, .int .i64 (c.a : Int), .int .u64 (c.n : Int)] 130 (0, 0)) := hC5
 have hv6 : (w5.drewN nq).ownsRow w1.heap.size 22 1 (.slice ad V.length cp) V.length (u6s (V)) := hv
 generalize w5.drewN nq = w6 at *
 clear hI5 hF hC5 hv k0 k1 k2 k3 k4 HST hL hvl
 have k0 : w6.cell? ⟨f.F, 0, none⟩ = some (.slice ad V.length cp) := by rw [cell_of_row w6 f.F 0 _ _ _ hF6]; rfl
 have z0 := frozen_of_row w6 f.F 0 _ _ hF6
 have k1 : w6.cell? ⟨f.G, 2, none⟩ = some (.pointer (some ⟨f.sb, 0, none⟩)) := by rw [cell_of_row w6 f.G 2 _ _ _ hI6.run]; rfl
 have k3 : w6.cell? ⟨u.heap.size, 0, none⟩ = some (.int .i64 z) := by rw [cell_of_row w6 u.heap.size 0 _ _ _ hC6]; rfl
 have k4 := (hI6.st FF.out).1
 obtain ⟨hV1, hV3⟩ := hV
 have e1 : IntKind.i64.wrap (V.length : Int) = (V.length : Int) := IntWalk.i64_in _ (by omega)
 have e2 : IntKind.i64.wrap ((V.length : Int) + g) = (V.length : Int) + g := IntWalk.i64_in _ (by omega)
 have f2 : decide ((1048576 : Int) < (V.length : Int) + g) = false := decide_eq_false (by omega)
 have HI6 := Lib.hid hI6
 have HF6 := Lib.hid hF6
 have HC6 := Lib.hid hC6
 have HV6 := Lib.hid hv6
 have hcas : (ad = none ∧ V.length = 0 ∧ cp = 0) ∨ ∃ gv, ad = some ⟨gv, 0, none⟩ ∧ V.length ≤ cp := by
  rcases hv6.2 with ⟨e, e0⟩ | ⟨gv, cap, cur, e, hB, hh, hn, _, _, hx⟩
  ·injection e with e1 e2 e3
   exact .inl ⟨e1, e2, e3⟩
  ·injection e with e1 e2 e3
   subst e3
   exact .inr ⟨gv, e1, hn⟩
 clear hI6 hF6 hC6 hv6
 simp only [Exit.then]
 go_at_K
 have k4p : ∀ om, f.om = some om → w6.cell? ⟨f.sb, 11, none⟩ = some (.pointer (some ⟨om.p, 0, none⟩)) := fun om hom => by rw [hom] at k4; exact k4
 clear k4
 rcases hMM with hM1 | ⟨hM1, hM2⟩ | ⟨hM1, hM2, om, hom⟩
 rotate_left 2
 have k4 := k4p om hom
 rotate_left 1
 all_goals
  clear k4p
  rcases hcas with ⟨rfl, hV0, rfl⟩ | ⟨gv, rfl, hle⟩
  ·obtain rfl : V = [] := List.length_eq_zero_iff.1 hV0
   go_upto_region 9 with fail
   go_upto_region 10 with (at_builtin; refine app_n rfl _ _ rfl rfl rfl ?_)
   have hb7 : Below w6.heap.size w6 w6 := Below.refl _ _
   have hI7 := HI6.out.below hb7
   have hF7 := blk_keep HF6.out hb7
   have hC7 := blk_keep HC6.out hb7
   have hv7 := own_below HV6.out hb7
   have k0' : w6.cell? ⟨f.F, 0, none⟩ = some (.slice none 0 0) := by rw [cell_of_row w6 f.F 0 _ _ _ hF7]; rfl
   have z0' := frozen_of_row w6 f.F 0 _ _ hF7
   have k3' : w6.cell? ⟨u.heap.size, 0, none⟩ = some (.int .i64 z) := by rw [cell_of_row w6 u.heap.size 0 _ _ _ hC7]; rfl
   have HI7 := Lib.hid hI7
   have HF7 := Lib.hid hF7
   have HC7 := Lib.hid hC7
   have HV7 := Lib.hid hv7
   clear hI7 hF7 hC7 hv7 hb7 k0 k1 k3 z0
   try clear k4
   go_upto_region 53 with fail
   go_upto_region 54 with fail
   have hIV := HI7.out.setV FF.out.gf FF.out.mm HF7.out (grown_refl w6 _) (v2 := .slice none 0 0) [] HV7.out (fun k hk => .inl hk)
   have gs := grown_setCell w6 f.F 0 (.slice none 0 0)
   have hFu : f.F < w1.heap.size := HI7.out.lt.2.1
   have huS : w1.heap.size ≤ u.heap.size := HUS.out
   have hC8 := (gs.block u.heap.size (block_lt HC7.out) (fun e => by injection e with e; omega)).trans HC7.out
   generalize w6.setCell ⟨f.F, 0, none⟩ (.slice none 0 0) = w8 at *
   have p0 : w8.cell? ⟨u.heap.size, 0, none⟩ = some (.int .i64 z) := by rw [cell_of_row w8 u.heap.size 0 _ _ _ hC8]; rfl
   have p1 : w8.cell? ⟨u.heap.size, 1, none⟩ = some (.int .i64 (c.a : Int)) := by rw [cell_of_row w8 u.heap.size 1 _ _ _ hC8]; rfl
   have p2 : w8.cell? ⟨u.heap.size, 2, none⟩ = some (.int .u64 (c.n : Int)) := by rw [cell_of_row w8 u.heap.size 2 _ _ _ hC8]; rfl
   have HIV := Lib.hid hIV
   clear hIV hC8 gs hFu huS
   go_wp2_with (go_at_call 91; refine Calls.mono (HP.out _ _ _ HIV.out) ?_; rintro e u9 ⟨rfl, hR⟩)
   go_ret
   exact ⟨rfl, hR⟩
  ·have hcc : cp = V.length ∨ ¬ cp = V.length := Decidable.em _
   rcases hcc with rfl | hcc
   ·go_upto_region 9 with fail
    go_upto_region 10 with (first | (at_builtin; refine app_u rfl _ _ rfl w1.heap.size (.slice none 0 0) [] [] rfl ⟨rfl, .inl ⟨rfl, rfl⟩⟩ gv 0 0 _ rfl rfl (fun j x h => by simp at h) (by simp) HI6.out.keep.size ?_; intro lv w7 hown7 g7 hn7) | (at_builtin; refine app_u rfl _ _ rfl w1.heap.size (.slice none 0 0) [] [] rfl ⟨rfl, .inl ⟨rfl, rfl⟩⟩ gv V.length 0 _ rfl rfl (fun j x h => by simp at h) (by simp) HI6.out.keep.size ?_; intro lv w7 hown7 g7 hn7))
    have hb7 : Below w6.heap.size w6 w7 := ⟨g7.os, g7.tape, g7.output, g7.size, fun k hk => g7.block k hk (by simp [Value.ownBlock])⟩
    clear g7 hn7 hown7
    have hI7 := HI6.out.below hb7
    have hF7 := blk_keep HF6.out hb7
    have hC7 := blk_keep HC6.out hb7
    have hv7 := own_below HV6.out hb7
    have k0' : w7.cell? ⟨f.F, 0, none⟩ = some (.slice (some ⟨gv, 0, none⟩) V.length V.length) := by rw [cell_of_row w7 f.F 0 _ _ _ hF7]; rfl
    have z0' := frozen_of_row w7 f.F 0 _ _ hF7
    have k3' : w7.cell? ⟨u.heap.size, 0, none⟩ = some (.int .i64 z) := by rw [cell_of_row w7 u.heap.size 0 _ _ _ hC7]; rfl
    have HI7 := Lib.hid hI7
    have HF7 := Lib.hid hF7
    have HC7 := Lib.hid hC7
    have HV7 := Lib.hid hv7
    clear hI7 hF7 hC7 hv7 hb7 k0 k1 k3 z0
    try clear k4
    go_upto_region 53 with fail
    go_upto_region 54 with fail
    have hIV := HI7.out.setV FF.out.gf FF.out.mm HF7.out (grown_refl w7 _) (v2 := .slice (some ⟨gv, 0, none⟩) V.length V.length) V HV7.out (fun k hk => .inl hk)
    have gs := grown_setCell w7 f.F 0 (.slice (some ⟨gv, 0, none⟩) V.length V.length)
    have hFu : f.F < w1.heap.size := HI7.out.lt.2.1
    have huS : w1.heap.size ≤ u.heap.size := HUS.out
    have hC8 := (gs.block u.heap.size (block_lt HC7.out) (fun e => by injection e with e; omega)).trans HC7.out
    generalize w7.setCell ⟨f.F, 0, none⟩ (.slice (some ⟨gv, 0, none⟩) V.length V.length) = w8 at *
    have p0 : w8.cell? ⟨u.heap.size, 0, none⟩ = some (.int .i64 z) := by rw [cell_of_row w8 u.heap.size 0 _ _ _ hC8]; rfl
    have p1 : w8.cell? ⟨u.heap.size, 1, none⟩ = some (.int .i64 (c.a : Int)) := by rw [cell_of_row w8 u.heap.size 1 _ _ _ hC8]; rfl
    have p2 : w8.cell? ⟨u.heap.size, 2, none⟩ = some (.int .u64 (c.n : Int)) := by rw [cell_of_row w8 u.heap.size 2 _ _ _ hC8]; rfl
    have HIV := Lib.hid hIV
    clear hIV hC8 gs hFu huS
    go_wp2_with (go_at_call 91; refine Calls.mono (HP.out _ _ _ HIV.out) ?_; rintro e u9 ⟨rfl, hR⟩)
    go_ret
    exact ⟨rfl, hR⟩
   ·go_upto_region 9 with fail
    go_upto_region 10 with (first | (at_builtin; refine app_u rfl _ _ rfl w1.heap.size (.slice none 0 0) [] [] rfl ⟨rfl, .inl ⟨rfl, rfl⟩⟩ gv 0 0 _ rfl rfl (fun j x h => by simp at h) (by simp) HI6.out.keep.size ?_; intro lv w7 hown7 g7 hn7) | (at_builtin; refine app_u rfl _ _ rfl w1.heap.size (.slice none 0 0) [] [] rfl ⟨rfl, .inl ⟨rfl, rfl⟩⟩ gv V.length 0 _ rfl rfl (fun j x h => by simp at h) (by simp) HI6.out.keep.size ?_; intro lv w7 hown7 g7 hn7))
    have hb7 : Below w6.heap.size w6 w7 := ⟨g7.os, g7.tape, g7.output, g7.size, fun k hk => g7.block k hk (by simp [Value.ownBlock])⟩
    clear g7 hn7 hown7
    have hI7 := HI6.out.below hb7
    have hF7 := blk_keep HF6.out hb7
    have hC7 := blk_keep HC6.out hb7
    have hv7 := own_below HV6.out hb7
    have k0' : w7.cell? ⟨f.F, 0, none⟩ = some (.slice (some ⟨gv, 0, none⟩) V.length cp) := by rw [cell_of_row w7 f.F 0 _ _ _ hF7]; rfl
    have z0' := frozen_of_row w7 f.F 0 _ _ hF7
    have k3' : w7.cell? ⟨u.heap.size, 0, none⟩ = some (.int .i64 z) := by rw [cell_of_row w7 u.heap.size 0 _ _ _ hC7]; rfl
    have HI7 := Lib.hid hI7
    have HF7 := Lib.hid hF7
    have HC7 := Lib.hid hC7
    have HV7 := Lib.hid hv7
    clear hI7 hF7 hC7 hv7 hb7 k0 k1 k3 z0
    try clear k4
    go_upto_region 53 with fail
    go_upto_region 54 with fail
    have hIV := HI7.out.setV FF.out.gf FF.out.mm HF7.out (grown_refl w7 _) (v2 := .slice (some ⟨gv, 0, none⟩) V.length cp) V HV7.out (fun k hk => .inl hk)
    have gs := grown_setCell w7 f.F 0 (.slice (some ⟨gv, 0, none⟩) V.length cp)
    have hFu : f.F < w1.heap.size := HI7.out.lt.2.1
    have huS : w1.heap.size ≤ u.heap.size := HUS.out
    have hC8 := (gs.block u.heap.size (block_lt HC7.out) (fun e => by injection e with e; omega)).trans HC7.out
    generalize w7.setCell ⟨f.F, 0, none⟩ (.slice (some ⟨gv, 0, none⟩) V.length cp) = w8 at *
    have p0 : w8.cell? ⟨u.heap.size, 0, none⟩ = some (.int .i64 z) := by rw [cell_of_row w8 u.heap.size 0 _ _ _ hC8]; rfl
    have p1 : w8.cell? ⟨u.heap.size, 1, none⟩ = some (.int .i64 (c.a : Int)) := by rw [cell_of_row w8 u.heap.size 1 _ _ _ hC8]; rfl
    have p2 : w8.cell? ⟨u.heap.size, 2, none⟩ = some (.int .u64 (c.n : Int)) := by rw [cell_of_row w8 u.heap.size 2 _ _ _ hC8]; rfl
    have HIV := Lib.hid hIV
    clear hIV hC8 gs hFu huS
    go_wp2_with (go_at_call 91; refine Calls.mono (HP.out _ _ _ HIV.out) ?_; rintro e u9 ⟨rfl, hR⟩)
    go_ret
    exact ⟨rfl, hR⟩
end Go.Proofs.YtmfmokblmipagaaGreat
end
section
namespace Go.Proofs.YtmfmokblmipagaaGreat
open Go.RowKit Pl
theorem LV.below {w1 u u2 : World} {lv : Value} {xs : List (BitVec 64)} (h : LV w1 lv xs u) (hb : Below u.heap.size u u2) : LV w1 lv xs u2 := by
 obtain ⟨g, c, cur, e, h1, h2, h3⟩ := h.ex
 exact ⟨g, c, cur, e, h1, blk_keep h2 hb, h3⟩
theorem ldC_ops {op : Nat} (h : ldC op ≠ 0) : op = 41 ∨ op = 49 ∨ op = 51 ∨ op = 53 := by
 unfold ldC at h
 repeat (first | omega | (split at h; omega))
theorem stC_ops {op : Nat} (h : stC op ≠ 0) : op = 55 ∨ op = 60 ∨ op = 61 ∨ op = 62 := by
 unfold stC at h
 repeat (first | omega | (split at h; omega))
theorem step_c (f : FX) (cs : List Cel) (w1 : World) (F : FixAt f cs w1) (N : Option Nat) (hN : N = f.om.map (·.n)) (c : Cel) (i : Nat) (hi : cs[i]? = some c) (hic : cs.length ≤ 1000) (s s2 : CS) (hs : StepC N c s s2) (u : World) (h : IS f w1 s u) :
 Calls Tryz.prog 54 #[.pointer (some ⟨f.G, 0, none⟩), .pointer (some ⟨f.F, 0, none⟩), .int .i64 0, .int .i64 (i : Int)] u fun e u' => e = .returned (.int .i64 ((i : Int) + 1)) ∧ IS f w1 s2 u' := by
 have hom : ∀ n, N = some n → ∃ om, f.om = some om ∧ om.n = n := fun n hn => by
  rw [hN] at hn
  cases ho : f.om with
  | none => rw [ho] at hn; simp at hn
  | some om => rw [ho] at hn; exact ⟨om, rfl, by simpa using hn⟩
 cases hs with
 | get V L β a m ha hV x hx =>
   exact step_z f cs w1 F ⟨32, a, m⟩ i hi 1 tab_32 V L β _ u h ⟨hV, by omega⟩ (by simp) (by intro hh; simp at hh) hic (fun lv xx u2 h2 => plain_get f cs w1 F a m x V L β lv xx u2 h2 (by omega) hx)
 | set V L β a m ha hV x =>
   exact step_t f cs w1 F ⟨33, a, m⟩ i hi 1 0 tab_33 V [x] rfl L β _ u h ⟨hV, by omega, by omega⟩ (by simp) (by intro hh; simp at hh) (by omega) hic (fun lv xx u2 h2 hl2 => plain_set f cs w1 F a m x V L β lv xx u2 h2 ha hl2)
 | num V L β a hV x =>
   exact step_z f cs w1 F ⟨66, a, x.toNat⟩ i hi 1 tab_66 V L β _ u h ⟨hV, by omega⟩ (by simp) (by intro hh; simp at hh) hic (fun lv xx u2 h2 => plain_num f cs w1 F a x V L β lv xx u2 h2 (by omega))
 | bin V L β op a m ho hV x y h2 =>
   exact step_t f cs w1 F ⟨op, a, m⟩ i hi 2 1 (tab_bin ho.1) V [x, y] rfl L β _ u h ⟨hV, by omega, by omega⟩ (by simp only; omega) (by intro hh; simp only at hh; omega) (by omega) hic (fun lv xx u2 h3 hl2 => plain_def f op a m lv xx u2 _ (by omega) (fun u3 hb => number_bin f cs w1 F op a m x y V L β lv u3 (h3.below hb) (hl2.below hb) ho h2 (by omega)))
 | ld V L β op a m n ho hn hm hV x hin y hy =>
   obtain ⟨om, hom, rfl⟩ := hom n hn
   have hop := ldC_ops ho
   exact step_t f cs w1 F ⟨op, a, m⟩ i hi 1 1 (tab_ld ho) V [x] rfl L β _ u h ⟨hV, by omega, by omega⟩ (by simp only; omega) (fun _ => ⟨om, hom⟩) (by omega) hic (fun lv xx u2 h3 hl2 => plain_def f op a m lv xx u2 _ (by omega) (fun u3 hb => number_ld f cs w1 F om hom op a m x y V L β lv u3 (h3.below hb) (hl2.below hb) ho hm (by omega) 0 (by rw [if_pos hin]; exact hy) (by rw [if_pos hin])))
 | ldx V L β op a m n ho hn hm hV x hin =>
   obtain ⟨om, hom, rfl⟩ := hom n hn
   have hop := ldC_ops ho
   exact step_t f cs w1 F ⟨op, a, m⟩ i hi 1 1 (tab_ld ho) V [x] rfl L β _ u h ⟨hV, by omega, by omega⟩ (by simp only; omega) (fun _ => ⟨om, hom⟩) (by omega) hic (fun lv xx u2 h3 hl2 => plain_def f op a m lv xx u2 _ (by omega) (fun u3 hb => number_ld f cs w1 F om hom op a m x 0 V L β lv u3 (h3.below hb) (hl2.below hb) ho hm (by omega) 23 (by rw [if_neg hin]; rfl) (by rw [if_neg hin])))
 | st V L β op a m n ho hn hm hV x y hin =>
   obtain ⟨om, hom, rfl⟩ := hom n hn
   have hop := stC_ops ho
   exact step_t f cs w1 F ⟨op, a, m⟩ i hi 2 0 (tab_st ho) V [x, y] rfl L β _ u h ⟨hV, by omega, by omega⟩ (by simp only; omega) (fun _ => ⟨om, hom⟩) (by omega) hic (fun lv xx u2 h3 hl2 => plain_def f op a m lv xx u2 _ (by omega) (fun u3 hb => number_st f cs w1 F om hom op a m x y V L β lv u3 (h3.below hb) (hl2.below hb) ho hm 0 _ (by rw [if_pos hin]) (by rw [if_pos hin])))
 | stx V L β op a m n ho hn hm hV x y hin =>
   obtain ⟨om, hom, rfl⟩ := hom n hn
   have hop := stC_ops ho
   exact step_t f cs w1 F ⟨op, a, m⟩ i hi 2 0 (tab_st ho) V [x, y] rfl L β _ u h ⟨hV, by omega, by omega⟩ (by simp only; omega) (fun _ => ⟨om, hom⟩) (by omega) hic (fun lv xx u2 h3 hl2 => plain_def f op a m lv xx u2 _ (by omega) (fun u3 hb => number_st f cs w1 F om hom op a m x y V L β lv u3 (h3.below hb) (hl2.below hb) ho hm 23 _ (by rw [if_neg hin]) (by rw [if_neg hin])))
end Go.Proofs.YtmfmokblmipagaaGreat
end
section
namespace Go.Proofs.YtmfmokblmipagaaGreat
open Go.RowKit Pl
theorem IS.setLr {f : FX} {w1 u u2 : World} {s : CS} (h : IS f w1 s u) (F : f.G ≠ f.F) (mm : ∀ o, f.om = some o → o.p ≠ f.G ∧ o.p ≠ f.F ∧ o.q ≠ some f.G ∧ o.q ≠ some f.F) {v l v2 : Value} (hF : u.heap[f.F]? = some (.cells #[v, l] 128 (0, 0)))
 (g : u.grownBy u2 l.ownBlock) (V2 : List (BitVec 64)) (hv : u2.ownsRow w1.heap.size 22 1 v2 V2.length (u6s V2)) (hn : ∀ k, v2.ownBlock = some k → l.ownBlock = some k ∨ u.heap.size ≤ k) :
 IS f w1 { s with L := V2 } (u2.setCell ⟨f.F, 1, none⟩ v2) := by
 obtain ⟨v', l', h1, h2, h3, h4⟩ := h.fr
 rw [hF] at h1
 obtain ⟨rfl, rfl⟩ : v = v' ∧ l = l' := by simpa using h1
 clear h1
 have hvB : ∀ k, l.ownBlock = some k → w1.heap.size ≤ k := fun k hk => (own_lt h3 k hk).1
 have hF2 : u2.heap[f.F]? = some (.cells #[v, l] 128 (0, 0)) := (g.block f.F (block_lt hF) (fun e => by have := hvB _ e.symm; have := h.lt.2.1; omega)).trans hF
 have gs := grown_setCell u2 f.F 1 v2
 have l2 : u2.ownsRow w1.heap.size 22 1 v s.V.length (u6s s.V) := h2.kept g (by
  by_cases hl : v.ownBlock = none
  ·exact .inl hl
  ·right
   intro e
   cases hk : v.ownBlock with
   | none => exact hl hk
   | some k => exact h4 k hk (by rw [← e, hk]))
 have hne : ∀ (x : Value) (n : Nat) (xs : List Value), u2.ownsRow w1.heap.size 22 1 x n xs → x.ownBlock = none ∨ x.ownBlock ≠ some f.F := fun x n xs hx => by
  by_cases hv : x.ownBlock = none
  ·exact .inl hv
  ·exact .inr fun e => by have := (own_lt hx f.F e).1; have := h.lt.2.1; omega
 have hk0 : Keep f.may w1 u2 := ⟨g.os.trans h.keep.os, g.tape.trans h.keep.tape, g.output.trans h.keep.output, Nat.le_trans h.keep.size g.size, fun k hk hS => (g.block k (Nat.lt_of_lt_of_le hk h.keep.size) (fun e => by have := hvB k e.symm; omega)).trans (h.keep.block k hk hS)⟩
 refine ⟨hk0.setCell (.inl (.inr (.inl rfl))) _, (gs.block f.G (Nat.lt_of_lt_of_le (Nat.lt_of_lt_of_le h.lt.1 h.keep.size) g.size) (fun e => F (by injection e))).trans ((g.block f.G (Nat.lt_of_lt_of_le h.lt.1 h.keep.size) (fun e => by have := hvB _ e.symm; have := h.lt.1; omega)).trans h.run), h.lt, ⟨v, v2, ?_, l2.kept gs (hne _ _ _ l2), hv.kept gs (hne _ _ _ hv), fun k hk e => ?_⟩, fun o ho => ?_⟩
 ·rw [setCell_eq_setRow u2 f.F 1 _ _ _ _ hF2, setRow_heap u2 f.F _ _ _ _ hF2]
  rfl
 ·rcases hn k e with h5 | h5
  ·exact h4 k hk h5
  ·have := (own_lt h2 k hk).2; omega
 ·obtain ⟨m1, m2, m3, m4⟩ := mm o ho
  have ml := h.lt.2.2 o ho
  exact (h.mem o ho).keep (S := fun k => k = f.F ∨ l.ownBlock = some k) ⟨gs.os.trans g.os, gs.tape.trans g.tape, gs.output.trans g.output, Nat.le_trans g.size gs.size, fun k hk hS => (gs.block k (Nat.lt_of_lt_of_le hk g.size) (fun e => hS (.inl (by injection e)))).trans (g.block k hk (fun e => hS (.inr e.symm)))⟩ (fun k hk hS => by
   have hlt := ml k hk
   rcases hS with rfl | hS
   ·rcases hk with hk | hk
    ·exact m2 hk.symm
    ·exact m4 hk
   ·have := hvB k hS; omega)
end Go.Proofs.YtmfmokblmipagaaGreat
end
