/-
  Texts VcRw, VcRx, VcRy.
-/
import Derived.Test.YtcpfabkokgiepaaQ06
import Derived.Test.YtcpfabkokgiepaaQ42
import Derived.Deep.Cut
set_option linter.unusedSimpArgs false
set_option linter.unusedVariables false
set_option maxHeartbeats 8000000
open Pl
section
namespace Go.Proofs.Ytcpfabkokgiepaa
open Go.RowKit Pl
end Go.Proofs.Ytcpfabkokgiepaa
namespace Pl
open Go
def nOf (t : Int) : Nat := if t = 127 ∨ t = 126 then 1 else if t = 123 then 2 else 0
def wOf : List Int → Nat
 | [] => 0
 | t :: ts => nOf t + wOf ts
theorem dV : ∀ (a b : List Int), wOf (a ++ b) = wOf a + wOf b
 | [], b => by simp [wOf]
 | t :: a, b => by rw [List.cons_append, wOf, wOf, dV a b, Nat.add_assoc]
theorem wOf_step (ti : List Int) (i : Nat) (t : Int) (h : ti[i]? = some t) : wOf (ti.take (i + 1)) = wOf (ti.take i) + nOf t := by
 rw [List.take_add_one, h, dV]
 simp [wOf]
theorem nOf_le (t : Int) : nOf t ≤ 2 := by unfold nOf; repeat' split
                                           all_goals omega
theorem wOf_le (l : List Int) : wOf l ≤ 2 * l.length := by
 induction l with
 | nil => simp [wOf]
 | cons t l ih => have := nOf_le t; rw [wOf, List.length_cons]; omega
end Pl
namespace Go.Proofs.Ytcpfabkokgiepaa
open Go.RowKit Pl
theorem need_s (t : Int) (w : World) : Calls Try.prog 67 #[.int .i64 t] w fun e w' => e = .returned (.int .i64 (nOf t : Nat)) ∧ Below w.heap.size w w' := by
 unfold nOf
 by_cases h1 : t = 127
 ·subst h1
  exact nA
 ·by_cases h2 : t = 126
  ·subst h2
   exact nA
  ·rw [if_neg (by omega)]
   have q1 : (t == 127) = false := by simp [h1]
   have q2 : (t == 126) = false := by simp [h2]
   by_cases h3 : t = 123
   ·subst h3
    exact nA
   ·rw [if_neg h3]
    have q3 : (t == 123) = false := by simp [h3]
    clear h1 h2 h3
    exact nA
set_option maxRecDepth 100000 in
theorem width_s (types : List Int) (tv : Value) (w : World) (hT : LView .i64 w tv types) (hl : types.length ≤ 100) (hv : ∀ t ∈ types, t = 123 ∨ t = 127 ∨ t = 126) :
 Calls Try.prog 35 #[tv] w fun e w' => e = .returned (.int .i64 (wOf types : Nat)) ∧ Below w.heap.size w w' := by
 obtain ⟨r, hr⟩ : ∃ r, r = wOf types := ⟨_, rfl⟩
 rw [← hr]
 have HR := Lib.hid hr
 have HT := Lib.hid hT
 have HV := Lib.hid hv
 obtain ⟨tad, tc, rfl, htc, _⟩ := hT.ex
 clear hr hT hv
 go_enter Try.func35, Try.ntmps35
 go_wp2_with fail
 go_loopw [3, 4] (fun nv iv wr => ∃ (i m : Nat), i ≤ types.length ∧ iv = .int .i64 i ∧ nv = .int .i64 m ∧ m ≤ 2 * i ∧ Hid (m = wOf (types.take i)) ∧ Below w.heap.size w wr) (fun _ iv _ => types.length - (intOf iv).toNat)
 case atStart => exact ⟨0, 0, Nat.zero_le _, rfl, rfl, Nat.le_refl _, Lib.hid (by simp [wOf]), Below.refl _ _⟩
 case round =>
  obtain ⟨wo, hwo⟩ : ∃ x, x = wr := ⟨_, rfl⟩
  subst hwo
  obtain ⟨i, m, hi, rfl, rfl, hm, HM, hb⟩ := hrel
  by_cases hlt : i < types.length
  ·obtain ⟨tb, toff, tc2, te, htc3, htb, htx⟩ := (HT.out.below hb).get i hlt
   injection te with te1 te2 te3
   subst te1 te3
   obtain ⟨z, hz⟩ : ∃ z, types[i]? = some z := ⟨_, List.getElem?_eq_getElem hlt⟩
   have hct := htx i z hz
   have hst := wOf_step types i z hz
   rw [← HM.out] at hst
   have hzv := HV.out z (List.mem_of_getElem? hz)
   have hn2 := nOf_le z
   have hn1 : nOf z ≠ 0 := by rcases hzv with rfl | rfl | rfl <;> decide
   have HST := Lib.hid hst
   clear htx hz hst hzv
   obtain ⟨k, hk⟩ : ∃ k, k = nOf z := ⟨_, rfl⟩
   have HND : Hid (∀ W, Calls Try.prog 67 #[.int .i64 z] W fun e w' => e = .returned (.int .i64 (k : Nat)) ∧ Below W.heap.size W w') := Lib.hid (fun W => hk ▸ need_s z W)
   rw [← hk] at hn1 hn2
   have HST2 : Hid (wOf (types.take (i + 1)) = m + k) := Lib.hid (by rw [HST.out, hk])
   clear hk HST
   have q : ((k : Int) == 0) = false := by simp; omega
   go_wp2_with (first | (with_reducible refine ix1 rfl 23 tA tV _ _ rfl tb toff _ _ rfl _ rfl i rfl hlt ?_) | (with_reducible refine ld1 rfl 3 mM _ rfl _ rfl _ hct ?_) | (go_at_call 67; (with_reducible refine (HND.out _).mono ?_); rintro e u9 ⟨rfl, hb9⟩; replace hct := tJ hct (World.block_lt_of_cell? _ _ hct) hb9; replace hb := hb.trans (hb9.mono hb.size); clear hb9))
   exact ⟨⟨i + 1, m + k, by omega, by go_num, by go_num, by omega, Lib.hid HST2.out.symm, hb⟩, by (simp [intOf] <;> omega)⟩
  ·obtain rfl : i = types.length := by omega
   obtain rfl : m = r := by rw [HM.out, List.take_length, HR.out]
   clear HM HR
   go_wp2_with fail
   go_ret
   exact ⟨rfl, hb⟩
end Go.Proofs.Ytcpfabkokgiepaa
end
section
namespace Go.Proofs.Ytcpfabkokgiepaa
open Go.RowKit Pl
theorem rset_z (x : Nat) (w : World) (hx : x < 2 ^ 64) : Calls Try.prog 68 #[.agg #[.int .u8 0, .int .u8 0, .int .u8 0, .int .u8 0, .int .u8 0, .int .u8 0, .int .u8 0, .int .u8 0, .int .u8 0, .int .u8 0, .int .u8 0, .int .u8 0, .int .u8 0, .int .u8 0, .int .u8 0, .int .u8 0], .int .i64 64, .int .i64 0, .int .u64 (x : Nat)] w fun e w' => e = .returned (.agg (mY (t7 0 64 0 x))) ∧ Below w.heap.size w w' := by
 have h := vN 0 0 x 0 x w rfl rfl (by decide) hx
 rwa [mU] at h
theorem rset_zv (x : Nat) (V : Vec) (hV : V = t7 0 64 0 x) (w : World) (hx : x < 2 ^ 64) : Calls Try.prog 68 #[.agg #[.int .u8 0, .int .u8 0, .int .u8 0, .int .u8 0, .int .u8 0, .int .u8 0, .int .u8 0, .int .u8 0, .int .u8 0, .int .u8 0, .int .u8 0, .int .u8 0, .int .u8 0, .int .u8 0, .int .u8 0, .int .u8 0], .int .i64 64, .int .i64 0, .int .u64 (x : Nat)] w fun e w' => e = .returned (.agg (mY V)) ∧ Below w.heap.size w w' := hV ▸ rset_z x w hx
theorem rset_1 (v : Vec) (x : Nat) (w : World) (hx : x < 2 ^ 64) : Calls Try.prog 68 #[.agg (mY v), .int .i64 64, .int .i64 1, .int .u64 (x : Nat)] w fun e w' => e = .returned (.agg (mY (t7 v 64 1 x))) ∧ Below w.heap.size w w' := vN v 1 x 1 x w rfl rfl (by decide) hx
set_option maxRecDepth 100000 in
theorem rjoin_s (lo hi : Nat) (w : World) (h1 : lo < 2 ^ 64) (h2 : hi < 2 ^ 64) : Calls Try.prog 69 #[.agg #[.int .u64 (lo : Nat), .int .u64 (hi : Nat)]] w fun e w' => e = .returned (.agg (mY (tQ lo hi))) ∧ Below w.heap.size w w' := by
 unfold tQ
 obtain ⟨V1, hV1⟩ : ∃ V, V = t7 0 64 0 lo := ⟨_, rfl⟩
 rw [← hV1]
 have HS1 := Lib.hid (fun W => rset_zv lo V1 hV1 W h1)
 clear hV1
 go_enter Try.func69, Try.ntmps69
 go_upto_region 1 with fail
 rw [← mU]
 obtain ⟨W, hW⟩ : ∃ W, W = (w.alloc (.cells #[.int .u64 (lo : Nat), .int .u64 (hi : Nat)] 47)).alloc (.cells (mY 0) 45) := ⟨_, rfl⟩
 have hH : W.heap[w.heap.size]? = some (.cells #[.int .u64 (lo : Nat), .int .u64 (hi : Nat)] 47 (0, 0)) := hW ▸ heap_alloc2_old _ _ _
 have hO : W.heap[w.heap.size + 1]? = some (.cells (mY 0) 45 (0, 0)) := hW ▸ heap_alloc2_new _ _ _
 have hZ : Below w.heap.size w W := hW ▸ ((Below.refl _ _).alloc (Nat.le_refl _) _).alloc (by simp) _
 rw [← hW]
 clear hW
 refine mN (fun u => Below W.heap.size W u) 7 (by kernel_rfl) (by kernel_rfl) (Below.refl _ _).drew ?_
 simp only [zP, zN, zM, zL]
 repeat (first | (refine zQ rfl (fun u hS => pD 22 r8 _ rfl _ 0 rfl (.int .u64 (lo : Nat)) (eQ (mV hH hS) 0 rfl)) ?_) | (refine zQ rfl (fun u hS => pD 22 r8 _ rfl _ 1 rfl (.int .u64 (hi : Nat)) (eQ (mV hH hS) 1 rfl)) ?_) | (refine zZ (.agg (mY V1)) 68 (c := fun u hS => by with_reducible exact HS1.out _) (r := ?_)) | (refine zZ (.agg (mY (t7 V1 64 1 hi))) 68 (c := fun u hS => by with_reducible exact rset_1 V1 hi _ h2) (r := ?_)) | (refine z8 ?_))
 skip
 refine mH (fun u hS => ?_)
 have hO' := mV hO hS
 go_wp2_with (first | (with_reducible refine mK rfl _ _ rfl (w.heap.size + 1) _ rfl rfl _ hO' ?_; intro wq hq))
 exact bodyPost_ret (results_cell_row rfl _ _ (w.heap.size + 1) _ _ _ _ rfl hq.this r5 rfl (sY _)) rfl ⟨rfl, (hZ.trans (hS.mono hZ.size)).trans (hq.below.mono (by omega))⟩
theorem uG {o : Oper} {a : Act} {w : World} (x : Operand) (ho : o.op = .load 45 x) (g : Nat) (hx : a.eval x = .pointer (some ⟨g, 0, none⟩)) (v : Vec) (h : w.heap[g]? = some (.cells (mY v) 45 (0, 0))) :
 (execOp a.eval o).run Try.prog w = .ok (.value (.agg (mY v))) w := by
 unfold execOp
 simp only [ho, hx, Instr.loadAt, Instr.sureAddr, Sem.run_bind, Sem.run_pure, Result.andThen_ok, run_loadVar_row w g 45 45 (mY v) (0, 0) _ h r5 rfl (sY v)]
theorem hsize (a b : Value) : (Try.prog.info? 47).map (·.size) = some #[a, b].size := by kernel_rfl
theorem hall (a b : Int) : (#[.int .u64 a, .int .u64 b] : Array Value).all (·.oneCell') = true := by rw [← Array.all_toList]; rfl
set_option maxRecDepth 100000 in
theorem hunder : ∃ fs, Try.prog.underlying 47 = some (.struct fs) := ⟨_, rfl⟩
theorem store_hal {ops : Array Oper} {rest : List Oper} {o : Oper} {a : Act} {w : World} {Q : Exit → Act → World → Prop} (hgd : o.guard = none) (x y : Operand) (ho : o.op = .store 47 x y) (g : Nat) (c0 c1 : Int) (d0 d1 : Value) (hx : a.eval x = .pointer (some ⟨g, 0, none⟩)) (hy : a.eval y = .agg #[.int .u64 c0, .int .u64 c1])
 (hg : w.heap[g]? = some (.cells #[d0, d1] 47 (0, 0))) (h : ∀ w', w.grownBy w' (some g) → w'.heap[g]? = some (.cells #[.int .u64 c0, .int .u64 c1] 47 (0, 0)) → wpList Try.prog ops Q rest (a.put o.dst undef) w') : wpList Try.prog ops Q (o :: rest) a w :=
 wpList_store_row hgd 47 x y ho g #[.int .u64 c0, .int .u64 c1] hx hy 47 _ hg (hsize _ _) rfl (hall _ _) (h _ ⟨rfl, rfl, rfl, by simp, fun k _ hk => setRow_other w g k _ (fun e => hk (by rw [e]))⟩ (setRow_heap w g _ _ 47 _ hg))
theorem rget_0 (v : Vec) (w : World) : Calls Try.prog 74 #[.agg (mY v), .int .i64 64, .int .i64 0] w fun e w' => e = .returned (.int .u64 (mT v 64 0 : Nat)) ∧ Below w.heap.size w w' := vU v 0 0 w rfl (by decide)
theorem rget_1 (v : Vec) (w : World) : Calls Try.prog 74 #[.agg (mY v), .int .i64 64, .int .i64 1] w fun e w' => e = .returned (.int .u64 (mT v 64 1 : Nat)) ∧ Below w.heap.size w w' := vU v 1 1 w rfl (by decide)
set_option maxRecDepth 100000 in
theorem rsplit_s (v : Vec) (w : World) : Calls Try.prog 70 #[.agg (mY v)] w fun e w' => e = .returned (.agg #[.int .u64 (mT v 64 0 : Nat), .int .u64 (mT v 64 1 : Nat)]) ∧ Below w.heap.size w w' := by
 go_enter Try.func70, Try.ntmps70
 go_upto_region 1 with fail
 obtain ⟨W, hW, hH, hO, hZ⟩ := zE w v
 rw [← hW]
 clear hW
 refine mN (fun u => Below W.heap.size W u) 5 (by kernel_rfl) (by kernel_rfl) (Below.refl _ _).drew ?_
 simp only [zP, zN, zM, zL]
 repeat (first | (refine zQ rfl (fun u hS => uG _ rfl _ rfl _ (mV hH hS)) ?_) | (refine zZ (.int .u64 (mT v 64 0 : Nat)) 74 (c := fun u hS => by with_reducible exact rget_0 v _) (r := ?_)) | (refine zZ (.int .u64 (mT v 64 1 : Nat)) 74 (c := fun u hS => by with_reducible exact rget_1 v _) (r := ?_)) | (refine z8 ?_))
 refine mH (fun u hS => ?_)
 have hO' := mV hO hS
 skip
 obtain ⟨fs, hfs⟩ := hunder
 go_wp2_with (first | (refine store_hal rfl _ _ rfl (w.heap.size + 1) _ _ _ _ rfl rfl hO' ?_; intro wq gq bq))
 exact bodyPost_ret (results_cell_row rfl _ _ (w.heap.size + 1) _ _ _ _ rfl bq hfs rfl (hsize _ _)) rfl ⟨rfl, (hZ.trans (hS.mono hZ.size)).trans (tU gq (hZ.trans (hS.mono hZ.size)).size (fun g e => by injection e with e; omega))⟩
set_option maxRecDepth 100000 in
theorem rvec_s (lo hi : Nat) (w : World) (h1 : lo < 2 ^ 64) (h2 : hi < 2 ^ 64) : Calls Try.prog 37 #[.int .u64 (lo : Nat), .int .u64 (hi : Nat)] w fun e w' => e = .returned (.agg (mY (tQ lo hi))) ∧ Below w.heap.size w w' := by
 go_enter Try.func37, Try.ntmps37
 go_wp2_with (first | (go_at_call 69; refine (rjoin_s lo hi _ h1 h2).mono ?_; rintro e u1 ⟨rfl, hb1⟩; have hO := mV (heap_alloc_new w (.cells #[.int .u8 0, .int .u8 0, .int .u8 0, .int .u8 0, .int .u8 0, .int .u8 0, .int .u8 0, .int .u8 0, .int .u8 0, .int .u8 0, .int .u8 0, .int .u8 0, .int .u8 0, .int .u8 0, .int .u8 0, .int .u8 0] 45)) hb1; rw [← mU] at hO; have hZ := mB (Below.refl w.heap.size w) (Nat.le_refl _) _ hb1) | (with_reducible refine mK rfl _ _ rfl w.heap.size _ rfl rfl _ hO ?_; intro wq hq))
 exact bodyPost_ret (results_cell_row rfl _ _ w.heap.size _ _ _ _ rfl hq.this r5 rfl (sY _)) rfl ⟨rfl, hZ.trans (hq.below.mono (Nat.le_refl _))⟩
set_option maxRecDepth 100000 in
theorem two_s (v : Vec) (w : World) : Calls Try.prog 38 #[.agg (mY v)] w fun e w' => (∃ b, w.heap.size ≤ b ∧ e = .returned (.slice (some ⟨b, 0, none⟩) 2 2) ∧ w'.heap[b]? = some (.cells #[.int .u64 (mT v 64 0 : Nat), .int .u64 (mT v 64 1 : Nat)] 22 (0, 0))) ∧ Below w.heap.size w w' := by
 go_enter Try.func38, Try.ntmps38
 go_wp2_with (first | (with_reducible refine mG rfl _ rfl _ rfl _ (heap_alloc_new _ _) ?_) | (go_at_call 70; refine (rsplit_s v _).mono ?_; rintro e u1 ⟨rfl, hb1⟩; have hZ := mB (Below.refl w.heap.size w) (Nat.le_refl _) _ hb1))
 go_ret
 exact ⟨⟨u1.heap.size + 1, by have := hZ.size; omega, rfl, heap_alloc2_new _ _ _⟩, (hZ.alloc hZ.size _).alloc (by have := hZ.size; simp; omega) _⟩
theorem ris_none (op : Int) (w : World) (HOF : ∀ W, Calls Try.prog 34 #[.int .i64 op] W fun e w' => e = .returned (.tuple #[.agg #[.int .i64 0, .int .i64 0, .bool false, .slice none 0 0, .slice none 0 0], .bool false]) ∧ Below W.heap.size W w') :
 Calls Try.prog 14 #[.int .i64 op] w fun e w' => e = .returned (.bool false) ∧ Below w.heap.size w w' := by
 replace HOF := Lib.hid HOF
 go_enter Try.func14, Try.ntmps14
 go_wp2_with (first | (go_at_call 34; refine (HOF.out _).mono ?_; rintro e u1 ⟨rfl, hb1⟩))
 go_ret
 exact ⟨rfl, hb1.alloc hb1.size _⟩
theorem ris_some (op form lim : Int) (ti to : List Int) (w : World) (HOF : ∀ W, Calls Try.prog 34 #[.int .i64 op] W fun e w' => ∃ (s t : Value) (pl : Bool), e = .returned (.tuple #[.agg #[.int .i64 form, .int .i64 lim, .bool pl, s, t], .bool true]) ∧ w'.ownsRow W.heap.size 3 1 s ti.length (ti.map (Value.int .i64)) ∧ w'.ownsRow W.heap.size 3 1 t to.length (to.map (Value.int .i64)) ∧ Below W.heap.size W w') :
 Calls Try.prog 14 #[.int .i64 op] w fun e w' => e = .returned (.bool (decide (64768 ≤ op) && (!(form == 7) && !(form == 8)))) ∧ Below w.heap.size w w' := by
 replace HOF := Lib.hid HOF
 by_cases h0 : 64768 ≤ op
 ·have q0 : decide (64768 ≤ op) = true := by simp [h0]
  by_cases h7 : form = 7
  ·subst h7
   rw [q0]
   clear h0
   exact yZ
  ·have q1 : (form == 7) = false := by simp [h7]
   by_cases h8 : form = 8
   ·subst h8
    rw [q0]
    clear h0 q1
    exact yZ
   ·have q2 : (form == 8) = false := by simp [h8]
    rw [q0, q1, q2]
    have p1 : (form != 7) = true := by simp [h7]
    have p2 : (form != 8) = true := by simp [h8]
    clear h0 h7 h8 q1 q2
    exact yZ
 ·have q0 : decide (64768 ≤ op) = false := by simp; omega
  rw [q0]
  clear h0
  exact yZ
theorem rof_none (op : Int) (w : World) (h : pA op = none) : Calls Try.prog 34 #[.int .i64 op] w fun e w' => e = .returned (.tuple #[.agg #[.int .i64 0, .int .i64 0, .bool false, .slice none 0 0, .slice none 0 0], .bool false]) ∧ Below w.heap.size w w' :=
 (rof_any op w).mono fun e w' ⟨h1, hb⟩ => by
  rcases h1 with ⟨_, he⟩ | ⟨r, s, t, pl, hr, _⟩
  ·exact ⟨he, hb⟩
  ·rw [h] at hr; cases hr
theorem rof_row (op : Int) (r : Row) (w : World) (h : pA op = some r) : Calls Try.prog 34 #[.int .i64 op] w fun e w' => ∃ (s t : Value) (pl : Bool), e = .returned (.tuple #[.agg #[.int .i64 r.form, .int .i64 r.lim, .bool pl, s, t], .bool true]) ∧ w'.ownsRow w.heap.size 3 1 s (s8 r).length ((s8 r).map (Value.int .i64)) ∧ w'.ownsRow w.heap.size 3 1 t (rR r).length ((rR r).map (Value.int .i64)) ∧ Below w.heap.size w w' :=
 (rof_any op w).mono fun e w' ⟨h1, hb⟩ => by
  rcases h1 with ⟨h2, _⟩ | ⟨r', s, t, pl, hr, he, o1, o2⟩
  ·rw [h] at h2; cases h2
  ·rw [h] at hr
   injection hr with hr
   subst hr
   exact ⟨s, t, pl, he, o1, o2, hb⟩
theorem ris_k (op : Int) (w : World) : Calls Try.prog 14 #[.int .i64 op] w fun e w' => e = .returned (.bool (isB op)) ∧ Below w.heap.size w w' := by
 unfold isB
 cases h : pA op with
 | none => exact ris_none op w (fun W => rof_none op W h)
 | some r => exact ris_some op r.form r.lim _ _ w (fun W => rof_row op r W h)
end Go.Proofs.Ytcpfabkokgiepaa
end
section
namespace Go.Proofs.Ytcpfabkokgiepaa
open Go.RowKit Pl
end Go.Proofs.Ytcpfabkokgiepaa
namespace Pl
open Go
open Go.Proofs.Ytcpfabkokgiepaa
theorem set32_join (lo : Nat) : t7 0 32 0 lo = tQ (lo % 4294967296) 0 := by
 unfold tQ t7
 refine fS fun j hj => ?_
 rw [pQ _ _ _ _ _ (by decide), pQ _ _ _ _ _ (by decide), pQ _ _ _ _ _ (by decide)]
 simp only [Nat.mul_zero, Nat.zero_add, Nat.mul_one, Nat.sub_zero, Nat.zero_le, true_and]
 have hz : (0 : Vec).toNat.testBit j = false := by simp
 rw [show (4294967296 : Nat) = 2 ^ 32 from rfl, Nat.testBit_mod_two_pow]
 by_cases h1 : j < 32
 ·simp [h1, show j < 64 by omega, show ¬ 64 ≤ j by omega]
 ·by_cases h2 : j < 64
  ·simp [h1, h2, show ¬ 64 ≤ j by omega]
  ·simp [h1, h2, show 64 ≤ j by omega]
theorem set64_join (lo : Nat) : t7 0 64 0 lo = tQ lo 0 := by
 unfold tQ
 refine rL 64 2 (by decide) (by decide) fun i hi => ?_
 rw [uY _ 64 1 i _ (by decide)]
 match i, hi with
 | 0, _ => rfl
 | 1, _ => rw [if_pos rfl, uY _ 64 0 1 _ (by decide), if_neg (by decide)]; rfl
theorem takeV_len2 : ∀ (ts : List Int) (hs : List Nat), (∀ t ∈ ts, t = 123 ∨ t = 127 ∨ t = 126) → hs.length = wOf ts → ∃ vs, tX ts hs = some vs
 | [], hs, _, h => by
   obtain rfl : hs = [] := List.length_eq_zero_iff.1 h
   exact ⟨[], rfl⟩
 | t :: ts, hs, hv, h => by
   rw [wOf] at h
   have hvt := fun u hu => hv u (List.mem_cons_of_mem _ hu)
   rcases hv t (List.mem_cons_self) with rfl | rfl | rfl
   ·match hs, h with
    | lo :: hi :: r, h =>
      obtain ⟨vs, e⟩ := takeV_len2 ts r hvt (by simp [nOf] at h; omega)
      exact ⟨_, by rw [takeV_two, e]; rfl⟩
    | [x], h => simp [nOf] at h; omega
    | [], h => simp [nOf] at h; omega
   ·match hs, h with
    | lo :: r, h =>
      obtain ⟨vs, e⟩ := takeV_len2 ts r hvt (by simp [nOf] at h; omega)
      exact ⟨_, by rw [takeV_i32, e]; rfl⟩
    | [], h => simp [nOf] at h; omega
   ·match hs, h with
    | lo :: r, h =>
      obtain ⟨vs, e⟩ := takeV_len2 ts r hvt (by simp [nOf] at h; omega)
      exact ⟨_, by rw [takeV_i64, e]; rfl⟩
    | [], h => simp [nOf] at h; omega
end Pl
namespace Go.Proofs.Ytcpfabkokgiepaa
open Go.RowKit Pl
theorem run_ixu2 {o : Oper} {a : Act} {w : World} (x i : Operand) (ho : o.op = .indexAddr 26 x i) (b off n c : Nat) (hx : a.eval x = .slice (some ⟨b, off, none⟩) n c) (z : Int) (hi : a.eval i = .int .i64 z) (k : Nat) (hz : z = k) (hk : k < n) :
 (execOp a.eval o).run Try.prog w = .ok (.value (.pointer (some ⟨b, off + k, none⟩))) w := j2
theorem rs32_c (x : Nat) (V : Vec) (hV : V = t7 0 32 0 x) (w : World) (hx : x < 2 ^ 64) : Calls Try.prog 68 #[.agg (mY 0#128), .int .i64 32, .int .i64 0, .int .u64 (x : Nat)] w fun e w' => e = .returned (.agg (mY V)) ∧ Below w.heap.size w w' := hV ▸ vM 0 0 x 0 x w rfl rfl (by decide) hx
theorem rs64_c (x : Nat) (V : Vec) (hV : V = t7 0 64 0 x) (w : World) (hx : x < 2 ^ 64) : Calls Try.prog 68 #[.agg (mY 0#128), .int .i64 64, .int .i64 0, .int .u64 (x : Nat)] w fun e w' => e = .returned (.agg (mY V)) ∧ Below w.heap.size w w' := hV ▸ vN 0 0 x 0 x w rfl rfl (by decide) hx
theorem rs64_d (V0 : Vec) (x : Nat) (V : Vec) (hV : V = t7 V0 64 1 x) (w : World) (hx : x < 2 ^ 64) : Calls Try.prog 68 #[.agg (mY V0), .int .i64 64, .int .i64 1, .int .u64 (x : Nat)] w fun e w' => e = .returned (.agg (mY V)) ∧ Below w.heap.size w w' := hV ▸ vN V0 1 x 1 x w rfl rfl (by decide) hx
theorem drop_more {hs r : List Nat} {m : Nat} {l : List Nat} (h : hs.drop m = l ++ r) : hs.drop (m + l.length) = r := by
 rw [← List.drop_drop, h, List.drop_left]
set_option maxRecDepth 100000 in
theorem rtake_s (types : List Int) (tv hv : Value) (hs : List Nat) (vs : List Vec) (w : World) (hT : LView .i64 w tv types) (hH : LView .u64 w hv (hs.map Nat.cast)) (hlt : ∀ x ∈ hs, x < 18446744073709551616) (hty : types.length ≤ 100) (hvt : ∀ t ∈ types, t = 123 ∨ t = 127 ∨ t = 126) (hlen : hs.length = wOf types) (htk : tX types hs = some vs) :
 Calls Try.prog 36 #[tv, hv] w fun e w' => (∃ v, e = .returned (.tuple #[v, .int .i64 0]) ∧ w'.ownsRow w.heap.size 45 16 v vs.length (sM vs)) ∧ Below w.heap.size w w' := by
 have HW := Lib.hid (fun W hW => width_s types tv W (hT.below hW) hty hvt)
 obtain ⟨tad, tc, rfl, htc, _⟩ := hT.ex
 obtain ⟨had, hc, rfl, hhc, _⟩ := hH.ex
 have HT := Lib.hid hT
 have HH := Lib.hid hH
 have HL := Lib.hid hlt
 have HV := Lib.hid hvt
 have HTK := Lib.hid htk
 have HLE := Lib.hid hlen
 have hw200 := wOf_le types
 obtain ⟨n, hn⟩ : ∃ n, n = wOf types := ⟨_, rfl⟩
 rw [← hn] at hlen HW hw200
 have HNN := Lib.hid hn
 rw [List.length_map, hlen] at hhc
 have hq : ((n : Int) != (n : Int)) = false := by simp
 clear hT hH hlt hvt htk hn
 have hll : (hs.map (Nat.cast : Nat → Int)).length = n := by rw [List.length_map]; exact hlen
 rw [hll]
 go_enter Try.func36, Try.ntmps36
 go_wp2_with (first | (go_at_call 35; (with_reducible refine (HW.out _ (Below.refl _ _)).mono ?_); rintro e u0 ⟨rfl, hb0⟩))
 go_loopw [6, 7, 8] (fun ov av iv wr => ∃ (i m : Nat) (vs1 : List Vec), i ≤ types.length ∧ iv = .int .i64 i ∧ av = .int .i64 m ∧ Hid (m = wOf (types.take i)) ∧ wr.ownsRow w.heap.size 45 16 ov vs1.length (sM vs1) ∧ vs1.length = i ∧
  Hid (tX types hs = (tX (types.drop i) (hs.drop m)).map (vs1 ++ ·)) ∧ Below w.heap.size w wr) (fun _ _ iv _ => types.length - (intOf iv).toNat)
 case atStart => exact ⟨0, 0, [], Nat.zero_le _, rfl, rfl, Lib.hid (by simp [wOf]), World.ownsRow_nil _ _ _ _, rfl, Lib.hid (by simp), hb0⟩
 case round =>
  obtain ⟨wo, hwo⟩ : ∃ x, x = wr := ⟨_, rfl⟩
  subst hwo
  obtain ⟨i, m, vs1, hi, rfl, rfl, HM, hown, hvl, HE, hb⟩ := hrel
  by_cases hlt : i < types.length
  ·obtain ⟨tb, toff, tc2, te, htc3, htb, htx⟩ := (HT.out.below hb).get i hlt
   injection te with te1 te2 te3
   subst te1 te3
   obtain ⟨t, ht⟩ : ∃ t, types[i]? = some t := ⟨_, List.getElem?_eq_getElem hlt⟩
   have hct := htx i t ht
   have HKEEP : Hid (∀ u, Below w.heap.size w u → u.cell? ⟨tb, toff + i, none⟩ = some (.int .i64 t)) := Lib.hid (fun u hu => by
    obtain ⟨ub, uo, uc, ue, _, _, hux⟩ := (HT.out.below hu).get i hlt
    injection ue with ue1
    injection ue1 with ue1
    injection ue1 with ue2 ue3
    subst ue2 ue3
    exact hux i t ht)
   have hdr : types.drop i = t :: types.drop (i + 1) := kT
   have HD := Lib.hid hdr
   have HTX := Lib.hid ht
   have HLN : Hid (hs.length - m = wOf (types.drop i)) := Lib.hid (by
    have h1 := dV (types.take i) (types.drop i)
    rw [List.take_append_drop, ← HM.out] at h1
    have := HLE.out
    omega)
   have HLN2 : Hid (wOf (types.drop i) = nOf t + wOf (types.drop (i + 1))) := Lib.hid (by rw [hdr]; rfl)
   have hpos : 0 < hs.length := by
    have h1 := HLN.out
    rw [HLN2.out] at h1
    have h2 : nOf t ≠ 0 := by rcases HV.out t (List.mem_of_getElem? ht) with rfl | rfl | rfl <;> decide
    omega
   obtain ⟨hb0', hof, hc2, he, _, hb0l', hxx⟩ := (HH.out.below hb).get 0 (by rw [List.length_map]; exact hpos)
   injection he with he1 he2 he3
   subst he1 he3
   have HOB := Lib.hid hown.lt
   have hmn : m + wOf (types.drop i) = n := by have := HLN.out; have h3 := HLE.out; have := HNN.out; have h1 := dV (types.take i) (types.drop i); rw [List.take_append_drop, ← HM.out] at h1; omega
   have hm200 : m ≤ 200 := by omega
   clear htx hdr
   rcases HV.out t (List.mem_of_getElem? HTX.out) with rfl | rfl | rfl
   ·skip
    obtain ⟨lo, hi, r, hcut⟩ : ∃ lo hi r, hs.drop m = lo :: hi :: r := by
     have hl := HLN.out
     rw [HLN2.out] at hl
     have hd := List.length_drop (i := m) (l := hs)
     cases hh : hs.drop m with
     | nil => rw [hh] at hd; simp [nOf] at hl hd; omega
     | cons lo r1 =>
       cases r1 with
       | nil => rw [hh] at hd; simp [nOf] at hl hd; omega
       | cons hi r => exact ⟨lo, hi, r, rfl⟩
    have hlo : hs[m]? = some lo := j9
    have hmlt : m < n := by have h1 := (List.getElem?_eq_some_iff.1 hlo).1; have h2 := HLE.out; have h3 := HNN.out; omega
    have hclo0 := hxx m lo (by rw [List.getElem?_map, hlo]; rfl)
    have hclo := hxx m lo (by rw [List.getElem?_map, hlo]; rfl)
    have hlo2 := HL.out lo (List.mem_of_getElem? hlo)
    have hhi : hs[m + 1]? = some hi := by
     have := List.getElem?_drop (xs := hs) (i := m) (j := 1)
     rw [hcut] at this
     simpa using this.symm
    have hmlt2 : m + 1 < n := by have h1 := (List.getElem?_eq_some_iff.1 hhi).1; have h2 := HLE.out; have h3 := HNN.out; omega
    have hhi2 := HL.out hi (List.mem_of_getElem? hhi)
    have HCUT := Lib.hid hcut
    have HHI := Lib.hid (show (hs.map (Nat.cast : Nat → Int))[m + 1]? = some (hi : Int) by rw [List.getElem?_map, hhi]; rfl)
    have hxx2 := hxx
    have hm2 : wOf (types.take (i + 1)) = m + 2 := by rw [wOf_step types i _ HTX.out, ← HM.out]; rfl
    have HM2 := Lib.hid hm2
    have hct0 := hct
    obtain ⟨V1, hV1⟩ : ∃ V, V = t7 0 64 0 lo := ⟨_, rfl⟩
    have HV1 := Lib.hid hV1
    have HS1 := Lib.hid (fun W => rs64_c lo V1 hV1 W hlo2)
    obtain ⟨V2, hV2⟩ : ∃ V, V = t7 V1 64 1 hi := ⟨_, rfl⟩
    have HV2 := Lib.hid hV2
    have HS2 := Lib.hid (fun W => rs64_d V1 hi V2 hV2 W hhi2)
    clear hV2 hhi hhi2
    have HND : Hid (∀ W, Calls Try.prog 67 #[.int .i64 123] W fun e w' => e = .returned (.int .i64 2) ∧ Below W.heap.size W w') := Lib.hid (fun W => need_s 123 W)
    clear hcut hlo hV1 hlo2 hm2 hxx
    go_upto_region 11 with (first | (with_reducible refine ix1 rfl 23 tA tV _ _ rfl tb toff _ _ rfl _ rfl i rfl hlt ?_) | (with_reducible refine ld1 rfl 3 mM _ rfl _ rfl _ (tJ hct (World.block_lt_of_cell? _ _ hct) ((Below.refl _ _).alloc (Nat.le_refl _) _)) ?_))
    rw [← mU]
    obtain ⟨W1, hW1⟩ : ∃ W, W = wo.alloc (.cells (mY 0) 45) := ⟨_, rfl⟩
    have hv1 : W1.heap[wo.heap.size]? = some (.cells (mY 0) 45 (0, 0)) := hW1 ▸ heap_alloc_new _ _
    have hbW : Below wo.heap.size wo W1 := hW1 ▸ (Below.refl _ _).alloc (Nat.le_refl _) _
    rw [← hW1]
    clear hW1
    replace hclo := tJ hclo (World.block_lt_of_cell? _ _ hclo) hbW
    refine mN (fun u => Below W1.heap.size W1 u) 6 (by kernel_rfl) (by kernel_rfl) (Below.refl _ _).drew ?_
    simp only [zP, zN, zM, zL]
    repeat (first | (refine zQ rfl (fun u hS => uG _ rfl _ rfl _ (mV hv1 hS)) ?_) | (refine zQ rfl (fun u hS => run_ixu2 _ _ rfl hb0' hof _ _ rfl _ rfl m rfl hmlt) ?_) | (refine zQ rfl (fun u hS => pD 22 r8 _ rfl hb0' (hof + m) rfl (.int .u64 (lo : Nat)) (tJ hclo (World.block_lt_of_cell? _ _ hclo) hS)) ?_) | (refine zZ (.agg (mY V1)) 68 (c := fun u hS => by with_reducible exact HS1.out _) (r := ?_)) | (refine z8 ?_))
    refine mH (fun u1 hS1 => ?_)
    have hv1' := mV hv1 hS1
    go_upto_region 12 with (first | (with_reducible refine mK rfl _ _ rfl wo.heap.size _ rfl rfl _ hv1' ?_; intro y1 hy1))
    have hbY : Below wo.heap.size wo y1 := (hbW.trans (hS1.mono hbW.size)).trans hy1.below
    have hvY := hy1.this
    replace hct := tJ hct (World.block_lt_of_cell? _ _ hct) hbY
    clear hv1 hv1' hS1 hbW hy1 hclo
    have hb0l := World.block_lt_of_cell? _ _ hclo0
    have hchi2 : y1.cell? ⟨hb0', hof + (m + 1), none⟩ = some (.int .u64 (hi : Nat)) := tJ (hxx2 (m + 1) hi HHI.out) hb0l hbY
    go_upto_region 13 with (first | (with_reducible refine ix1 rfl 23 tA tV _ _ rfl tb toff _ _ rfl _ rfl i rfl hlt ?_) | (with_reducible refine ld1 rfl 3 mM _ rfl _ rfl _ hct ?_))
    have hw1 : IntKind.i64.wrap ((m : Int) + 1) = (m : Int) + 1 := IntWalk.i64_in _ (by omega)
    refine mN (fun u => Below y1.heap.size y1 u) 7 (by kernel_rfl) (by kernel_rfl) (Below.refl _ _).drew ?_
    simp only [zP, zN, zM, zL]
    repeat (first | (refine zQ rfl (fun u hS => uG _ rfl _ rfl _ (mV hvY hS)) ?_) | (refine zQ rfl (fun u hS => run_ixu2 _ _ rfl hb0' hof _ _ rfl _ rfl (m + 1) (by omega) hmlt2) ?_) | (refine zQ rfl (fun u hS => pD 22 r8 _ rfl hb0' (hof + (m + 1)) rfl (.int .u64 (hi : Nat)) (tJ hchi2 (World.block_lt_of_cell? _ _ hchi2) hS)) ?_) | (refine zZ (.agg (mY V2)) 68 (c := fun u hS => by with_reducible exact HS2.out _) (r := ?_)) | (refine z8 ?_))
    refine mH (fun u2 hS2 => ?_)
    have hv2' := mV hvY hS2
    go_upto_region 14 with (first | (with_reducible refine mK rfl _ _ rfl wo.heap.size _ rfl rfl _ hv2' ?_; intro y2 hy2))
    have hbY2 : Below wo.heap.size wo y2 := (hbY.trans (hS2.mono hbY.size)).trans hy2.below
    have hvY2 := hy2.this
    replace hct := tJ hct0 (World.block_lt_of_cell? _ _ hct0) hbY2
    clear hvY hv2' hS2 hbY hchi2
    skip
    go_upto_region 15 with (first | (with_reducible refine mG rfl _ rfl _ rfl _ hvY2 ?_) | (with_reducible refine ix1 rfl 23 tA tV _ _ rfl tb toff _ _ rfl _ rfl i rfl hlt ?_) | (with_reducible refine ld1 rfl 3 mM _ rfl _ rfl _ hct ?_) | (at_builtin; rw [lay_one]; refine dW rfl _ _ rfl w.heap.size _ vs1 V2 _ _ rfl ((vB hown hbY2).alloc _) rfl (heap_alloc_new _ _) (by omega) (by have := hb.size; have := hbY2.size; simp; omega) ?_; intro v5 x5 ho5 hg5; have hb6 : Below w.heap.size w x5 := ((hb.trans (hbY2.mono hb.size)).alloc (hb.trans (hbY2.mono hb.size)).size _).trans (tU hg5 (by have := hb.size; have := hbY2.size; simp; omega) (fun g e => (HOB.out g e).1)); have hct5 : x5.cell? ⟨tb, toff + i, none⟩ = some (.int .i64 123) := HKEEP.out x5 hb6))
    go_wp2_with (first | (with_reducible refine ix1 rfl 23 tA tV _ _ rfl tb toff _ _ rfl _ rfl i rfl hlt ?_) | (with_reducible refine ld1 rfl 3 mM _ rfl _ rfl _ hct5 ?_) | (go_at_call 67; (with_reducible refine (HND.out _).mono ?_); rintro e u9 ⟨rfl, hb9⟩; replace hown2 := vB ho5 hb9; have hbe := hb6.trans (hb9.mono hb6.size); clear hb9))
    exact ⟨⟨i + 1, m + 2, vs1 ++ [V2], by omega, by go_num, by go_num, Lib.hid HM2.out.symm, hown2, by simp [hvl], Lib.hid (by rw [HE.out, HD.out, HCUT.out, takeV_two, uF, show tQ lo hi = V2 from (HV2.out.trans (by rw [HV1.out]; rfl)).symm]; congr 2; exact (drop_more (l := [lo, hi]) (r := r) HCUT.out).symm), hbe⟩, by (simp [intOf] <;> omega)⟩
   ·skip
    obtain ⟨lo, r, hcut⟩ : ∃ lo r, hs.drop m = lo :: r := j0
    have hlo : hs[m]? = some lo := j9
    have hmlt : m < n := by have h1 := (List.getElem?_eq_some_iff.1 hlo).1; have h2 := HLE.out; have h3 := HNN.out; omega
    have hclo := hxx m lo (by rw [List.getElem?_map, hlo]; rfl)
    have hlo2 := HL.out lo (List.mem_of_getElem? hlo)
    have HCUT := Lib.hid hcut
    have hm2 : wOf (types.take (i + 1)) = m + 1 := by rw [wOf_step types i _ HTX.out, ← HM.out]; rfl
    have HM2 := Lib.hid hm2
    obtain ⟨V1, hV1⟩ : ∃ V, V = t7 0 32 0 lo := ⟨_, rfl⟩
    have HV1 := Lib.hid hV1
    have HS1 := Lib.hid (fun W => rs32_c lo V1 hV1 W hlo2)
    have HND : Hid (∀ W, Calls Try.prog 67 #[.int .i64 127] W fun e w' => e = .returned (.int .i64 1) ∧ Below W.heap.size W w') := Lib.hid (fun W => need_s 127 W)
    clear hcut hlo hV1 hlo2 hm2 hxx
    go_upto_region 10 with (first | (with_reducible refine ix1 rfl 23 tA tV _ _ rfl tb toff _ _ rfl _ rfl i rfl hlt ?_) | (with_reducible refine ld1 rfl 3 mM _ rfl _ rfl _ (tJ hct (World.block_lt_of_cell? _ _ hct) ((Below.refl _ _).alloc (Nat.le_refl _) _)) ?_))
    rw [← mU]
    obtain ⟨W1, hW1⟩ : ∃ W, W = wo.alloc (.cells (mY 0) 45) := ⟨_, rfl⟩
    have hv1 : W1.heap[wo.heap.size]? = some (.cells (mY 0) 45 (0, 0)) := hW1 ▸ heap_alloc_new _ _
    have hbW : Below wo.heap.size wo W1 := hW1 ▸ (Below.refl _ _).alloc (Nat.le_refl _) _
    rw [← hW1]
    clear hW1
    replace hclo := tJ hclo (World.block_lt_of_cell? _ _ hclo) hbW
    refine mN (fun u => Below W1.heap.size W1 u) 6 (by kernel_rfl) (by kernel_rfl) (Below.refl _ _).drew ?_
    simp only [zP, zN, zM, zL]
    repeat (first | (refine zQ rfl (fun u hS => uG _ rfl _ rfl _ (mV hv1 hS)) ?_) | (refine zQ rfl (fun u hS => run_ixu2 _ _ rfl hb0' hof _ _ rfl _ rfl m rfl hmlt) ?_) | (refine zQ rfl (fun u hS => pD 22 r8 _ rfl hb0' (hof + m) rfl (.int .u64 (lo : Nat)) (tJ hclo (World.block_lt_of_cell? _ _ hclo) hS)) ?_) | (refine zZ (.agg (mY V1)) 68 (c := fun u hS => by with_reducible exact HS1.out _) (r := ?_)) | (refine z8 ?_))
    refine mH (fun u1 hS1 => ?_)
    have hv1' := mV hv1 hS1
    go_upto_region 12 with (first | (with_reducible refine mK rfl _ _ rfl wo.heap.size _ rfl rfl _ hv1' ?_; intro y1 hy1))
    have hbY : Below wo.heap.size wo y1 := (hbW.trans (hS1.mono hbW.size)).trans hy1.below
    have hvY := hy1.this
    replace hct := tJ hct (World.block_lt_of_cell? _ _ hct) hbY
    clear hv1 hv1' hS1 hbW hy1 hclo
    skip
    go_upto_region 15 with (first | (with_reducible refine mG rfl _ rfl _ rfl _ hvY ?_) | (with_reducible refine ix1 rfl 23 tA tV _ _ rfl tb toff _ _ rfl _ rfl i rfl hlt ?_) | (with_reducible refine ld1 rfl 3 mM _ rfl _ rfl _ hct ?_) | (at_builtin; rw [lay_one]; refine dW rfl _ _ rfl w.heap.size _ vs1 V1 _ _ rfl ((vB hown hbY).alloc _) rfl (heap_alloc_new _ _) (by omega) (by have := hb.size; have := hbY.size; simp; omega) ?_; intro v5 x5 ho5 hg5; have hb6 : Below w.heap.size w x5 := ((hb.trans (hbY.mono hb.size)).alloc (hb.trans (hbY.mono hb.size)).size _).trans (tU hg5 (by have := hb.size; have := hbY.size; simp; omega) (fun g e => (HOB.out g e).1)); have hct5 : x5.cell? ⟨tb, toff + i, none⟩ = some (.int .i64 127) := HKEEP.out x5 hb6))
    go_wp2_with (first | (with_reducible refine ix1 rfl 23 tA tV _ _ rfl tb toff _ _ rfl _ rfl i rfl hlt ?_) | (with_reducible refine ld1 rfl 3 mM _ rfl _ rfl _ hct5 ?_) | (go_at_call 67; (with_reducible refine (HND.out _).mono ?_); rintro e u9 ⟨rfl, hb9⟩; replace hown2 := vB ho5 hb9; have hbe := hb6.trans (hb9.mono hb6.size); clear hb9))
    exact ⟨⟨i + 1, m + 1, vs1 ++ [V1], by omega, by go_num, by go_num, Lib.hid HM2.out.symm, hown2, by simp [hvl], Lib.hid (by rw [HE.out, HD.out, HCUT.out, takeV_i32, uF, show tQ (lo % 4294967296) 0 = V1 from (HV1.out.trans (set32_join lo)).symm]; congr 2; exact (drop_more (l := [lo]) (r := r) HCUT.out).symm), hbe⟩, by (simp [intOf] <;> omega)⟩
   ·skip
    obtain ⟨lo, r, hcut⟩ : ∃ lo r, hs.drop m = lo :: r := j0
    have hlo : hs[m]? = some lo := j9
    have hmlt : m < n := by have h1 := (List.getElem?_eq_some_iff.1 hlo).1; have h2 := HLE.out; have h3 := HNN.out; omega
    have hclo := hxx m lo (by rw [List.getElem?_map, hlo]; rfl)
    have hlo2 := HL.out lo (List.mem_of_getElem? hlo)
    have HCUT := Lib.hid hcut
    have hm2 : wOf (types.take (i + 1)) = m + 1 := by rw [wOf_step types i _ HTX.out, ← HM.out]; rfl
    have HM2 := Lib.hid hm2
    obtain ⟨V1, hV1⟩ : ∃ V, V = t7 0 64 0 lo := ⟨_, rfl⟩
    have HV1 := Lib.hid hV1
    have HS1 := Lib.hid (fun W => rs64_c lo V1 hV1 W hlo2)
    have HND : Hid (∀ W, Calls Try.prog 67 #[.int .i64 126] W fun e w' => e = .returned (.int .i64 1) ∧ Below W.heap.size W w') := Lib.hid (fun W => need_s 126 W)
    clear hcut hlo hV1 hlo2 hm2 hxx
    go_upto_region 11 with (first | (with_reducible refine ix1 rfl 23 tA tV _ _ rfl tb toff _ _ rfl _ rfl i rfl hlt ?_) | (with_reducible refine ld1 rfl 3 mM _ rfl _ rfl _ (tJ hct (World.block_lt_of_cell? _ _ hct) ((Below.refl _ _).alloc (Nat.le_refl _) _)) ?_))
    rw [← mU]
    obtain ⟨W1, hW1⟩ : ∃ W, W = wo.alloc (.cells (mY 0) 45) := ⟨_, rfl⟩
    have hv1 : W1.heap[wo.heap.size]? = some (.cells (mY 0) 45 (0, 0)) := hW1 ▸ heap_alloc_new _ _
    have hbW : Below wo.heap.size wo W1 := hW1 ▸ (Below.refl _ _).alloc (Nat.le_refl _) _
    rw [← hW1]
    clear hW1
    replace hclo := tJ hclo (World.block_lt_of_cell? _ _ hclo) hbW
    refine mN (fun u => Below W1.heap.size W1 u) 6 (by kernel_rfl) (by kernel_rfl) (Below.refl _ _).drew ?_
    simp only [zP, zN, zM, zL]
    repeat (first | (refine zQ rfl (fun u hS => uG _ rfl _ rfl _ (mV hv1 hS)) ?_) | (refine zQ rfl (fun u hS => run_ixu2 _ _ rfl hb0' hof _ _ rfl _ rfl m rfl hmlt) ?_) | (refine zQ rfl (fun u hS => pD 22 r8 _ rfl hb0' (hof + m) rfl (.int .u64 (lo : Nat)) (tJ hclo (World.block_lt_of_cell? _ _ hclo) hS)) ?_) | (refine zZ (.agg (mY V1)) 68 (c := fun u hS => by with_reducible exact HS1.out _) (r := ?_)) | (refine z8 ?_))
    refine mH (fun u1 hS1 => ?_)
    have hv1' := mV hv1 hS1
    go_upto_region 12 with (first | (with_reducible refine mK rfl _ _ rfl wo.heap.size _ rfl rfl _ hv1' ?_; intro y1 hy1))
    have hbY : Below wo.heap.size wo y1 := (hbW.trans (hS1.mono hbW.size)).trans hy1.below
    have hvY := hy1.this
    replace hct := tJ hct (World.block_lt_of_cell? _ _ hct) hbY
    clear hv1 hv1' hS1 hbW hy1 hclo
    skip
    go_upto_region 15 with (first | (with_reducible refine mG rfl _ rfl _ rfl _ hvY ?_) | (with_reducible refine ix1 rfl 23 tA tV _ _ rfl tb toff _ _ rfl _ rfl i rfl hlt ?_) | (with_reducible refine ld1 rfl 3 mM _ rfl _ rfl _ hct ?_) | (at_builtin; rw [lay_one]; refine dW rfl _ _ rfl w.heap.size _ vs1 V1 _ _ rfl ((vB hown hbY).alloc _) rfl (heap_alloc_new _ _) (by omega) (by have := hb.size; have := hbY.size; simp; omega) ?_; intro v5 x5 ho5 hg5; have hb6 : Below w.heap.size w x5 := ((hb.trans (hbY.mono hb.size)).alloc (hb.trans (hbY.mono hb.size)).size _).trans (tU hg5 (by have := hb.size; have := hbY.size; simp; omega) (fun g e => (HOB.out g e).1)); have hct5 : x5.cell? ⟨tb, toff + i, none⟩ = some (.int .i64 126) := HKEEP.out x5 hb6))
    go_wp2_with (first | (with_reducible refine ix1 rfl 23 tA tV _ _ rfl tb toff _ _ rfl _ rfl i rfl hlt ?_) | (with_reducible refine ld1 rfl 3 mM _ rfl _ rfl _ hct5 ?_) | (go_at_call 67; (with_reducible refine (HND.out _).mono ?_); rintro e u9 ⟨rfl, hb9⟩; replace hown2 := vB ho5 hb9; have hbe := hb6.trans (hb9.mono hb6.size); clear hb9))
    exact ⟨⟨i + 1, m + 1, vs1 ++ [V1], by omega, by go_num, by go_num, Lib.hid HM2.out.symm, hown2, by simp [hvl], Lib.hid (by rw [HE.out, HD.out, HCUT.out, takeV_i64, uF, show tQ lo 0 = V1 from (HV1.out.trans (set64_join lo)).symm]; congr 2; exact (drop_more (l := [lo]) (r := r) HCUT.out).symm), hbe⟩, by (simp [intOf] <;> omega)⟩
  ·obtain rfl : i = types.length := by omega
   have hE : vs = vs1 := by
    have := HE.out
    rw [HTK.out, List.drop_length] at this
    have hm : hs.drop m = [] := by rw [HM.out, List.take_length, ← HLE.out, List.drop_length]
    rw [hm] at this
    simpa [tX] using this
   subst hE
   go_wp2_with fail
   go_ret2
   exact ⟨⟨_, rfl, hown⟩, hb⟩
end Go.Proofs.Ytcpfabkokgiepaa
end
