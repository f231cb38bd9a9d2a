/-
  Texts VmRE.
-/
import Derived.Test.YtmfmokblmipagaaGreatR03
import Derived.Test.YtmfmokblmipagaaGreatR23
import Derived.Test.YtmfmokblmipagaaGreatR24
set_option linter.unusedSimpArgs false
set_option linter.unusedVariables false
set_option maxHeartbeats 8000000
open Pl
namespace Go.Proofs.YtmfmokblmipagaaGreat
open Go.RowKit Pl
theorem do_ldi {ops : Array Oper} {S : World → Prop} {L : Act → Prop} {o : Oper} {rest : List Oper} {a : Act} (hg : Region.wanted o (yielded ops a.tmps) = true) (x : Operand) (ho : o.op = .load 3 x) (g j : Nat)
 (hx : a.eval x = .pointer (some ⟨g, j, none⟩)) (z : Value) (h : ∀ w, S w → w.cell? ⟨g, j, none⟩ = some z)
 (hr : wpD Tryz.prog ops S L rest (a.put o.dst z)) : wpD Tryz.prog ops S L (o :: rest) a :=
 wpD_hereg hg (fun w hS => by
  have ha : (isAgg 3).run Tryz.prog w = .ok false w := by kernel_rfl
  unfold execOp
  simp only [ho, hx, Instr.loadAt, Instr.sureAddr, Sem.run_bind, Sem.run_pure, Result.andThen_ok]
  simp [loadVar, Sem.run_bind, ha, h w hS, go_sem]) hr
theorem do_ldu {ops : Array Oper} {S : World → Prop} {L : Act → Prop} {o : Oper} {rest : List Oper} {a : Act} (hg : Region.wanted o (yielded ops a.tmps) = true) (x : Operand) (ho : o.op = .load 22 x) (g j : Nat)
 (hx : a.eval x = .pointer (some ⟨g, j, none⟩)) (z : Value) (h : ∀ w, S w → w.cell? ⟨g, j, none⟩ = some z)
 (hr : wpD Tryz.prog ops S L rest (a.put o.dst z)) : wpD Tryz.prog ops S L (o :: rest) a :=
 wpD_hereg hg (fun w hS => by
  have ha : (isAgg 22).run Tryz.prog w = .ok false w := by kernel_rfl
  unfold execOp
  simp only [ho, hx, Instr.loadAt, Instr.sureAddr, Sem.run_bind, Sem.run_pure, Result.andThen_ok]
  simp [loadVar, Sem.run_bind, ha, h w hS, go_sem]) hr
structure IB (w0 : World) (B : Nat) (x : Obj) (u : World) : Prop where
 bel : Below w0.heap.size w0 u
 blk : u.heap[B]? = some x
theorem IB.below {w0 u u1 : World} {B : Nat} {x : Obj} (h : IB w0 B x u) (hb : Below u.heap.size u u1) : IB w0 B x u1 := ⟨h.bel.trans (hb.mono h.bel.size), blk_keep h.blk hb⟩
theorem IB.drew {w0 u : World} {B : Nat} {x : Obj} (h : IB w0 B x u) : IB w0 B x u.drew := h.below (Below.refl _ _).drew
theorem IB.cell {w0 u : World} {B : Nat} {cs : Array Value} {t : TypeId} {fr : Nat × Nat} (h : IB w0 B (.cells cs t fr) u) (j : Nat) {z : Value} (hz : cs[j]? = some z) : u.cell? ⟨B, j, none⟩ = some z := by
 rw [cell_of_row u B j _ _ _ h.blk]; exact hz
set_option maxRecDepth 100000 in
theorem rerr_size (p : Value) (op a b lo hi : Int) (L : Value) (s : Bool) (w : World) (hr : -9223372036854775808 ≤ op ∧ op ≤ 9223372036854775807) (h : vszN op = 0) :
 Calls Tryz.prog 50 #[p, inV op a b lo hi L, .bool s] w fun e w' => e = .returned (.int .i64 1) ∧ Below w.heap.size w w' := by
 obtain ⟨n, hn⟩ : ∃ n, n = vszN op := ⟨_, rfl⟩
 have HS : ∀ W, Calls Tryz.prog 5 #[.int .i64 op] W fun e w' => e = .returned (.int .i64 n) ∧ w' = W := fun W => hn ▸ rsz_any op W hr
 have HT : ∀ W, Calls Tryz.prog 17 #[.int .i64 op] W fun e w' => e = .returned (.bool (vst op)) ∧ w' = W := fun W => rst_any op W
 have t1 : (n == 0) = true := by rw [hn, h]; rfl
 generalize vst op = vs at *
 replace HS := Lib.hid HS
 replace HT := Lib.hid HT
 clear hr
 try clear hn
 go_enter Tryz.func50, Tryz.ntmps50
 go_wp2_with fail
 refine (HS.out _).mono ?_
 rintro e u ⟨rfl, rfl⟩
 obtain ⟨W, hW⟩ : ∃ W, W = w.alloc (.cells #[.int .i64 op, .int .i64 a, .int .i64 b, .int .u64 lo, .int .u64 hi, L] 25) := ⟨_, rfl⟩
 have hs : IB w w.heap.size (.cells #[.int .i64 op, .int .i64 a, .int .i64 b, .int .u64 lo, .int .u64 hi, L] 25 (0, 0)) W := ⟨hW ▸ (Below.refl _ _).alloc (Nat.le_refl _) _, hW ▸ heap_alloc_new _ _⟩
 try unfold inV
 rw [← hW]
 clear hW
 go_wp2_with fail
 refine region_do (IB w w.heap.size (.cells #[.int .i64 op, .int .i64 a, .int .i64 b, .int .u64 lo, .int .u64 hi, L] 25 (0, 0))) 36 (by kernel_rfl) (by kernel_rfl) hs.drew ?_
 simp only [zF, zE, zD, zC]
 repeat (first | (refine do_ldi rfl _ rfl _ 0 rfl (.int .i64 op) (fun u hS => hS.cell 0 rfl) ?_; simp only [Act.put, z5, z6, z7]) | (refine do_ldi rfl _ rfl _ 2 rfl (.int .i64 b) (fun u hS => hS.cell 2 rfl) ?_; simp only [Act.put, z5, z6, z7]) | (refine do_ldu rfl _ rfl _ 3 rfl (.int .u64 lo) (fun u hS => hS.cell 3 rfl) ?_; simp only [Act.put, z5, z6, z7]) | (refine wpD_callg (v := .bool vs) rfl 17 ?_ (fun u => ?_) (fun u hS => ?_) ?_; rotate_left 1; (focus (go_simp; (try with_reducible rfl); done)); (focus (refine (HT.out _).mono ?_; rintro e u2 ⟨rfl, rfl⟩; exact ⟨rfl, hS⟩)); simp only [Act.put, z5, z6, z7]) | (refine wpD_pure (v := ?_) rfl (fun u => ?_) ?_; rotate_left; (focus (go_simp; (try with_reducible rfl); done)); simp only [Act.put, z5, z6, z7]) | (refine wpD_pureg (v := ?_) rfl (fun u => ?_) ?_; rotate_left; (focus (go_simp; (try with_reducible rfl); done)); simp only [Act.put, z5, z6, z7]) | (refine wpD_skip rfl ?_; simp only [Act.put, z5, z6, z7]))
 apply wpD_nil
 intro wq hq
 go_wp2_with fail
 go_ret
 exact ⟨rfl, hq.bel⟩
set_option maxRecDepth 100000 in
theorem rerr_not (p : Value) (op a b lo hi : Int) (L : Value) (s : Bool) (w : World) (hr : -9223372036854775808 ≤ op ∧ op ≤ 9223372036854775807) (h : vszN op ≠ 0) (h2 : vst op ≠ s) :
 Calls Tryz.prog 50 #[p, inV op a b lo hi L, .bool s] w fun e w' => e = .returned (.int .i64 1) ∧ Below w.heap.size w w' := by
 obtain ⟨n, hn⟩ : ∃ n, n = vszN op := ⟨_, rfl⟩
 have HS : ∀ W, Calls Tryz.prog 5 #[.int .i64 op] W fun e w' => e = .returned (.int .i64 n) ∧ w' = W := fun W => hn ▸ rsz_any op W hr
 have HT : ∀ W, Calls Tryz.prog 17 #[.int .i64 op] W fun e w' => e = .returned (.bool (vst op)) ∧ w' = W := fun W => rst_any op W
 have t1 : (n == 0) = false := by rw [hn, beq_eq_false_iff_ne]; exact h
 have t2 : (vst op == s) = false := beq_eq_false_iff_ne.2 h2
 clear h2
 generalize vst op = vs at *
 replace HS := Lib.hid HS
 replace HT := Lib.hid HT
 clear hr
 try clear hn
 go_enter Tryz.func50, Tryz.ntmps50
 go_wp2_with fail
 refine (HS.out _).mono ?_
 rintro e u ⟨rfl, rfl⟩
 obtain ⟨W, hW⟩ : ∃ W, W = w.alloc (.cells #[.int .i64 op, .int .i64 a, .int .i64 b, .int .u64 lo, .int .u64 hi, L] 25) := ⟨_, rfl⟩
 have hs : IB w w.heap.size (.cells #[.int .i64 op, .int .i64 a, .int .i64 b, .int .u64 lo, .int .u64 hi, L] 25 (0, 0)) W := ⟨hW ▸ (Below.refl _ _).alloc (Nat.le_refl _) _, hW ▸ heap_alloc_new _ _⟩
 try unfold inV
 rw [← hW]
 clear hW
 go_wp2_with fail
 refine region_do (IB w w.heap.size (.cells #[.int .i64 op, .int .i64 a, .int .i64 b, .int .u64 lo, .int .u64 hi, L] 25 (0, 0))) 36 (by kernel_rfl) (by kernel_rfl) hs.drew ?_
 simp only [zF, zE, zD, zC]
 repeat (first | (refine do_ldi rfl _ rfl _ 0 rfl (.int .i64 op) (fun u hS => hS.cell 0 rfl) ?_; simp only [Act.put, z5, z6, z7]) | (refine do_ldi rfl _ rfl _ 2 rfl (.int .i64 b) (fun u hS => hS.cell 2 rfl) ?_; simp only [Act.put, z5, z6, z7]) | (refine do_ldu rfl _ rfl _ 3 rfl (.int .u64 lo) (fun u hS => hS.cell 3 rfl) ?_; simp only [Act.put, z5, z6, z7]) | (refine wpD_callg (v := .bool vs) rfl 17 ?_ (fun u => ?_) (fun u hS => ?_) ?_; rotate_left 1; (focus (go_simp; (try with_reducible rfl); done)); (focus (refine (HT.out _).mono ?_; rintro e u2 ⟨rfl, rfl⟩; exact ⟨rfl, hS⟩)); simp only [Act.put, z5, z6, z7]) | (refine wpD_pure (v := ?_) rfl (fun u => ?_) ?_; rotate_left; (focus (go_simp; (try with_reducible rfl); done)); simp only [Act.put, z5, z6, z7]) | (refine wpD_pureg (v := ?_) rfl (fun u => ?_) ?_; rotate_left; (focus (go_simp; (try with_reducible rfl); done)); simp only [Act.put, z5, z6, z7]) | (refine wpD_skip rfl ?_; simp only [Act.put, z5, z6, z7]))
 apply wpD_nil
 intro wq hq
 go_wp2_with fail
 go_ret
 exact ⟨rfl, hq.bel⟩
set_option maxRecDepth 100000 in
theorem rerr_neg (p : Value) (op a b lo hi : Int) (L : Value) (s : Bool) (w : World) (hr : -9223372036854775808 ≤ op ∧ op ≤ 9223372036854775807) (h : vszN op ≠ 0) (h2 : vst op = s) (hb : b < 0) :
 Calls Tryz.prog 50 #[p, inV op a b lo hi L, .bool s] w fun e w' => e = .returned (.int .i64 1) ∧ Below w.heap.size w w' := by
 obtain ⟨n, hn⟩ : ∃ n, n = vszN op := ⟨_, rfl⟩
 have HS : ∀ W, Calls Tryz.prog 5 #[.int .i64 op] W fun e w' => e = .returned (.int .i64 n) ∧ w' = W := fun W => hn ▸ rsz_any op W hr
 have HT : ∀ W, Calls Tryz.prog 17 #[.int .i64 op] W fun e w' => e = .returned (.bool (vst op)) ∧ w' = W := fun W => rst_any op W
 have t1 : (n == 0) = false := by rw [hn, beq_eq_false_iff_ne]; exact h
 have t2 : (vst op == s) = true := by rw [h2]; exact beq_self_eq_true s
 clear h2
 generalize vst op = vs at *
 replace HS := Lib.hid HS
 replace HT := Lib.hid HT
 clear hr
 try clear hn
 go_enter Tryz.func50, Tryz.ntmps50
 go_wp2_with fail
 refine (HS.out _).mono ?_
 rintro e u ⟨rfl, rfl⟩
 obtain ⟨W, hW⟩ : ∃ W, W = w.alloc (.cells #[.int .i64 op, .int .i64 a, .int .i64 b, .int .u64 lo, .int .u64 hi, L] 25) := ⟨_, rfl⟩
 have hs : IB w w.heap.size (.cells #[.int .i64 op, .int .i64 a, .int .i64 b, .int .u64 lo, .int .u64 hi, L] 25 (0, 0)) W := ⟨hW ▸ (Below.refl _ _).alloc (Nat.le_refl _) _, hW ▸ heap_alloc_new _ _⟩
 try unfold inV
 rw [← hW]
 clear hW
 go_wp2_with fail
 refine region_do (IB w w.heap.size (.cells #[.int .i64 op, .int .i64 a, .int .i64 b, .int .u64 lo, .int .u64 hi, L] 25 (0, 0))) 36 (by kernel_rfl) (by kernel_rfl) hs.drew ?_
 simp only [zF, zE, zD, zC]
 repeat (first | (refine do_ldi rfl _ rfl _ 0 rfl (.int .i64 op) (fun u hS => hS.cell 0 rfl) ?_; simp only [Act.put, z5, z6, z7]) | (refine do_ldi rfl _ rfl _ 2 rfl (.int .i64 b) (fun u hS => hS.cell 2 rfl) ?_; simp only [Act.put, z5, z6, z7]) | (refine do_ldu rfl _ rfl _ 3 rfl (.int .u64 lo) (fun u hS => hS.cell 3 rfl) ?_; simp only [Act.put, z5, z6, z7]) | (refine wpD_callg (v := .bool vs) rfl 17 ?_ (fun u => ?_) (fun u hS => ?_) ?_; rotate_left 1; (focus (go_simp; (try with_reducible rfl); done)); (focus (refine (HT.out _).mono ?_; rintro e u2 ⟨rfl, rfl⟩; exact ⟨rfl, hS⟩)); simp only [Act.put, z5, z6, z7]) | (refine wpD_pure (v := ?_) rfl (fun u => ?_) ?_; rotate_left; (focus (go_simp; (try with_reducible rfl); done)); simp only [Act.put, z5, z6, z7]) | (refine wpD_pureg (v := ?_) rfl (fun u => ?_) ?_; rotate_left; (focus (go_simp; (try with_reducible rfl); done)); simp only [Act.put, z5, z6, z7]) | (refine wpD_skip rfl ?_; simp only [Act.put, z5, z6, z7]))
 apply wpD_nil
 intro wq hq
 go_wp2_with fail
 go_ret
 exact ⟨rfl, hq.bel⟩
set_option maxRecDepth 100000 in
theorem rerr_big (p : Value) (op a b lo hi : Int) (L : Value) (s : Bool) (w : World) (hr : -9223372036854775808 ≤ op ∧ op ≤ 9223372036854775807) (h : vszN op ≠ 0) (h2 : vst op = s) (hb : 4294967296 ≤ b) :
 Calls Tryz.prog 50 #[p, inV op a b lo hi L, .bool s] w fun e w' => e = .returned (.int .i64 1) ∧ Below w.heap.size w w' := by
 obtain ⟨n, hn⟩ : ∃ n, n = vszN op := ⟨_, rfl⟩
 have HS : ∀ W, Calls Tryz.prog 5 #[.int .i64 op] W fun e w' => e = .returned (.int .i64 n) ∧ w' = W := fun W => hn ▸ rsz_any op W hr
 have HT : ∀ W, Calls Tryz.prog 17 #[.int .i64 op] W fun e w' => e = .returned (.bool (vst op)) ∧ w' = W := fun W => rst_any op W
 have t1 : (n == 0) = false := by rw [hn, beq_eq_false_iff_ne]; exact h
 have t2 : (vst op == s) = true := by rw [h2]; exact beq_self_eq_true s
 clear h2
 have q5 : decide (b < 0) = false := decide_eq_false (by omega)
 have q6 : decide (4294967295 < b) = true := decide_eq_true (by omega)
 generalize vst op = vs at *
 replace HS := Lib.hid HS
 replace HT := Lib.hid HT
 clear hr
 try clear hn
 go_enter Tryz.func50, Tryz.ntmps50
 go_wp2_with fail
 refine (HS.out _).mono ?_
 rintro e u ⟨rfl, rfl⟩
 obtain ⟨W, hW⟩ : ∃ W, W = w.alloc (.cells #[.int .i64 op, .int .i64 a, .int .i64 b, .int .u64 lo, .int .u64 hi, L] 25) := ⟨_, rfl⟩
 have hs : IB w w.heap.size (.cells #[.int .i64 op, .int .i64 a, .int .i64 b, .int .u64 lo, .int .u64 hi, L] 25 (0, 0)) W := ⟨hW ▸ (Below.refl _ _).alloc (Nat.le_refl _) _, hW ▸ heap_alloc_new _ _⟩
 try unfold inV
 rw [← hW]
 clear hW
 go_wp2_with fail
 refine region_do (IB w w.heap.size (.cells #[.int .i64 op, .int .i64 a, .int .i64 b, .int .u64 lo, .int .u64 hi, L] 25 (0, 0))) 36 (by kernel_rfl) (by kernel_rfl) hs.drew ?_
 simp only [zF, zE, zD, zC]
 repeat (first | (refine do_ldi rfl _ rfl _ 0 rfl (.int .i64 op) (fun u hS => hS.cell 0 rfl) ?_; simp only [Act.put, z5, z6, z7]) | (refine do_ldi rfl _ rfl _ 2 rfl (.int .i64 b) (fun u hS => hS.cell 2 rfl) ?_; simp only [Act.put, z5, z6, z7]) | (refine do_ldu rfl _ rfl _ 3 rfl (.int .u64 lo) (fun u hS => hS.cell 3 rfl) ?_; simp only [Act.put, z5, z6, z7]) | (refine wpD_callg (v := .bool vs) rfl 17 ?_ (fun u => ?_) (fun u hS => ?_) ?_; rotate_left 1; (focus (go_simp; (try with_reducible rfl); done)); (focus (refine (HT.out _).mono ?_; rintro e u2 ⟨rfl, rfl⟩; exact ⟨rfl, hS⟩)); simp only [Act.put, z5, z6, z7]) | (refine wpD_pure (v := ?_) rfl (fun u => ?_) ?_; rotate_left; (focus (go_simp; (try with_reducible rfl); done)); simp only [Act.put, z5, z6, z7]) | (refine wpD_pureg (v := ?_) rfl (fun u => ?_) ?_; rotate_left; (focus (go_simp; (try with_reducible rfl); done)); simp only [Act.put, z5, z6, z7]) | (refine wpD_skip rfl ?_; simp only [Act.put, z5, z6, z7]))
 apply wpD_nil
 intro wq hq
 go_wp2_with fail
 go_ret
 exact ⟨rfl, hq.bel⟩
set_option maxRecDepth 100000 in
theorem rerr_low_0 (p : Value) (op a b lo hi : Int) (L : Value) (s : Bool) (w : World) (hr : -9223372036854775808 ≤ op ∧ op ≤ 9223372036854775807) (g : Addr) (h : vszN op ≠ 0) (h2 : vst op = s) (hb : 0 ≤ b ∧ b < 4294967296) (hc : op < 64852) :
 Calls Tryz.prog 50 #[.pointer (some g), inV op a b lo hi L, .bool s] w fun e w' => e = .returned (.int .i64 0) ∧ Below w.heap.size w w' := by
 obtain ⟨n, hn⟩ : ∃ n, n = vszN op := ⟨_, rfl⟩
 have HS : ∀ W, Calls Tryz.prog 5 #[.int .i64 op] W fun e w' => e = .returned (.int .i64 n) ∧ w' = W := fun W => hn ▸ rsz_any op W hr
 have HT : ∀ W, Calls Tryz.prog 17 #[.int .i64 op] W fun e w' => e = .returned (.bool (vst op)) ∧ w' = W := fun W => rst_any op W
 have t1 : (n == 0) = false := by rw [hn, beq_eq_false_iff_ne]; exact h
 have t2 : (vst op == s) = true := by rw [h2]; exact beq_self_eq_true s
 clear h2
 have q5 : decide (b < 0) = false := decide_eq_false (by omega)
 have q6 : decide (4294967295 < b) = false := decide_eq_false (by omega)
 have q3 : decide (64852 ≤ op) = false := decide_eq_false (by omega)
 generalize vst op = vs at *
 replace HS := Lib.hid HS
 replace HT := Lib.hid HT
 clear hr
 try clear hn
 go_enter Tryz.func50, Tryz.ntmps50
 go_wp2_with fail
 refine (HS.out _).mono ?_
 rintro e u ⟨rfl, rfl⟩
 obtain ⟨W, hW⟩ : ∃ W, W = w.alloc (.cells #[.int .i64 op, .int .i64 a, .int .i64 b, .int .u64 lo, .int .u64 hi, L] 25) := ⟨_, rfl⟩
 have hs : IB w w.heap.size (.cells #[.int .i64 op, .int .i64 a, .int .i64 b, .int .u64 lo, .int .u64 hi, L] 25 (0, 0)) W := ⟨hW ▸ (Below.refl _ _).alloc (Nat.le_refl _) _, hW ▸ heap_alloc_new _ _⟩
 try unfold inV
 rw [← hW]
 clear hW
 go_wp2_with fail
 refine region_do (IB w w.heap.size (.cells #[.int .i64 op, .int .i64 a, .int .i64 b, .int .u64 lo, .int .u64 hi, L] 25 (0, 0))) 36 (by kernel_rfl) (by kernel_rfl) hs.drew ?_
 simp only [zF, zE, zD, zC]
 repeat (first | (refine do_ldi rfl _ rfl _ 0 rfl (.int .i64 op) (fun u hS => hS.cell 0 rfl) ?_; simp only [Act.put, z5, z6, z7]) | (refine do_ldi rfl _ rfl _ 2 rfl (.int .i64 b) (fun u hS => hS.cell 2 rfl) ?_; simp only [Act.put, z5, z6, z7]) | (refine do_ldu rfl _ rfl _ 3 rfl (.int .u64 lo) (fun u hS => hS.cell 3 rfl) ?_; simp only [Act.put, z5, z6, z7]) | (refine wpD_callg (v := .bool vs) rfl 17 ?_ (fun u => ?_) (fun u hS => ?_) ?_; rotate_left 1; (focus (go_simp; (try with_reducible rfl); done)); (focus (refine (HT.out _).mono ?_; rintro e u2 ⟨rfl, rfl⟩; exact ⟨rfl, hS⟩)); simp only [Act.put, z5, z6, z7]) | (refine wpD_pure (v := ?_) rfl (fun u => ?_) ?_; rotate_left; (focus (go_simp; (try with_reducible rfl); done)); simp only [Act.put, z5, z6, z7]) | (refine wpD_pureg (v := ?_) rfl (fun u => ?_) ?_; rotate_left; (focus (go_simp; (try with_reducible rfl); done)); simp only [Act.put, z5, z6, z7]) | (refine wpD_skip rfl ?_; simp only [Act.put, z5, z6, z7]))
 apply wpD_nil
 intro wq hq
 go_wp2_with fail
 go_ret
 exact ⟨rfl, hq.bel⟩
set_option maxRecDepth 100000 in
theorem rerr_high_0 (p : Value) (op a b lo hi : Int) (L : Value) (s : Bool) (w : World) (hr : -9223372036854775808 ≤ op ∧ op ≤ 9223372036854775807) (g : Addr) (h : vszN op ≠ 0) (h2 : vst op = s) (hb : 0 ≤ b ∧ b < 4294967296) (hc : 64859 < op) :
 Calls Tryz.prog 50 #[.pointer (some g), inV op a b lo hi L, .bool s] w fun e w' => e = .returned (.int .i64 0) ∧ Below w.heap.size w w' := by
 obtain ⟨n, hn⟩ : ∃ n, n = vszN op := ⟨_, rfl⟩
 have HS : ∀ W, Calls Tryz.prog 5 #[.int .i64 op] W fun e w' => e = .returned (.int .i64 n) ∧ w' = W := fun W => hn ▸ rsz_any op W hr
 have HT : ∀ W, Calls Tryz.prog 17 #[.int .i64 op] W fun e w' => e = .returned (.bool (vst op)) ∧ w' = W := fun W => rst_any op W
 have t1 : (n == 0) = false := by rw [hn, beq_eq_false_iff_ne]; exact h
 have t2 : (vst op == s) = true := by rw [h2]; exact beq_self_eq_true s
 clear h2
 have q5 : decide (b < 0) = false := decide_eq_false (by omega)
 have q6 : decide (4294967295 < b) = false := decide_eq_false (by omega)
 have q3 : decide (64852 ≤ op) = true := decide_eq_true (by omega)
 have q4 : decide (op ≤ 64859) = false := decide_eq_false (by omega)
 generalize vst op = vs at *
 replace HS := Lib.hid HS
 replace HT := Lib.hid HT
 clear hr
 try clear hn
 go_enter Tryz.func50, Tryz.ntmps50
 go_wp2_with fail
 refine (HS.out _).mono ?_
 rintro e u ⟨rfl, rfl⟩
 obtain ⟨W, hW⟩ : ∃ W, W = w.alloc (.cells #[.int .i64 op, .int .i64 a, .int .i64 b, .int .u64 lo, .int .u64 hi, L] 25) := ⟨_, rfl⟩
 have hs : IB w w.heap.size (.cells #[.int .i64 op, .int .i64 a, .int .i64 b, .int .u64 lo, .int .u64 hi, L] 25 (0, 0)) W := ⟨hW ▸ (Below.refl _ _).alloc (Nat.le_refl _) _, hW ▸ heap_alloc_new _ _⟩
 try unfold inV
 rw [← hW]
 clear hW
 go_wp2_with fail
 refine region_do (IB w w.heap.size (.cells #[.int .i64 op, .int .i64 a, .int .i64 b, .int .u64 lo, .int .u64 hi, L] 25 (0, 0))) 36 (by kernel_rfl) (by kernel_rfl) hs.drew ?_
 simp only [zF, zE, zD, zC]
 repeat (first | (refine do_ldi rfl _ rfl _ 0 rfl (.int .i64 op) (fun u hS => hS.cell 0 rfl) ?_; simp only [Act.put, z5, z6, z7]) | (refine do_ldi rfl _ rfl _ 2 rfl (.int .i64 b) (fun u hS => hS.cell 2 rfl) ?_; simp only [Act.put, z5, z6, z7]) | (refine do_ldu rfl _ rfl _ 3 rfl (.int .u64 lo) (fun u hS => hS.cell 3 rfl) ?_; simp only [Act.put, z5, z6, z7]) | (refine wpD_callg (v := .bool vs) rfl 17 ?_ (fun u => ?_) (fun u hS => ?_) ?_; rotate_left 1; (focus (go_simp; (try with_reducible rfl); done)); (focus (refine (HT.out _).mono ?_; rintro e u2 ⟨rfl, rfl⟩; exact ⟨rfl, hS⟩)); simp only [Act.put, z5, z6, z7]) | (refine wpD_pure (v := ?_) rfl (fun u => ?_) ?_; rotate_left; (focus (go_simp; (try with_reducible rfl); done)); simp only [Act.put, z5, z6, z7]) | (refine wpD_pureg (v := ?_) rfl (fun u => ?_) ?_; rotate_left; (focus (go_simp; (try with_reducible rfl); done)); simp only [Act.put, z5, z6, z7]) | (refine wpD_skip rfl ?_; simp only [Act.put, z5, z6, z7]))
 apply wpD_nil
 intro wq hq
 go_wp2_with fail
 go_ret
 exact ⟨rfl, hq.bel⟩
set_option maxRecDepth 100000 in
theorem rerr_lane_1 (p : Value) (op a b lo hi : Int) (L : Value) (s : Bool) (w : World) (hr : -9223372036854775808 ≤ op ∧ op ≤ 9223372036854775807) (h : vszN op = 1) (h2 : vst op = s) (hb : 0 ≤ b ∧ b < 4294967296) (hc : 64852 ≤ op ∧ op ≤ 64859) (h0 : 0 ≤ lo) (hl : 16 ≤ lo) :
 Calls Tryz.prog 50 #[p, inV op a b lo hi L, .bool s] w fun e w' => e = .returned (.int .i64 1) ∧ Below w.heap.size w w' := by
 obtain ⟨n, hn⟩ : ∃ n, n = vszN op := ⟨_, rfl⟩
 have HS : ∀ W, Calls Tryz.prog 5 #[.int .i64 op] W fun e w' => e = .returned (.int .i64 n) ∧ w' = W := fun W => hn ▸ rsz_any op W hr
 have HT : ∀ W, Calls Tryz.prog 17 #[.int .i64 op] W fun e w' => e = .returned (.bool (vst op)) ∧ w' = W := fun W => rst_any op W
 have h9 : n = 1 := hn.trans h
 subst h9
 have t2 : (vst op == s) = true := by rw [h2]; exact beq_self_eq_true s
 clear h2
 have q5 : decide (b < 0) = false := decide_eq_false (by omega)
 have q6 : decide (4294967295 < b) = false := decide_eq_false (by omega)
 have q3 : decide (64852 ≤ op) = true := decide_eq_true (by omega)
 have q4 : decide (op ≤ 64859) = true := decide_eq_true (by omega)
 have q7 : decide (16 ≤ lo) = true := decide_eq_true (by omega)
 generalize vst op = vs at *
 replace HS := Lib.hid HS
 replace HT := Lib.hid HT
 clear hr
 try clear hn
 go_enter Tryz.func50, Tryz.ntmps50
 go_wp2_with fail
 refine (HS.out _).mono ?_
 rintro e u ⟨rfl, rfl⟩
 obtain ⟨W, hW⟩ : ∃ W, W = w.alloc (.cells #[.int .i64 op, .int .i64 a, .int .i64 b, .int .u64 lo, .int .u64 hi, L] 25) := ⟨_, rfl⟩
 have hs : IB w w.heap.size (.cells #[.int .i64 op, .int .i64 a, .int .i64 b, .int .u64 lo, .int .u64 hi, L] 25 (0, 0)) W := ⟨hW ▸ (Below.refl _ _).alloc (Nat.le_refl _) _, hW ▸ heap_alloc_new _ _⟩
 try unfold inV
 rw [← hW]
 clear hW
 go_wp2_with fail
 refine region_do (IB w w.heap.size (.cells #[.int .i64 op, .int .i64 a, .int .i64 b, .int .u64 lo, .int .u64 hi, L] 25 (0, 0))) 36 (by kernel_rfl) (by kernel_rfl) hs.drew ?_
 simp only [zF, zE, zD, zC]
 repeat (first | (refine do_ldi rfl _ rfl _ 0 rfl (.int .i64 op) (fun u hS => hS.cell 0 rfl) ?_; simp only [Act.put, z5, z6, z7]) | (refine do_ldi rfl _ rfl _ 2 rfl (.int .i64 b) (fun u hS => hS.cell 2 rfl) ?_; simp only [Act.put, z5, z6, z7]) | (refine do_ldu rfl _ rfl _ 3 rfl (.int .u64 lo) (fun u hS => hS.cell 3 rfl) ?_; simp only [Act.put, z5, z6, z7]) | (refine wpD_callg (v := .bool vs) rfl 17 ?_ (fun u => ?_) (fun u hS => ?_) ?_; rotate_left 1; (focus (go_simp; (try with_reducible rfl); done)); (focus (refine (HT.out _).mono ?_; rintro e u2 ⟨rfl, rfl⟩; exact ⟨rfl, hS⟩)); simp only [Act.put, z5, z6, z7]) | (refine wpD_pure (v := ?_) rfl (fun u => ?_) ?_; rotate_left; (focus (go_simp; (try with_reducible rfl); done)); simp only [Act.put, z5, z6, z7]) | (refine wpD_pureg (v := ?_) rfl (fun u => ?_) ?_; rotate_left; (focus (go_simp; (try with_reducible rfl); done)); simp only [Act.put, z5, z6, z7]) | (refine wpD_skip rfl ?_; simp only [Act.put, z5, z6, z7]))
 apply wpD_nil
 intro wq hq
 go_wp2_with fail
 go_ret
 exact ⟨rfl, hq.bel⟩
set_option maxRecDepth 100000 in
theorem rerr_ok_1 (p : Value) (op a b lo hi : Int) (L : Value) (s : Bool) (w : World) (hr : -9223372036854775808 ≤ op ∧ op ≤ 9223372036854775807) (g : Addr) (h : vszN op = 1) (h2 : vst op = s) (hb : 0 ≤ b ∧ b < 4294967296) (hc : 64852 ≤ op ∧ op ≤ 64859) (h0 : 0 ≤ lo) (hl : lo < 16) :
 Calls Tryz.prog 50 #[.pointer (some g), inV op a b lo hi L, .bool s] w fun e w' => e = .returned (.int .i64 0) ∧ Below w.heap.size w w' := by
 obtain ⟨n, hn⟩ : ∃ n, n = vszN op := ⟨_, rfl⟩
 have HS : ∀ W, Calls Tryz.prog 5 #[.int .i64 op] W fun e w' => e = .returned (.int .i64 n) ∧ w' = W := fun W => hn ▸ rsz_any op W hr
 have HT : ∀ W, Calls Tryz.prog 17 #[.int .i64 op] W fun e w' => e = .returned (.bool (vst op)) ∧ w' = W := fun W => rst_any op W
 have h9 : n = 1 := hn.trans h
 subst h9
 have t2 : (vst op == s) = true := by rw [h2]; exact beq_self_eq_true s
 clear h2
 have q5 : decide (b < 0) = false := decide_eq_false (by omega)
 have q6 : decide (4294967295 < b) = false := decide_eq_false (by omega)
 have q3 : decide (64852 ≤ op) = true := decide_eq_true (by omega)
 have q4 : decide (op ≤ 64859) = true := decide_eq_true (by omega)
 have q7 : decide (16 ≤ lo) = false := decide_eq_false (by omega)
 generalize vst op = vs at *
 replace HS := Lib.hid HS
 replace HT := Lib.hid HT
 clear hr
 try clear hn
 go_enter Tryz.func50, Tryz.ntmps50
 go_wp2_with fail
 refine (HS.out _).mono ?_
 rintro e u ⟨rfl, rfl⟩
 obtain ⟨W, hW⟩ : ∃ W, W = w.alloc (.cells #[.int .i64 op, .int .i64 a, .int .i64 b, .int .u64 lo, .int .u64 hi, L] 25) := ⟨_, rfl⟩
 have hs : IB w w.heap.size (.cells #[.int .i64 op, .int .i64 a, .int .i64 b, .int .u64 lo, .int .u64 hi, L] 25 (0, 0)) W := ⟨hW ▸ (Below.refl _ _).alloc (Nat.le_refl _) _, hW ▸ heap_alloc_new _ _⟩
 try unfold inV
 rw [← hW]
 clear hW
 go_wp2_with fail
 refine region_do (IB w w.heap.size (.cells #[.int .i64 op, .int .i64 a, .int .i64 b, .int .u64 lo, .int .u64 hi, L] 25 (0, 0))) 36 (by kernel_rfl) (by kernel_rfl) hs.drew ?_
 simp only [zF, zE, zD, zC]
 repeat (first | (refine do_ldi rfl _ rfl _ 0 rfl (.int .i64 op) (fun u hS => hS.cell 0 rfl) ?_; simp only [Act.put, z5, z6, z7]) | (refine do_ldi rfl _ rfl _ 2 rfl (.int .i64 b) (fun u hS => hS.cell 2 rfl) ?_; simp only [Act.put, z5, z6, z7]) | (refine do_ldu rfl _ rfl _ 3 rfl (.int .u64 lo) (fun u hS => hS.cell 3 rfl) ?_; simp only [Act.put, z5, z6, z7]) | (refine wpD_callg (v := .bool vs) rfl 17 ?_ (fun u => ?_) (fun u hS => ?_) ?_; rotate_left 1; (focus (go_simp; (try with_reducible rfl); done)); (focus (refine (HT.out _).mono ?_; rintro e u2 ⟨rfl, rfl⟩; exact ⟨rfl, hS⟩)); simp only [Act.put, z5, z6, z7]) | (refine wpD_pure (v := ?_) rfl (fun u => ?_) ?_; rotate_left; (focus (go_simp; (try with_reducible rfl); done)); simp only [Act.put, z5, z6, z7]) | (refine wpD_pureg (v := ?_) rfl (fun u => ?_) ?_; rotate_left; (focus (go_simp; (try with_reducible rfl); done)); simp only [Act.put, z5, z6, z7]) | (refine wpD_skip rfl ?_; simp only [Act.put, z5, z6, z7]))
 apply wpD_nil
 intro wq hq
 go_wp2_with fail
 go_ret
 exact ⟨rfl, hq.bel⟩
set_option maxRecDepth 100000 in
theorem rerr_lane_2 (p : Value) (op a b lo hi : Int) (L : Value) (s : Bool) (w : World) (hr : -9223372036854775808 ≤ op ∧ op ≤ 9223372036854775807) (h : vszN op = 2) (h2 : vst op = s) (hb : 0 ≤ b ∧ b < 4294967296) (hc : 64852 ≤ op ∧ op ≤ 64859) (h0 : 0 ≤ lo) (hl : 8 ≤ lo) :
 Calls Tryz.prog 50 #[p, inV op a b lo hi L, .bool s] w fun e w' => e = .returned (.int .i64 1) ∧ Below w.heap.size w w' := by
 obtain ⟨n, hn⟩ : ∃ n, n = vszN op := ⟨_, rfl⟩
 have HS : ∀ W, Calls Tryz.prog 5 #[.int .i64 op] W fun e w' => e = .returned (.int .i64 n) ∧ w' = W := fun W => hn ▸ rsz_any op W hr
 have HT : ∀ W, Calls Tryz.prog 17 #[.int .i64 op] W fun e w' => e = .returned (.bool (vst op)) ∧ w' = W := fun W => rst_any op W
 have h9 : n = 2 := hn.trans h
 subst h9
 have t2 : (vst op == s) = true := by rw [h2]; exact beq_self_eq_true s
 clear h2
 have q5 : decide (b < 0) = false := decide_eq_false (by omega)
 have q6 : decide (4294967295 < b) = false := decide_eq_false (by omega)
 have q3 : decide (64852 ≤ op) = true := decide_eq_true (by omega)
 have q4 : decide (op ≤ 64859) = true := decide_eq_true (by omega)
 have q7 : decide (8 ≤ lo) = true := decide_eq_true (by omega)
 generalize vst op = vs at *
 replace HS := Lib.hid HS
 replace HT := Lib.hid HT
 clear hr
 try clear hn
 go_enter Tryz.func50, Tryz.ntmps50
 go_wp2_with fail
 refine (HS.out _).mono ?_
 rintro e u ⟨rfl, rfl⟩
 obtain ⟨W, hW⟩ : ∃ W, W = w.alloc (.cells #[.int .i64 op, .int .i64 a, .int .i64 b, .int .u64 lo, .int .u64 hi, L] 25) := ⟨_, rfl⟩
 have hs : IB w w.heap.size (.cells #[.int .i64 op, .int .i64 a, .int .i64 b, .int .u64 lo, .int .u64 hi, L] 25 (0, 0)) W := ⟨hW ▸ (Below.refl _ _).alloc (Nat.le_refl _) _, hW ▸ heap_alloc_new _ _⟩
 try unfold inV
 rw [← hW]
 clear hW
 go_wp2_with fail
 refine region_do (IB w w.heap.size (.cells #[.int .i64 op, .int .i64 a, .int .i64 b, .int .u64 lo, .int .u64 hi, L] 25 (0, 0))) 36 (by kernel_rfl) (by kernel_rfl) hs.drew ?_
 simp only [zF, zE, zD, zC]
 repeat (first | (refine do_ldi rfl _ rfl _ 0 rfl (.int .i64 op) (fun u hS => hS.cell 0 rfl) ?_; simp only [Act.put, z5, z6, z7]) | (refine do_ldi rfl _ rfl _ 2 rfl (.int .i64 b) (fun u hS => hS.cell 2 rfl) ?_; simp only [Act.put, z5, z6, z7]) | (refine do_ldu rfl _ rfl _ 3 rfl (.int .u64 lo) (fun u hS => hS.cell 3 rfl) ?_; simp only [Act.put, z5, z6, z7]) | (refine wpD_callg (v := .bool vs) rfl 17 ?_ (fun u => ?_) (fun u hS => ?_) ?_; rotate_left 1; (focus (go_simp; (try with_reducible rfl); done)); (focus (refine (HT.out _).mono ?_; rintro e u2 ⟨rfl, rfl⟩; exact ⟨rfl, hS⟩)); simp only [Act.put, z5, z6, z7]) | (refine wpD_pure (v := ?_) rfl (fun u => ?_) ?_; rotate_left; (focus (go_simp; (try with_reducible rfl); done)); simp only [Act.put, z5, z6, z7]) | (refine wpD_pureg (v := ?_) rfl (fun u => ?_) ?_; rotate_left; (focus (go_simp; (try with_reducible rfl); done)); simp only [Act.put, z5, z6, z7]) | (refine wpD_skip rfl ?_; simp only [Act.put, z5, z6, z7]))
 apply wpD_nil
 intro wq hq
 go_wp2_with fail
 go_ret
 exact ⟨rfl, hq.bel⟩
set_option maxRecDepth 100000 in
theorem rerr_ok_2 (p : Value) (op a b lo hi : Int) (L : Value) (s : Bool) (w : World) (hr : -9223372036854775808 ≤ op ∧ op ≤ 9223372036854775807) (g : Addr) (h : vszN op = 2) (h2 : vst op = s) (hb : 0 ≤ b ∧ b < 4294967296) (hc : 64852 ≤ op ∧ op ≤ 64859) (h0 : 0 ≤ lo) (hl : lo < 8) :
 Calls Tryz.prog 50 #[.pointer (some g), inV op a b lo hi L, .bool s] w fun e w' => e = .returned (.int .i64 0) ∧ Below w.heap.size w w' := by
 obtain ⟨n, hn⟩ : ∃ n, n = vszN op := ⟨_, rfl⟩
 have HS : ∀ W, Calls Tryz.prog 5 #[.int .i64 op] W fun e w' => e = .returned (.int .i64 n) ∧ w' = W := fun W => hn ▸ rsz_any op W hr
 have HT : ∀ W, Calls Tryz.prog 17 #[.int .i64 op] W fun e w' => e = .returned (.bool (vst op)) ∧ w' = W := fun W => rst_any op W
 have h9 : n = 2 := hn.trans h
 subst h9
 have t2 : (vst op == s) = true := by rw [h2]; exact beq_self_eq_true s
 clear h2
 have q5 : decide (b < 0) = false := decide_eq_false (by omega)
 have q6 : decide (4294967295 < b) = false := decide_eq_false (by omega)
 have q3 : decide (64852 ≤ op) = true := decide_eq_true (by omega)
 have q4 : decide (op ≤ 64859) = true := decide_eq_true (by omega)
 have q7 : decide (8 ≤ lo) = false := decide_eq_false (by omega)
 generalize vst op = vs at *
 replace HS := Lib.hid HS
 replace HT := Lib.hid HT
 clear hr
 try clear hn
 go_enter Tryz.func50, Tryz.ntmps50
 go_wp2_with fail
 refine (HS.out _).mono ?_
 rintro e u ⟨rfl, rfl⟩
 obtain ⟨W, hW⟩ : ∃ W, W = w.alloc (.cells #[.int .i64 op, .int .i64 a, .int .i64 b, .int .u64 lo, .int .u64 hi, L] 25) := ⟨_, rfl⟩
 have hs : IB w w.heap.size (.cells #[.int .i64 op, .int .i64 a, .int .i64 b, .int .u64 lo, .int .u64 hi, L] 25 (0, 0)) W := ⟨hW ▸ (Below.refl _ _).alloc (Nat.le_refl _) _, hW ▸ heap_alloc_new _ _⟩
 try unfold inV
 rw [← hW]
 clear hW
 go_wp2_with fail
 refine region_do (IB w w.heap.size (.cells #[.int .i64 op, .int .i64 a, .int .i64 b, .int .u64 lo, .int .u64 hi, L] 25 (0, 0))) 36 (by kernel_rfl) (by kernel_rfl) hs.drew ?_
 simp only [zF, zE, zD, zC]
 repeat (first | (refine do_ldi rfl _ rfl _ 0 rfl (.int .i64 op) (fun u hS => hS.cell 0 rfl) ?_; simp only [Act.put, z5, z6, z7]) | (refine do_ldi rfl _ rfl _ 2 rfl (.int .i64 b) (fun u hS => hS.cell 2 rfl) ?_; simp only [Act.put, z5, z6, z7]) | (refine do_ldu rfl _ rfl _ 3 rfl (.int .u64 lo) (fun u hS => hS.cell 3 rfl) ?_; simp only [Act.put, z5, z6, z7]) | (refine wpD_callg (v := .bool vs) rfl 17 ?_ (fun u => ?_) (fun u hS => ?_) ?_; rotate_left 1; (focus (go_simp; (try with_reducible rfl); done)); (focus (refine (HT.out _).mono ?_; rintro e u2 ⟨rfl, rfl⟩; exact ⟨rfl, hS⟩)); simp only [Act.put, z5, z6, z7]) | (refine wpD_pure (v := ?_) rfl (fun u => ?_) ?_; rotate_left; (focus (go_simp; (try with_reducible rfl); done)); simp only [Act.put, z5, z6, z7]) | (refine wpD_pureg (v := ?_) rfl (fun u => ?_) ?_; rotate_left; (focus (go_simp; (try with_reducible rfl); done)); simp only [Act.put, z5, z6, z7]) | (refine wpD_skip rfl ?_; simp only [Act.put, z5, z6, z7]))
 apply wpD_nil
 intro wq hq
 go_wp2_with fail
 go_ret
 exact ⟨rfl, hq.bel⟩
set_option maxRecDepth 100000 in
theorem rerr_lane_4 (p : Value) (op a b lo hi : Int) (L : Value) (s : Bool) (w : World) (hr : -9223372036854775808 ≤ op ∧ op ≤ 9223372036854775807) (h : vszN op = 4) (h2 : vst op = s) (hb : 0 ≤ b ∧ b < 4294967296) (hc : 64852 ≤ op ∧ op ≤ 64859) (h0 : 0 ≤ lo) (hl : 4 ≤ lo) :
 Calls Tryz.prog 50 #[p, inV op a b lo hi L, .bool s] w fun e w' => e = .returned (.int .i64 1) ∧ Below w.heap.size w w' := by
 obtain ⟨n, hn⟩ : ∃ n, n = vszN op := ⟨_, rfl⟩
 have HS : ∀ W, Calls Tryz.prog 5 #[.int .i64 op] W fun e w' => e = .returned (.int .i64 n) ∧ w' = W := fun W => hn ▸ rsz_any op W hr
 have HT : ∀ W, Calls Tryz.prog 17 #[.int .i64 op] W fun e w' => e = .returned (.bool (vst op)) ∧ w' = W := fun W => rst_any op W
 have h9 : n = 4 := hn.trans h
 subst h9
 have t2 : (vst op == s) = true := by rw [h2]; exact beq_self_eq_true s
 clear h2
 have q5 : decide (b < 0) = false := decide_eq_false (by omega)
 have q6 : decide (4294967295 < b) = false := decide_eq_false (by omega)
 have q3 : decide (64852 ≤ op) = true := decide_eq_true (by omega)
 have q4 : decide (op ≤ 64859) = true := decide_eq_true (by omega)
 have q7 : decide (4 ≤ lo) = true := decide_eq_true (by omega)
 generalize vst op = vs at *
 replace HS := Lib.hid HS
 replace HT := Lib.hid HT
 clear hr
 try clear hn
 go_enter Tryz.func50, Tryz.ntmps50
 go_wp2_with fail
 refine (HS.out _).mono ?_
 rintro e u ⟨rfl, rfl⟩
 obtain ⟨W, hW⟩ : ∃ W, W = w.alloc (.cells #[.int .i64 op, .int .i64 a, .int .i64 b, .int .u64 lo, .int .u64 hi, L] 25) := ⟨_, rfl⟩
 have hs : IB w w.heap.size (.cells #[.int .i64 op, .int .i64 a, .int .i64 b, .int .u64 lo, .int .u64 hi, L] 25 (0, 0)) W := ⟨hW ▸ (Below.refl _ _).alloc (Nat.le_refl _) _, hW ▸ heap_alloc_new _ _⟩
 try unfold inV
 rw [← hW]
 clear hW
 go_wp2_with fail
 refine region_do (IB w w.heap.size (.cells #[.int .i64 op, .int .i64 a, .int .i64 b, .int .u64 lo, .int .u64 hi, L] 25 (0, 0))) 36 (by kernel_rfl) (by kernel_rfl) hs.drew ?_
 simp only [zF, zE, zD, zC]
 repeat (first | (refine do_ldi rfl _ rfl _ 0 rfl (.int .i64 op) (fun u hS => hS.cell 0 rfl) ?_; simp only [Act.put, z5, z6, z7]) | (refine do_ldi rfl _ rfl _ 2 rfl (.int .i64 b) (fun u hS => hS.cell 2 rfl) ?_; simp only [Act.put, z5, z6, z7]) | (refine do_ldu rfl _ rfl _ 3 rfl (.int .u64 lo) (fun u hS => hS.cell 3 rfl) ?_; simp only [Act.put, z5, z6, z7]) | (refine wpD_callg (v := .bool vs) rfl 17 ?_ (fun u => ?_) (fun u hS => ?_) ?_; rotate_left 1; (focus (go_simp; (try with_reducible rfl); done)); (focus (refine (HT.out _).mono ?_; rintro e u2 ⟨rfl, rfl⟩; exact ⟨rfl, hS⟩)); simp only [Act.put, z5, z6, z7]) | (refine wpD_pure (v := ?_) rfl (fun u => ?_) ?_; rotate_left; (focus (go_simp; (try with_reducible rfl); done)); simp only [Act.put, z5, z6, z7]) | (refine wpD_pureg (v := ?_) rfl (fun u => ?_) ?_; rotate_left; (focus (go_simp; (try with_reducible rfl); done)); simp only [Act.put, z5, z6, z7]) | (refine wpD_skip rfl ?_; simp only [Act.put, z5, z6, z7]))
 apply wpD_nil
 intro wq hq
 go_wp2_with fail
 go_ret
 exact ⟨rfl, hq.bel⟩
set_option maxRecDepth 100000 in
theorem rerr_ok_4 (p : Value) (op a b lo hi : Int) (L : Value) (s : Bool) (w : World) (hr : -9223372036854775808 ≤ op ∧ op ≤ 9223372036854775807) (g : Addr) (h : vszN op = 4) (h2 : vst op = s) (hb : 0 ≤ b ∧ b < 4294967296) (hc : 64852 ≤ op ∧ op ≤ 64859) (h0 : 0 ≤ lo) (hl : lo < 4) :
 Calls Tryz.prog 50 #[.pointer (some g), inV op a b lo hi L, .bool s] w fun e w' => e = .returned (.int .i64 0) ∧ Below w.heap.size w w' := by
 obtain ⟨n, hn⟩ : ∃ n, n = vszN op := ⟨_, rfl⟩
 have HS : ∀ W, Calls Tryz.prog 5 #[.int .i64 op] W fun e w' => e = .returned (.int .i64 n) ∧ w' = W := fun W => hn ▸ rsz_any op W hr
 have HT : ∀ W, Calls Tryz.prog 17 #[.int .i64 op] W fun e w' => e = .returned (.bool (vst op)) ∧ w' = W := fun W => rst_any op W
 have h9 : n = 4 := hn.trans h
 subst h9
 have t2 : (vst op == s) = true := by rw [h2]; exact beq_self_eq_true s
 clear h2
 have q5 : decide (b < 0) = false := decide_eq_false (by omega)
 have q6 : decide (4294967295 < b) = false := decide_eq_false (by omega)
 have q3 : decide (64852 ≤ op) = true := decide_eq_true (by omega)
 have q4 : decide (op ≤ 64859) = true := decide_eq_true (by omega)
 have q7 : decide (4 ≤ lo) = false := decide_eq_false (by omega)
 generalize vst op = vs at *
 replace HS := Lib.hid HS
 replace HT := Lib.hid HT
 clear hr
 try clear hn
 go_enter Tryz.func50, Tryz.ntmps50
 go_wp2_with fail
 refine (HS.out _).mono ?_
 rintro e u ⟨rfl, rfl⟩
 obtain ⟨W, hW⟩ : ∃ W, W = w.alloc (.cells #[.int .i64 op, .int .i64 a, .int .i64 b, .int .u64 lo, .int .u64 hi, L] 25) := ⟨_, rfl⟩
 have hs : IB w w.heap.size (.cells #[.int .i64 op, .int .i64 a, .int .i64 b, .int .u64 lo, .int .u64 hi, L] 25 (0, 0)) W := ⟨hW ▸ (Below.refl _ _).alloc (Nat.le_refl _) _, hW ▸ heap_alloc_new _ _⟩
 try unfold inV
 rw [← hW]
 clear hW
 go_wp2_with fail
 refine region_do (IB w w.heap.size (.cells #[.int .i64 op, .int .i64 a, .int .i64 b, .int .u64 lo, .int .u64 hi, L] 25 (0, 0))) 36 (by kernel_rfl) (by kernel_rfl) hs.drew ?_
 simp only [zF, zE, zD, zC]
 repeat (first | (refine do_ldi rfl _ rfl _ 0 rfl (.int .i64 op) (fun u hS => hS.cell 0 rfl) ?_; simp only [Act.put, z5, z6, z7]) | (refine do_ldi rfl _ rfl _ 2 rfl (.int .i64 b) (fun u hS => hS.cell 2 rfl) ?_; simp only [Act.put, z5, z6, z7]) | (refine do_ldu rfl _ rfl _ 3 rfl (.int .u64 lo) (fun u hS => hS.cell 3 rfl) ?_; simp only [Act.put, z5, z6, z7]) | (refine wpD_callg (v := .bool vs) rfl 17 ?_ (fun u => ?_) (fun u hS => ?_) ?_; rotate_left 1; (focus (go_simp; (try with_reducible rfl); done)); (focus (refine (HT.out _).mono ?_; rintro e u2 ⟨rfl, rfl⟩; exact ⟨rfl, hS⟩)); simp only [Act.put, z5, z6, z7]) | (refine wpD_pure (v := ?_) rfl (fun u => ?_) ?_; rotate_left; (focus (go_simp; (try with_reducible rfl); done)); simp only [Act.put, z5, z6, z7]) | (refine wpD_pureg (v := ?_) rfl (fun u => ?_) ?_; rotate_left; (focus (go_simp; (try with_reducible rfl); done)); simp only [Act.put, z5, z6, z7]) | (refine wpD_skip rfl ?_; simp only [Act.put, z5, z6, z7]))
 apply wpD_nil
 intro wq hq
 go_wp2_with fail
 go_ret
 exact ⟨rfl, hq.bel⟩
set_option maxRecDepth 100000 in
theorem rerr_lane_8 (p : Value) (op a b lo hi : Int) (L : Value) (s : Bool) (w : World) (hr : -9223372036854775808 ≤ op ∧ op ≤ 9223372036854775807) (h : vszN op = 8) (h2 : vst op = s) (hb : 0 ≤ b ∧ b < 4294967296) (hc : 64852 ≤ op ∧ op ≤ 64859) (h0 : 0 ≤ lo) (hl : 2 ≤ lo) :
 Calls Tryz.prog 50 #[p, inV op a b lo hi L, .bool s] w fun e w' => e = .returned (.int .i64 1) ∧ Below w.heap.size w w' := by
 obtain ⟨n, hn⟩ : ∃ n, n = vszN op := ⟨_, rfl⟩
 have HS : ∀ W, Calls Tryz.prog 5 #[.int .i64 op] W fun e w' => e = .returned (.int .i64 n) ∧ w' = W := fun W => hn ▸ rsz_any op W hr
 have HT : ∀ W, Calls Tryz.prog 17 #[.int .i64 op] W fun e w' => e = .returned (.bool (vst op)) ∧ w' = W := fun W => rst_any op W
 have h9 : n = 8 := hn.trans h
 subst h9
 have t2 : (vst op == s) = true := by rw [h2]; exact beq_self_eq_true s
 clear h2
 have q5 : decide (b < 0) = false := decide_eq_false (by omega)
 have q6 : decide (4294967295 < b) = false := decide_eq_false (by omega)
 have q3 : decide (64852 ≤ op) = true := decide_eq_true (by omega)
 have q4 : decide (op ≤ 64859) = true := decide_eq_true (by omega)
 have q7 : decide (2 ≤ lo) = true := decide_eq_true (by omega)
 generalize vst op = vs at *
 replace HS := Lib.hid HS
 replace HT := Lib.hid HT
 clear hr
 try clear hn
 go_enter Tryz.func50, Tryz.ntmps50
 go_wp2_with fail
 refine (HS.out _).mono ?_
 rintro e u ⟨rfl, rfl⟩
 obtain ⟨W, hW⟩ : ∃ W, W = w.alloc (.cells #[.int .i64 op, .int .i64 a, .int .i64 b, .int .u64 lo, .int .u64 hi, L] 25) := ⟨_, rfl⟩
 have hs : IB w w.heap.size (.cells #[.int .i64 op, .int .i64 a, .int .i64 b, .int .u64 lo, .int .u64 hi, L] 25 (0, 0)) W := ⟨hW ▸ (Below.refl _ _).alloc (Nat.le_refl _) _, hW ▸ heap_alloc_new _ _⟩
 try unfold inV
 rw [← hW]
 clear hW
 go_wp2_with fail
 refine region_do (IB w w.heap.size (.cells #[.int .i64 op, .int .i64 a, .int .i64 b, .int .u64 lo, .int .u64 hi, L] 25 (0, 0))) 36 (by kernel_rfl) (by kernel_rfl) hs.drew ?_
 simp only [zF, zE, zD, zC]
 repeat (first | (refine do_ldi rfl _ rfl _ 0 rfl (.int .i64 op) (fun u hS => hS.cell 0 rfl) ?_; simp only [Act.put, z5, z6, z7]) | (refine do_ldi rfl _ rfl _ 2 rfl (.int .i64 b) (fun u hS => hS.cell 2 rfl) ?_; simp only [Act.put, z5, z6, z7]) | (refine do_ldu rfl _ rfl _ 3 rfl (.int .u64 lo) (fun u hS => hS.cell 3 rfl) ?_; simp only [Act.put, z5, z6, z7]) | (refine wpD_callg (v := .bool vs) rfl 17 ?_ (fun u => ?_) (fun u hS => ?_) ?_; rotate_left 1; (focus (go_simp; (try with_reducible rfl); done)); (focus (refine (HT.out _).mono ?_; rintro e u2 ⟨rfl, rfl⟩; exact ⟨rfl, hS⟩)); simp only [Act.put, z5, z6, z7]) | (refine wpD_pure (v := ?_) rfl (fun u => ?_) ?_; rotate_left; (focus (go_simp; (try with_reducible rfl); done)); simp only [Act.put, z5, z6, z7]) | (refine wpD_pureg (v := ?_) rfl (fun u => ?_) ?_; rotate_left; (focus (go_simp; (try with_reducible rfl); done)); simp only [Act.put, z5, z6, z7]) | (refine wpD_skip rfl ?_; simp only [Act.put, z5, z6, z7]))
 apply wpD_nil
 intro wq hq
 go_wp2_with fail
 go_ret
 exact ⟨rfl, hq.bel⟩
set_option maxRecDepth 100000 in
theorem rerr_ok_8 (p : Value) (op a b lo hi : Int) (L : Value) (s : Bool) (w : World) (hr : -9223372036854775808 ≤ op ∧ op ≤ 9223372036854775807) (g : Addr) (h : vszN op = 8) (h2 : vst op = s) (hb : 0 ≤ b ∧ b < 4294967296) (hc : 64852 ≤ op ∧ op ≤ 64859) (h0 : 0 ≤ lo) (hl : lo < 2) :
 Calls Tryz.prog 50 #[.pointer (some g), inV op a b lo hi L, .bool s] w fun e w' => e = .returned (.int .i64 0) ∧ Below w.heap.size w w' := by
 obtain ⟨n, hn⟩ : ∃ n, n = vszN op := ⟨_, rfl⟩
 have HS : ∀ W, Calls Tryz.prog 5 #[.int .i64 op] W fun e w' => e = .returned (.int .i64 n) ∧ w' = W := fun W => hn ▸ rsz_any op W hr
 have HT : ∀ W, Calls Tryz.prog 17 #[.int .i64 op] W fun e w' => e = .returned (.bool (vst op)) ∧ w' = W := fun W => rst_any op W
 have h9 : n = 8 := hn.trans h
 subst h9
 have t2 : (vst op == s) = true := by rw [h2]; exact beq_self_eq_true s
 clear h2
 have q5 : decide (b < 0) = false := decide_eq_false (by omega)
 have q6 : decide (4294967295 < b) = false := decide_eq_false (by omega)
 have q3 : decide (64852 ≤ op) = true := decide_eq_true (by omega)
 have q4 : decide (op ≤ 64859) = true := decide_eq_true (by omega)
 have q7 : decide (2 ≤ lo) = false := decide_eq_false (by omega)
 generalize vst op = vs at *
 replace HS := Lib.hid HS
 replace HT := Lib.hid HT
 clear hr
 try clear hn
 go_enter Tryz.func50, Tryz.ntmps50
 go_wp2_with fail
 refine (HS.out _).mono ?_
 rintro e u ⟨rfl, rfl⟩
 obtain ⟨W, hW⟩ : ∃ W, W = w.alloc (.cells #[.int .i64 op, .int .i64 a, .int .i64 b, .int .u64 lo, .int .u64 hi, L] 25) := ⟨_, rfl⟩
 have hs : IB w w.heap.size (.cells #[.int .i64 op, .int .i64 a, .int .i64 b, .int .u64 lo, .int .u64 hi, L] 25 (0, 0)) W := ⟨hW ▸ (Below.refl _ _).alloc (Nat.le_refl _) _, hW ▸ heap_alloc_new _ _⟩
 try unfold inV
 rw [← hW]
 clear hW
 go_wp2_with fail
 refine region_do (IB w w.heap.size (.cells #[.int .i64 op, .int .i64 a, .int .i64 b, .int .u64 lo, .int .u64 hi, L] 25 (0, 0))) 36 (by kernel_rfl) (by kernel_rfl) hs.drew ?_
 simp only [zF, zE, zD, zC]
 repeat (first | (refine do_ldi rfl _ rfl _ 0 rfl (.int .i64 op) (fun u hS => hS.cell 0 rfl) ?_; simp only [Act.put, z5, z6, z7]) | (refine do_ldi rfl _ rfl _ 2 rfl (.int .i64 b) (fun u hS => hS.cell 2 rfl) ?_; simp only [Act.put, z5, z6, z7]) | (refine do_ldu rfl _ rfl _ 3 rfl (.int .u64 lo) (fun u hS => hS.cell 3 rfl) ?_; simp only [Act.put, z5, z6, z7]) | (refine wpD_callg (v := .bool vs) rfl 17 ?_ (fun u => ?_) (fun u hS => ?_) ?_; rotate_left 1; (focus (go_simp; (try with_reducible rfl); done)); (focus (refine (HT.out _).mono ?_; rintro e u2 ⟨rfl, rfl⟩; exact ⟨rfl, hS⟩)); simp only [Act.put, z5, z6, z7]) | (refine wpD_pure (v := ?_) rfl (fun u => ?_) ?_; rotate_left; (focus (go_simp; (try with_reducible rfl); done)); simp only [Act.put, z5, z6, z7]) | (refine wpD_pureg (v := ?_) rfl (fun u => ?_) ?_; rotate_left; (focus (go_simp; (try with_reducible rfl); done)); simp only [Act.put, z5, z6, z7]) | (refine wpD_skip rfl ?_; simp only [Act.put, z5, z6, z7]))
 apply wpD_nil
 intro wq hq
 go_wp2_with fail
 go_ret
 exact ⟨rfl, hq.bel⟩
end Go.Proofs.YtmfmokblmipagaaGreat
