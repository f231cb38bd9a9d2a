/-
  Texts VmP, TaR, G, TaF, Eq, New, AriHL, Open.
-/
import Derived.Test.YtmfmokblmipagaaGreatR01
import Derived.Test.YtmfmokblmipagaaGreatR02
set_option linter.unusedSimpArgs false
set_option linter.unusedVariables false
set_option maxHeartbeats 8000000
open Pl
section
namespace Go.Proofs.YtmfmokblmipagaaGreat
open Go.RowKit Pl
theorem putAt_comm (v : Vec) (s l x s' l' x' : Nat) (h : s + l ≤ 128) (h' : s' + l' ≤ 128) (hd : s' + l' ≤ s ∨ s + l ≤ s') : putAt (putAt v s l x) s' l' x' = putAt (putAt v s' l' x') s l x := by
 apply vec_ext
 intro j _
 rw [testBit_putAt _ _ _ _ _ h', testBit_putAt _ _ _ _ _ h, testBit_putAt _ _ _ _ _ h, testBit_putAt _ _ _ _ _ h']
 by_cases h1 : s ≤ j ∧ j < s + l
 ·rw [if_pos h1, if_pos h1, if_neg (by omega)]
 ·rw [if_neg h1, if_neg h1]
theorem join_step (k lo hi : Nat) (hk : k < 8) : putAt (putAt (putAt (putAt 0 0 (8 * k) lo) 64 (8 * k) hi) (8 * k) 8 (lo / 2 ^ (8 * k))) (8 * (8 + k)) 8 (hi / 2 ^ (8 * k)) = putAt (putAt 0 0 (8 * (k + 1)) lo) 64 (8 * (k + 1)) hi := by
 have e := putAt_more 0 0 (8 * k) 8 lo (by omega)
 rw [Nat.zero_add] at e
 rw [putAt_comm _ 64 (8 * k) hi (8 * k) 8 _ (by omega) (by omega) (by omega), e, show 8 * (8 + k) = 64 + 8 * k by omega, putAt_more _ _ _ _ _ (by omega)]
 rfl
set_option maxRecDepth 100000 in
theorem join_k (lo hi : Nat) (w : World) :
 Calls Tryz.prog 35 #[.agg #[.int .u64 (lo : Nat), .int .u64 (hi : Nat)]] w fun e w' => e = .returned (.agg (cells (setN (setN 0 64 0 lo) 64 1 hi))) ∧ Below w.heap.size w w' := by
 go_enter Tryz.func35, Tryz.ntmps35
 go_wp2_with fail
 rw [← cells_zero]
 obtain ⟨W, hW⟩ : ∃ W, W = ((w.alloc (.cells #[.int .u64 (lo : Nat), .int .u64 (hi : Nat)] 54)).alloc (.cells (cells 0) 28)).alloc (.cells (cells 0) 28) := ⟨_, rfl⟩
 have hB : W.heap[w.heap.size]? = some (.cells #[.int .u64 (lo : Nat), .int .u64 (hi : Nat)] 54 (0, 0)) := hW ▸ heap_alloc3_0 _ _ _ _
 have hR : W.heap[w.heap.size + 1]? = some (.cells (cells 0) 28 (0, 0)) := hW ▸ heap_alloc3_1 _ _ _ _
 have hO : W.heap[w.heap.size + 1 + 1]? = some (.cells (cells 0) 28 (0, 0)) := hW ▸ heap_alloc3_2 _ _ _ _
 have hZ : Below w.heap.size w W := hW ▸ below_alloc3 _ _ _ _
 rw [← hW]
 clear hW
 go_loopw [5] (fun iv wr => ∃ k : Nat, k ≤ 8 ∧ iv = .int .i64 (k : Int) ∧ Sets W (w.heap.size + 1 + 1) (putAt (putAt 0 0 (8 * k) lo) 64 (8 * k) hi) wr) (fun iv _ => 8 - (intOf iv).toNat)
 case atStart => exact ⟨0, Nat.zero_le _, rfl, by rw [putAt_zero _ _ _ (by omega), putAt_zero _ _ _ (by omega)]; exact Sets.refl hO⟩
 case round =>
  obtain ⟨k, hk, rfl, hs⟩ := hrel
  have hB' := (hs.other _ (show w.heap.size ≠ w.heap.size + 1 + 1 by omega)).trans hB
  have hc0 : wr.cell? ⟨w.heap.size, 0, none⟩ = some (.int .u64 (lo : Nat)) := by rw [cell_of_row wr _ 0 _ _ _ hB']; rfl
  have hc1 : wr.cell? ⟨w.heap.size, 1, none⟩ = some (.int .u64 (hi : Nat)) := by rw [cell_of_row wr _ 1 _ _ _ hB']; rfl
  by_cases hlt : k < 8
  ·have hz1 := Lib.hid (show (lo : Int) / 2 ^ (8 * k) % 256 = ((lo / 2 ^ (8 * k) % 256 : Nat) : Int) by simp)
   have hz2 := Lib.hid (show (hi : Int) / 2 ^ (8 * k) % 256 = ((hi / 2 ^ (8 * k) % 256 : Nat) : Int) by simp)
   go_wp2_with (first | ((with_reducible refine store_byte rfl _ _ rfl (w.heap.size + 1 + 1) k _ (lo / 2 ^ (8 * k)) rfl rfl _ hs.this (by omega) hz1.out ?_); intro wp hp; have hBp := (hp.other _ (show w.heap.size ≠ w.heap.size + 1 + 1 by omega)).trans hB'; have hcp : wp.cell? ⟨w.heap.size, 1, none⟩ = some (.int .u64 (hi : Nat)) := (by rw [cell_of_row wp _ 1 _ _ _ hBp]; rfl)) | (with_reducible refine store_byte rfl _ _ rfl (w.heap.size + 1 + 1) (8 + k) _ (hi / 2 ^ (8 * k)) rfl rfl _ hp.this (by omega) hz2.out ?_; intro wq hq))
   go_roundw
   case rel =>
    refine ⟨k + 1, by omega, by go_num, ?_⟩
    have := (hs.trans hp).trans hq
    rw [join_step k lo hi (by omega)] at this
    exact this
   case measure => (simp [intOf] <;> omega)
  ·obtain rfl : k = 8 := by omega
   have hR' : wr.heap[w.heap.size + 1]? = some (.cells (cells 0) 28 (0, 0)) := (hs.other _ (by omega)).trans hR
   go_wp2_with (first | (with_reducible refine load_vec rfl _ rfl _ rfl _ hs.this ?_) | (with_reducible refine store_vec rfl _ _ rfl (w.heap.size + 1) _ rfl rfl _ hR' ?_; intro wq hq))
   refine bodyPost_ret (results_cell_row rfl _ _ (w.heap.size + 1) _ _ _ _ rfl hq.this vunder rfl (vsize _)) rfl ⟨rfl, hZ.trans ((hs.below.mono (by omega)).trans (hq.below.mono (by omega)))⟩
end Go.Proofs.YtmfmokblmipagaaGreat
end
section
namespace Go.Proofs.YtmfmokblmipagaaGreat
open Go.RowKit Pl
def stepL1 (p : Nat) (i : Nat) (D D' : Option Value) : Prop := i = p ∧ D = none ∧ ∃ v, D' = some v
def valL1 (_ : Nat) (D : Option Value) : Value := D.getD undef
def checkL1 (ops : Array Oper) (n p : Nat) (order : List Nat) : Bool :=
 checkA ops n [p] order && decide (p < n) && (Region.ready .any ops (marks (Array.replicate ops.size false) order) == [p]) &&
 Region.seqB .any ops (ops.size - n) n ((marks (Array.replicate ops.size false) order).setIfInBounds p true)
theorem wpDA_more {σ : Type} {P : Program} {ops : Array Oper} {S : σ → World → Prop} : ∀ (os : List Oper) (a : Act) (K K' : Act → Prop), (∀ a, K a → K' a) → wpDA P ops S K os a → wpDA P ops S K' os a := by
 intro os
 induction os with
 | nil => intro a K K' hk h; exact hk _ h
 | cons o os ih => intro a K K' hk ⟨v, h1, h2⟩; exact ⟨v, h1, ih _ _ _ hk h2⟩
theorem region_sp1 {P : Program} {id : Nat} {Q : Exit → Act → World → Prop} {a : Act} {w : World} {l : List Oper} (S : Option Value → World → Prop) (n p : Nat) (order : List Nat) (hm : P.follows .mixedOrders = true) (hB : checkL1 l.toArray n p order = true)
 {op : Oper} (hop : l[p]? = some op) (hpn : op.guard = none) (hS : S none w.drew)
 (h : wpDA P l.toArray S (fun a' => (∀ w, S none w → ∃ v w', S (some v) w' ∧ (execOp a'.eval op).run P w = .ok (.value v) w') ∧ ∀ v w', S (some v) w' → wpList P l.toArray Q (l.drop n) (a'.put op.dst v) w') (opsAt l order) a) : (Code.region id l.toArray true).wp P Q a w := by
 simp only [checkL1, Bool.and_eq_true, decide_eq_true_eq, beq_iff_eq] at hB
 obtain ⟨⟨⟨hA, hp⟩, hr1⟩, hsq⟩ := hB
 refine region_news S (stepL1 p) valL1 none n [p] order hm hA hS ?_
 refine wpDA_more _ _ _ _ (fun a' h' => ?_) h
 refine special_one p hr1 hp (by simp) (by simpa using hop) ⟨by unfold Region.wanted; rw [hpn], fun w hw => ?_⟩ (fun D' hD => ?_)
 ·obtain ⟨v, w', h1, h2⟩ := h'.1 w hw
  exact ⟨some v, w', ⟨rfl, rfl, v, rfl⟩, h1, .inl h2⟩
 ·obtain ⟨_, _, v, rfl⟩ := hD
  exact ⟨hsq, fun w' hw' => h'.2 v w' hw'⟩
def stepL2 (p q : Nat) (i : Nat) (D D' : List Value) : Prop := (i = p ∧ D = [] ∧ ∃ v, D' = [v]) ∨ (i = q ∧ ∃ v, D = [v] ∧ ∃ u, D' = [u, v])
def valL2 (_ : Nat) (D : List Value) : Value := D.headD undef
def checkL2 (ops : Array Oper) (n p q : Nat) (order : List Nat) : Bool :=
 checkA ops n [p, q] order && decide (p ≠ q) && decide (p < n) && decide (q < n) && (Region.ready .any ops (marks (Array.replicate ops.size false) order) == [p]) && (Region.ready .any ops ((marks (Array.replicate ops.size false) order).setIfInBounds p true) == [q]) &&
 Region.seqB .any ops (ops.size - n) n (((marks (Array.replicate ops.size false) order).setIfInBounds p true).setIfInBounds q true)
theorem region_sp2 {P : Program} {id : Nat} {Q : Exit → Act → World → Prop} {a : Act} {w : World} {l : List Oper} (S : List Value → World → Prop) (n p q : Nat) (order : List Nat) (hm : P.follows .mixedOrders = true) (hB : checkL2 l.toArray n p q order = true)
 {op oq : Oper} (hop : l[p]? = some op) (hoq : l[q]? = some oq) (hpn : op.guard = none) (hqn : oq.guard = none) (hS : S [] w.drew)
 (h : wpDA P l.toArray S (fun a' => (∀ w, S [] w → ∃ v w', S [v] w' ∧ (execOp a'.eval op).run P w = .ok (.value v) w') ∧ ∀ v, (∀ w, S [v] w → ∃ u w', S [u, v] w' ∧ (execOp (a'.put op.dst v).eval oq).run P w = .ok (.value u) w') ∧
  ∀ u w', S [u, v] w' → wpList P l.toArray Q (l.drop n) ((a'.put op.dst v).put oq.dst u) w') (opsAt l order) a) : (Code.region id l.toArray true).wp P Q a w := by
 simp only [checkL2, Bool.and_eq_true, decide_eq_true_eq, beq_iff_eq] at hB
 obtain ⟨⟨⟨⟨⟨⟨hA, hpq⟩, hp⟩, hq⟩, hr1⟩, hr2⟩, hsq⟩ := hB
 refine region_news S (stepL2 p q) valL2 [] n [p, q] order hm hA hS ?_
 refine wpDA_more _ _ _ _ (fun a' h' => ?_) h
 refine special_one p hr1 hp (by simp) (by simpa using hop) ⟨by unfold Region.wanted; rw [hpn], fun w hw => ?_⟩ (fun D' hD => ?_)
 ·obtain ⟨v, w', h1, h2⟩ := h'.1 w hw
  exact ⟨[v], w', .inl ⟨rfl, rfl, v, rfl⟩, h1, .inl h2⟩
 ·rcases hD with ⟨_, _, v, rfl⟩ | ⟨h1, _⟩
  ·refine special_one q hr2 hq (by simp) (by simpa using hoq) ⟨by unfold Region.wanted; rw [hqn], fun w hw => ?_⟩ (fun D' hD => ?_)
   ·obtain ⟨u, w', h1, h2⟩ := (h'.2 v).1 w hw
    exact ⟨[u, v], w', .inr ⟨rfl, v, rfl, u, rfl⟩, h1, .inl h2⟩
   ·rcases hD with ⟨h1, _⟩ | ⟨_, x, hx, u, rfl⟩
    ·exact absurd h1 (Ne.symm hpq)
    ·obtain rfl : v = x := by simpa using hx
     exact ⟨hsq, fun w' hw' => (h'.2 v).2 u w' hw'⟩
  ·exact absurd h1 hpq
def stepC2 (C : Value → Prop) (p q : Nat) (i : Nat) (D D' : List Value) : Prop := (i = p ∧ D = [] ∧ ∃ v, C v ∧ D' = [v]) ∨ (i = q ∧ ∃ v, D = [v] ∧ ∃ u, D' = [u, v])
theorem region_cv {P : Program} {id : Nat} {Q : Exit → Act → World → Prop} {a : Act} {w : World} {l : List Oper} (S : List Value → World → Prop) (C : Value → Prop) (n p q : Nat) (ord1 ord2 last : List Nat) (hm : P.follows .mixedOrders = true) (hB : checkP l.toArray n [p, q] last [(ord1, p), (ord2, q)] = true) (hpq : p ≠ q)
 {op oq : Oper} (hop : l[p]? = some op) (hoq : l[q]? = some oq) (hpn : op.guard = none) (hqn : oq.guard = none) (hS : S [] w.drew)
 (h : wpDA P l.toArray S (fun a1 => ∃ f args, (∀ w, (execOp a1.eval op).run P w = .ok (.enter f args) w) ∧ (∀ w, S [] w → Calls P f args w (fun e w2 => ∃ v, C v ∧ S [v] w2 ∧ e = .returned v)) ∧
  ∀ v, C v → wpDA P l.toArray S (fun a2 => (∀ w, S [v] w → ∃ u w', S [u, v] w' ∧ (execOp a2.eval oq).run P w = .ok (.value u) w') ∧
   ∀ u, wpDA P l.toArray S (fun a3 => ∀ w', S [u, v] w' → wpList P l.toArray Q (l.drop n) a3 w') (opsAt l last) (a2.put oq.dst u)) (opsAt l ord2) (a1.put op.dst v)) (opsAt l ord1) a) : (Code.region id l.toArray true).wp P Q a w := by
 refine region_plan S (stepC2 C p q) valL2 [] n [p, q] last [(ord1, p), (ord2, q)] hm hB hS ?_
 refine wpDA_more _ _ _ _ (fun a1 h1 => ?_) h
 obtain ⟨f, args, hr, hc, hk⟩ := h1
 refine ⟨op, hop, ⟨by unfold Region.wanted; rw [hpn], fun w hw => ⟨w, .inr ⟨f, args, hr w, ?_⟩⟩⟩, fun D' hD => ?_⟩
 ·exact (hc w hw).mono fun e w2 ⟨v, hC, h2, he⟩ => ⟨[v], .inl ⟨rfl, rfl, v, hC, rfl⟩, h2, he⟩
 ·rcases hD with ⟨_, _, v, hC, rfl⟩ | ⟨h3, _⟩
  ·refine wpDA_more _ _ _ _ (fun a2 h2 => ?_) (hk v hC)
   refine ⟨oq, hoq, ⟨by unfold Region.wanted; rw [hqn], fun w hw => ?_⟩, fun D' hD => ?_⟩
   ·obtain ⟨u, w', h4, h5⟩ := h2.1 w hw
    exact ⟨w', .inl ⟨[u, v], .inr ⟨rfl, v, rfl, u, rfl⟩, h4, .inl h5⟩⟩
   ·rcases hD with ⟨h3, _⟩ | ⟨_, x, hx, u, rfl⟩
    ·exact absurd h3.symm hpq
    ·obtain rfl : v = x := by simpa using hx
     exact h2.2 u
  ·exact absurd h3 hpq
end Go.Proofs.YtmfmokblmipagaaGreat
end
section
namespace Go.Proofs.YtmfmokblmipagaaGreat
open Go.RowKit Pl
structure H2 (w0 : World) (a b : Vec) (u : World) : Prop where
 bel : Below w0.heap.size w0 u
 fst : u.heap[w0.heap.size]? = some (.cells (cells a) 28 (0, 0))
 snd : u.heap[w0.heap.size + 1]? = some (.cells (cells b) 28 (0, 0))
theorem H2.below {w0 u u1 : World} {a b : Vec} (h : H2 w0 a b u) (hb : Below u.heap.size u u1) : H2 w0 a b u1 :=
 ⟨h.bel.trans (hb.mono (by have := block_lt h.snd; omega)), blk_keep h.fst hb, blk_keep h.snd hb⟩
theorem H2.store {w0 u u1 : World} {a b v : Vec} {x : Obj} (h : H2 w0 a b u) (hs : Sets (u.alloc x) u.heap.size v u1) : H2 w0 a b u1 :=
 ⟨below_store h.bel (Nat.le_refl _) hs, blk_sets (blk_alloc h.fst x) hs (Nat.ne_of_lt (block_lt h.fst)), blk_sets (blk_alloc h.snd x) hs (Nat.ne_of_lt (block_lt h.snd))⟩
theorem H2.drew {w0 u : World} {a b : Vec} (h : H2 w0 a b u) : H2 w0 a b u.drew := ⟨h.bel.drew, h.fst, h.snd⟩
theorem H2.start {w w1 : World} (a b : Vec) (hb1 : Below ((w.alloc (.cells (cells a) 28)).alloc (.cells (cells b) 28)).heap.size ((w.alloc (.cells (cells a) 28)).alloc (.cells (cells b) 28)) w1) : H2 w a b w1 :=
 ⟨(((Below.refl _ _).alloc (Nat.le_refl _) _).alloc (by simp) _).trans (hb1.mono (by simp; omega)), blk_keep (heap_alloc2_old _ _ _) hb1, blk_keep (heap_alloc2_new _ _ _) hb1⟩
structure H3 (w0 : World) (a b d : Vec) (D : Nat) (u : World) : Prop where
 h2 : H2 w0 a b u
 dd : u.heap[D]? = some (.cells (cells d) 28 (0, 0))
theorem H3.below {w0 u u1 : World} {a b d : Vec} {D : Nat} (h : H3 w0 a b d D u) (hb : Below u.heap.size u u1) : H3 w0 a b d D u1 := ⟨h.h2.below hb, blk_keep h.dd hb⟩
theorem H3.drew {w0 u : World} {a b d : Vec} {D : Nat} (h : H3 w0 a b d D u) : H3 w0 a b d D u.drew := ⟨h.h2.drew, h.dd⟩
section
variable {P : Program} {ops : Array Oper} {S : World → Prop}
theorem wpD_callg {L : Act → Prop} {o : Oper} {rest : List Oper} {v : Value} {a : Act} (hg : Region.wanted o (yielded ops a.tmps) = true) (f : FuncId) (args : Array Value)
 (h : ∀ w, (execOp a.eval o).run P w = .ok (.enter f args) w) (hc : ∀ w, S w → Calls P f args w (fun e w2 => e = .returned v ∧ S w2))
 (hr : wpD P ops S L rest (a.put o.dst v)) : wpD P ops S L (o :: rest) a :=
 ⟨v, .inl ⟨hg, fun w hS => ⟨w, .inr (.inr ⟨f, args, h w, hc w hS⟩)⟩⟩, hr⟩
theorem wpD_hereg {L : Act → Prop} {o : Oper} {rest : List Oper} {v : Value} {a : Act} (hg : Region.wanted o (yielded ops a.tmps) = true) (h : ∀ w, S w → (execOp a.eval o).run P w = .ok (.value v) w)
 (hr : wpD P ops S L rest (a.put o.dst v)) : wpD P ops S L (o :: rest) a :=
 ⟨v, .inl ⟨hg, fun w hS => ⟨w, .inl ⟨h w hS, hS⟩⟩⟩, hr⟩
end
end Go.Proofs.YtmfmokblmipagaaGreat
end
section
namespace Go.Proofs.YtmfmokblmipagaaGreat
open Go.RowKit Pl
theorem ones_8 (w : World) : Calls Tryz.prog 59 #[.int .i64 8] w fun e w' => e = .returned (.int .u64 255) ∧ w' = w := by
 go_enter Tryz.func59, Tryz.ntmps59
 go_wp2
 go_ret
 exact ⟨rfl, rfl⟩
theorem ones_16 (w : World) : Calls Tryz.prog 59 #[.int .i64 16] w fun e w' => e = .returned (.int .u64 65535) ∧ w' = w := by
 go_enter Tryz.func59, Tryz.ntmps59
 go_wp2
 go_ret
 exact ⟨rfl, rfl⟩
theorem ones_32 (w : World) : Calls Tryz.prog 59 #[.int .i64 32] w fun e w' => e = .returned (.int .u64 4294967295) ∧ w' = w := by
 go_enter Tryz.func59, Tryz.ntmps59
 go_wp2
 go_ret
 exact ⟨rfl, rfl⟩
theorem ones_64 (w : World) : Calls Tryz.prog 59 #[.int .i64 64] w fun e w' => e = .returned (.int .u64 18446744073709551615) ∧ w' = w := by
 go_enter Tryz.func59, Tryz.ntmps59
 go_wp2
 go_ret
 exact ⟨rfl, rfl⟩
theorem ldop_1 (w : World) : Calls Tryz.prog 43 #[.int .i64 1] w fun e w' => e = .returned (.int .i64 49) ∧ w' = w := by
 go_enter Tryz.func43, Tryz.ntmps43
 go_wp2
 go_ret
 exact ⟨rfl, rfl⟩
theorem stop_1 (w : World) : Calls Tryz.prog 82 #[.int .i64 1] w fun e w' => e = .returned (.int .i64 60) ∧ w' = w := by
 go_enter Tryz.func82, Tryz.ntmps82
 go_wp2
 go_ret
 exact ⟨rfl, rfl⟩
theorem ldop_2 (w : World) : Calls Tryz.prog 43 #[.int .i64 2] w fun e w' => e = .returned (.int .i64 51) ∧ w' = w := by
 go_enter Tryz.func43, Tryz.ntmps43
 go_wp2
 go_ret
 exact ⟨rfl, rfl⟩
theorem stop_2 (w : World) : Calls Tryz.prog 82 #[.int .i64 2] w fun e w' => e = .returned (.int .i64 61) ∧ w' = w := by
 go_enter Tryz.func82, Tryz.ntmps82
 go_wp2
 go_ret
 exact ⟨rfl, rfl⟩
theorem ldop_4 (w : World) : Calls Tryz.prog 43 #[.int .i64 4] w fun e w' => e = .returned (.int .i64 53) ∧ w' = w := by
 go_enter Tryz.func43, Tryz.ntmps43
 go_wp2
 go_ret
 exact ⟨rfl, rfl⟩
theorem stop_4 (w : World) : Calls Tryz.prog 82 #[.int .i64 4] w fun e w' => e = .returned (.int .i64 62) ∧ w' = w := by
 go_enter Tryz.func82, Tryz.ntmps82
 go_wp2
 go_ret
 exact ⟨rfl, rfl⟩
theorem ldop_8 (w : World) : Calls Tryz.prog 43 #[.int .i64 8] w fun e w' => e = .returned (.int .i64 41) ∧ w' = w := by
 go_enter Tryz.func43, Tryz.ntmps43
 go_wp2
 go_ret
 exact ⟨rfl, rfl⟩
theorem stop_8 (w : World) : Calls Tryz.prog 82 #[.int .i64 8] w fun e w' => e = .returned (.int .i64 55) ∧ w' = w := by
 go_enter Tryz.func82, Tryz.ntmps82
 go_wp2
 go_ret
 exact ⟨rfl, rfl⟩
def rep8_1 : List Int := [0, 1, 257, 65793, 16843009, 4311810305, 1103823438081, 282578800148737, 72340172838076673]
theorem rep_8_1 (w : World) : Calls Tryz.prog 55 #[.int .i64 8, .int .u64 1] w fun e w' => e = .returned (.int .u64 72340172838076673) ∧ w' = w := by
 go_enter Tryz.func55, Tryz.ntmps55
 go_wp2_with fail
 go_loopw [5, 6] (fun nv av wr => ∃ i : Nat, i ≤ 8 ∧ nv = .int .u64 (rep8_1.getD i 0) ∧ av = .int .i64 (8 * i : Nat) ∧ wr = w) (fun _ av _ => 64 - (intOf av).toNat)
 case atStart => exact ⟨0, by decide, rfl, rfl, rfl⟩
 case round =>
  obtain ⟨i, hi, rfl, rfl, rfl⟩ := hrel
  obtain rfl | rfl | rfl | rfl | rfl | rfl | rfl | rfl | rfl : i = 0 ∨ i = 1 ∨ i = 2 ∨ i = 3 ∨ i = 4 ∨ i = 5 ∨ i = 6 ∨ i = 7 ∨ i = 8 := by omega
  ·go_wp2
   refine ⟨⟨1, by decide, by kernel_rfl, by kernel_rfl, by first | rfl | trivial⟩, by decide⟩
  ·go_wp2
   refine ⟨⟨2, by decide, by kernel_rfl, by kernel_rfl, by first | rfl | trivial⟩, by decide⟩
  ·go_wp2
   refine ⟨⟨3, by decide, by kernel_rfl, by kernel_rfl, by first | rfl | trivial⟩, by decide⟩
  ·go_wp2
   refine ⟨⟨4, by decide, by kernel_rfl, by kernel_rfl, by first | rfl | trivial⟩, by decide⟩
  ·go_wp2
   refine ⟨⟨5, by decide, by kernel_rfl, by kernel_rfl, by first | rfl | trivial⟩, by decide⟩
  ·go_wp2
   refine ⟨⟨6, by decide, by kernel_rfl, by kernel_rfl, by first | rfl | trivial⟩, by decide⟩
  ·go_wp2
   refine ⟨⟨7, by decide, by kernel_rfl, by kernel_rfl, by first | rfl | trivial⟩, by decide⟩
  ·go_wp2
   refine ⟨⟨8, by decide, by kernel_rfl, by kernel_rfl, by first | rfl | trivial⟩, by decide⟩
  ·go_wp2
   go_ret
   exact ⟨by kernel_rfl, rfl⟩
def rep16_1 : List Int := [0, 1, 65537, 4295032833, 281479271743489]
theorem rep_16_1 (w : World) : Calls Tryz.prog 55 #[.int .i64 16, .int .u64 1] w fun e w' => e = .returned (.int .u64 281479271743489) ∧ w' = w := by
 go_enter Tryz.func55, Tryz.ntmps55
 go_wp2_with fail
 go_loopw [5, 6] (fun nv av wr => ∃ i : Nat, i ≤ 4 ∧ nv = .int .u64 (rep16_1.getD i 0) ∧ av = .int .i64 (16 * i : Nat) ∧ wr = w) (fun _ av _ => 64 - (intOf av).toNat)
 case atStart => exact ⟨0, by decide, rfl, rfl, rfl⟩
 case round =>
  obtain ⟨i, hi, rfl, rfl, rfl⟩ := hrel
  obtain rfl | rfl | rfl | rfl | rfl : i = 0 ∨ i = 1 ∨ i = 2 ∨ i = 3 ∨ i = 4 := by omega
  ·go_wp2
   refine ⟨⟨1, by decide, by kernel_rfl, by kernel_rfl, by first | rfl | trivial⟩, by decide⟩
  ·go_wp2
   refine ⟨⟨2, by decide, by kernel_rfl, by kernel_rfl, by first | rfl | trivial⟩, by decide⟩
  ·go_wp2
   refine ⟨⟨3, by decide, by kernel_rfl, by kernel_rfl, by first | rfl | trivial⟩, by decide⟩
  ·go_wp2
   refine ⟨⟨4, by decide, by kernel_rfl, by kernel_rfl, by first | rfl | trivial⟩, by decide⟩
  ·go_wp2
   go_ret
   exact ⟨by kernel_rfl, rfl⟩
def rep32_1 : List Int := [0, 1, 4294967297]
theorem rep_32_1 (w : World) : Calls Tryz.prog 55 #[.int .i64 32, .int .u64 1] w fun e w' => e = .returned (.int .u64 4294967297) ∧ w' = w := by
 go_enter Tryz.func55, Tryz.ntmps55
 go_wp2_with fail
 go_loopw [5, 6] (fun nv av wr => ∃ i : Nat, i ≤ 2 ∧ nv = .int .u64 (rep32_1.getD i 0) ∧ av = .int .i64 (32 * i : Nat) ∧ wr = w) (fun _ av _ => 64 - (intOf av).toNat)
 case atStart => exact ⟨0, by decide, rfl, rfl, rfl⟩
 case round =>
  obtain ⟨i, hi, rfl, rfl, rfl⟩ := hrel
  obtain rfl | rfl | rfl : i = 0 ∨ i = 1 ∨ i = 2 := by omega
  ·go_wp2
   refine ⟨⟨1, by decide, by kernel_rfl, by kernel_rfl, by first | rfl | trivial⟩, by decide⟩
  ·go_wp2
   refine ⟨⟨2, by decide, by kernel_rfl, by kernel_rfl, by first | rfl | trivial⟩, by decide⟩
  ·go_wp2
   go_ret
   exact ⟨by kernel_rfl, rfl⟩
def rep8_128 : List Int := [0, 128, 32896, 8421504, 2155905152, 551911719040, 141289400074368, 36170086419038336, 9259542123273814144]
theorem rep_8_128 (w : World) : Calls Tryz.prog 55 #[.int .i64 8, .int .u64 128] w fun e w' => e = .returned (.int .u64 9259542123273814144) ∧ w' = w := by
 go_enter Tryz.func55, Tryz.ntmps55
 go_wp2_with fail
 go_loopw [5, 6] (fun nv av wr => ∃ i : Nat, i ≤ 8 ∧ nv = .int .u64 (rep8_128.getD i 0) ∧ av = .int .i64 (8 * i : Nat) ∧ wr = w) (fun _ av _ => 64 - (intOf av).toNat)
 case atStart => exact ⟨0, by decide, rfl, rfl, rfl⟩
 case round =>
  obtain ⟨i, hi, rfl, rfl, rfl⟩ := hrel
  obtain rfl | rfl | rfl | rfl | rfl | rfl | rfl | rfl | rfl : i = 0 ∨ i = 1 ∨ i = 2 ∨ i = 3 ∨ i = 4 ∨ i = 5 ∨ i = 6 ∨ i = 7 ∨ i = 8 := by omega
  ·go_wp2
   refine ⟨⟨1, by decide, by kernel_rfl, by kernel_rfl, by first | rfl | trivial⟩, by decide⟩
  ·go_wp2
   refine ⟨⟨2, by decide, by kernel_rfl, by kernel_rfl, by first | rfl | trivial⟩, by decide⟩
  ·go_wp2
   refine ⟨⟨3, by decide, by kernel_rfl, by kernel_rfl, by first | rfl | trivial⟩, by decide⟩
  ·go_wp2
   refine ⟨⟨4, by decide, by kernel_rfl, by kernel_rfl, by first | rfl | trivial⟩, by decide⟩
  ·go_wp2
   refine ⟨⟨5, by decide, by kernel_rfl, by kernel_rfl, by first | rfl | trivial⟩, by decide⟩
  ·go_wp2
   refine ⟨⟨6, by decide, by kernel_rfl, by kernel_rfl, by first | rfl | trivial⟩, by decide⟩
  ·go_wp2
   refine ⟨⟨7, by decide, by kernel_rfl, by kernel_rfl, by first | rfl | trivial⟩, by decide⟩
  ·go_wp2
   refine ⟨⟨8, by decide, by kernel_rfl, by kernel_rfl, by first | rfl | trivial⟩, by decide⟩
  ·go_wp2
   go_ret
   exact ⟨by kernel_rfl, rfl⟩
theorem tops_8 (w : World) : Calls Tryz.prog 23 #[.int .i64 8] w fun e w' => e = .returned (.int .u64 9259542123273814144) ∧ w' = w := by
 have H := Lib.hid (fun W => rep_8_128 W)
 go_enter Tryz.func23, Tryz.ntmps23
 go_wp2_with (go_at_call 55; (with_reducible refine (H.out _).mono ?_); rintro e u ⟨rfl, rfl⟩)
 go_ret
 exact ⟨rfl, rfl⟩
end Go.Proofs.YtmfmokblmipagaaGreat
end
section
namespace Go.Proofs.YtmfmokblmipagaaGreat
open Go.RowKit Pl
end Go.Proofs.YtmfmokblmipagaaGreat
end
section
namespace Go.Proofs.YtmfmokblmipagaaGreat
open Go.RowKit Pl
structure N1 (w0 : World) (l : List (Nat × Vec)) (X : Vec) (D : Option (Nat × Bool)) (u : World) : Prop where
 bel : Below w0.heap.size w0 u
 hold : ∀ q ∈ l, u.heap[q.1]? = some (.cells (cells q.2) 28 (0, 0))
 new : ∀ x st, D = some (x, st) → u.heap[x]? = some (.cells (cells (bif st then X else 0)) 28 (0, 0)) ∧ w0.heap.size ≤ x ∧ ∀ q ∈ l, q.1 ≠ x
theorem N1.below {w0 u u1 : World} {l : List (Nat × Vec)} {X : Vec} {D : Option (Nat × Bool)} (h : N1 w0 l X D u) (hb : Below u.heap.size u u1) : N1 w0 l X D u1 :=
 ⟨h.bel.trans (hb.mono h.bel.size), fun q hq => blk_keep (h.hold q hq) hb, fun x st hx => ⟨blk_keep (h.new x st hx).1 hb, (h.new x st hx).2⟩⟩
theorem N1.drew {w0 u : World} {l : List (Nat × Vec)} {X : Vec} {D : Option (Nat × Bool)} (h : N1 w0 l X D u) : N1 w0 l X D u.drew := ⟨h.bel.drew, h.hold, h.new⟩
theorem N1.alloc {w0 u : World} {l : List (Nat × Vec)} {X : Vec} {D : Option (Nat × Bool)} (h : N1 w0 l X D u) : N1 w0 l X (some (u.heap.size, false)) (u.alloc (.cells (cells 0) 28)) :=
 ⟨h.bel.alloc h.bel.size _, fun q hq => blk_alloc (h.hold q hq) _, fun x st hx => by
  obtain ⟨rfl, rfl⟩ : u.heap.size = x ∧ false = st := by simpa using hx
  exact ⟨heap_alloc_new _ _, h.bel.size, fun q hq => Nat.ne_of_lt (block_lt (h.hold q hq))⟩⟩
theorem N1.store {w0 u u1 : World} {l : List (Nat × Vec)} {X : Vec} {x : Nat} (h : N1 w0 l X (some (x, false)) u) (hs : Sets u x X u1) : N1 w0 l X (some (x, true)) u1 := by
 obtain ⟨h1, h2, h3⟩ := h.new x false rfl
 refine ⟨h.bel.trans (hs.below.mono h2), fun q hq => blk_sets (h.hold q hq) hs (h3 q hq), fun y st hy => ?_⟩
 obtain ⟨rfl, rfl⟩ : x = y ∧ true = st := by simpa using hy
 exact ⟨hs.this, h2, h3⟩
theorem N1.start {w0 u : World} {l : List (Nat × Vec)} (X : Vec) (hb : Below w0.heap.size w0 u) (hh : ∀ q ∈ l, u.heap[q.1]? = some (.cells (cells q.2) 28 (0, 0))) : N1 w0 l X none u :=
 ⟨hb, hh, fun x st hx => by cases hx⟩
end Go.Proofs.YtmfmokblmipagaaGreat
end
section
namespace Go.Proofs.YtmfmokblmipagaaGreat
open Go.RowKit Pl
abbrev HL (w0 : World) (l : List (Nat × Vec)) (u : World) : Prop := N1 w0 l 0 none u
theorem HL.start (w : World) : HL w [] w := N1.start 0 (Below.refl _ _) (fun q hq => by cases hq)
theorem HL.push {w0 u u1 : World} {l : List (Nat × Vec)} {v : Vec} {x : Obj} (h : HL w0 l u) (hs : Sets (u.alloc x) u.heap.size v u1) : HL w0 ((u.heap.size, v) :: l) u1 :=
 N1.start 0 (below_store h.bel (Nat.le_refl _) hs) (fun q hq => by
  rcases List.mem_cons.1 hq with rfl | hq
  ·exact hs.this
  ·exact blk_sets (blk_alloc (h.hold q hq) x) hs (Nat.ne_of_lt (block_lt (h.hold q hq))))
theorem HL.alloc {w0 u : World} {l : List (Nat × Vec)} (h : HL w0 l u) (x : Obj) : HL w0 l (u.alloc x) :=
 N1.start 0 (h.bel.alloc h.bel.size _) (fun q hq => blk_alloc (h.hold q hq) _)
theorem HL.three (w : World) (a b c : Vec) : HL w [(w.heap.size + 2, c), (w.heap.size + 1, b), (w.heap.size, a)] (((w.alloc (.cells (cells a) 28)).alloc (.cells (cells b) 28)).alloc (.cells (cells c) 28)) := N1.start 0 (below_alloc3 _ _ _ _) (by
 simp only [List.mem_cons, List.not_mem_nil, or_false, forall_eq_or_imp, forall_eq]
 exact ⟨heap_alloc3_2 _ _ _ _, heap_alloc3_1 _ _ _ _, heap_alloc3_0 _ _ _ _⟩)
theorem HL.two (w : World) (a b : Vec) : HL w [(w.heap.size + 1, b), (w.heap.size, a)] ((w.alloc (.cells (cells a) 28)).alloc (.cells (cells b) 28)) := N1.start 0 (((Below.refl _ _).alloc (Nat.le_refl _) _).alloc (by simp) _) (by
 simp only [List.mem_cons, List.not_mem_nil, or_false, forall_eq_or_imp, forall_eq]
 exact ⟨heap_alloc2_new _ _ _, heap_alloc2_old _ _ _⟩)
end Go.Proofs.YtmfmokblmipagaaGreat
end
section
set_option maxRecDepth 100000
namespace Go.Proofs.YtmfmokblmipagaaGreat
open Go.RowKit Go.ChangeShapes Go.WideShapes Go.ChangeAt Pl
theorem vec_of_ints (f : Nat → Nat) : ∃ v : Vec, ∀ i, i < 16 → getN v 8 i = f i % 256 :=
 ⟨buildOn 0 8 f 16, fun i hi => by rw [getN_buildOn _ _ _ _ _ (by decide), if_pos hi]⟩
theorem open_vec {H : Type} {enc : TypeId × Value → H} {w : World} {spare : Nat → Bool} {held : Bool} {base b0 : Nat} {r : Reach} {v : Value} {d : DataW H} {p : List MemPlace}
 (hv : Value.okWide Tryz.prog w r b0 28 v) (h : DataW.Trod enc Tryz.prog w base spare held 28 v d p) : ∃ u : Vec, v = .agg (cells u) := by
 have hu : Tryz.prog.underlying 5 = some (.int .u8) := by kernel_rfl
 have hc1 : Tryz.prog.cellsOf 5 = 1 := by kernel_rfl
 have hc16 : Tryz.prog.cellsOf 28 = 16 := by kernel_rfl
 unfold Value.okWide at hv
 rw [vunder] at hv
 obtain ⟨cs, rfl, hsz, _⟩ := hv
 rw [hc16] at hsz
 obtain ⟨fuel, hf⟩ := h
 obtain ⟨xs, m, _, _, _, hl, hx⟩ := DataW.trod_array vunder hf
 simp only [Value.cells, hc1, Nat.mul_one] at hx
 have hcell : ∀ i, i < 16 → ∃ a : Nat, a < 256 ∧ cs[i]? = some (.int .u8 (a : Int)) := fun i hi => by
  have h1 := hx i hi
  have hci : (cs.toList.drop i).take 1 = [cs[i]'(by omega)] := by
   rw [List.drop_eq_getElem_cons (by simpa using (by omega : i < cs.size))]
   simp
  rw [hci, List.getElem?_eq_getElem (by omega)] at h1
  obtain ⟨a, e, _, wf⟩ := DataW.trod_int hu h1
  simp at e
  have hb := bounds_u8 wf
  refine ⟨a.toNat, by omega, ?_⟩
  rw [Array.getElem?_eq_getElem (by omega), e, Int.toNat_of_nonneg hb.1]
 obtain ⟨u, hu2⟩ := vec_of_ints (fun i => match cs[i]? with | some (.int _ a) => a.toNat | _ => 0)
 refine ⟨u, ?_⟩
 refine congrArg Value.agg ?_
 apply Array.ext_getElem?
 intro i
 by_cases hi : i < 16
 ·obtain ⟨a, ha, hca⟩ := hcell i hi
  have h2 := hu2 i hi
  rw [hca] at h2
  rw [getElem?_cells u i hi, hca]
  unfold byteV
  have h3 : bitsAt u (8 * i) 8 = a := by
   have : getN u 8 i = a := by rw [h2]; simp; omega
   exact this
  rw [h3]
 ·rw [Array.getElem?_eq_none (by omega), Array.getElem?_eq_none (by simp; omega)]
theorem Tryz.own : ownKnob Tryz.prog.godebug = none := by kernel_rfl
theorem bounds_i64 {x : Int} (h : (Lit.int .i64 x).wf = true) : -9223372036854775808 ≤ x ∧ x ≤ 9223372036854775807 := by
 simp [Lit.wf, IntKind.min, IntKind.max, IntKind.signed, IntKind.bits] at h
 exact ⟨by omega, by omega⟩
theorem bounds_u64 {x : Int} (h : (Lit.int .u64 x).wf = true) : 0 ≤ x ∧ x < 18446744073709551616 := by
 simp [Lit.wf, IntKind.min, IntKind.max, IntKind.signed, IntKind.bits] at h
 exact ⟨by omega, by omega⟩
theorem bounds_u32 {x : Int} (h : (Lit.int .u32 x).wf = true) : 0 ≤ x ∧ x < 4294967296 := by
 simp [Lit.wf, IntKind.min, IntKind.max, IntKind.signed, IntKind.bits] at h
 exact ⟨by omega, by omega⟩
theorem bounds_u8 {x : Int} (h : (Lit.int .u8 x).wf = true) : 0 ≤ x ∧ x < 256 := by
 simp [Lit.wf, IntKind.min, IntKind.max, IntKind.signed, IntKind.bits] at h
 exact ⟨by omega, by omega⟩
end Go.Proofs.YtmfmokblmipagaaGreat
end
