/-
  The reference's memory: Clone, Peek, Poke, Grow.
-/
import Derived.Test.YtlcndenbnokcjaaMemRL
import Derived.Test.YtlcndenbnokcjaaMemB
import Derived.Test.YtlcndenbnokcjaaMemM
set_option linter.unusedSimpArgs false
set_option linter.unusedVariables false
namespace Go.Proofs.Ytlcndenbnokcjaa
open Go.RowKit Pl

theorem rclone_nil (w : World) :
    Calls Try.prog 22 #[.pointer none] w fun e w' => e = .returned (.pointer none) ∧ w' = w := by
  go_enter Try.func22, Try.ntmps22
  go_wp2
  go_ret
  exact ⟨rfl, rfl⟩
theorem cell_new {w : World} (xs : Array Value) (T : TypeId) (i : Nat) (v : Value) (h : xs[i]? = some v) : (w.alloc (.cells xs T)).cell? ⟨w.heap.size, i, none⟩ = some v := by
  rw [cell_of_row _ w.heap.size i _ _ _ (heap_alloc_new _ _)]; exact h
theorem fresh_cloneR {w w1 : World} {o : MObj} (h : MemAt w o) (X : Obj) {q1 : Option Nat} {c1 : Nat} (hX : X = .cells #[.slice none 0 0, .int .i64 o.most] 88) (g : Grown (w.alloc X).drew w1 none q1 o.n c1 o.β) :
    w1.cell? ⟨w.heap.size, 0, none⟩ = some (.slice none 0 0) ∧ w1.frozen? ⟨w.heap.size, 0, none⟩ = false ∧
    Fresh w (w1.setCell ⟨w.heap.size, 0, none⟩ (.slice (headOf q1) o.n c1)) ⟨88, w.heap.size, q1, o.n, c1, o.β, o.most⟩ 88 o.n o.β o.most := by
  have hk : Keep (fun _ => False) (w.alloc X).drew w1 := g.keep.mono (fun k _ hk => by cases hk)
  have hsz : (w.alloc X).drew.heap.size = w.heap.size + 1 := by show (w.alloc X).heap.size = _; simp
  have hb : Below w.heap.size w w1 := Keep.below (B := w.heap.size) (Below.drew ((Below.refl _ _).alloc (Nat.le_refl _) _)) hk (by omega) (fun k h => h.elim)
  have hobj : w1.heap[w.heap.size]? = some (.cells #[.slice none 0 0, .int .i64 o.most] 88 (0, 0)) := hk.get (by show (w.alloc X).heap[w.heap.size]? = _; rw [heap_alloc_new, hX]) (fun h => h)
  have hq : ∀ b, q1 = some b → w.heap.size + 1 ≤ b := fun b hb2 => by
    rcases g.new with e | ⟨b1, e, h1⟩
    · rw [e] at hb2; cases hb2
    · rw [e] at hb2; cases hb2; omega
  have hn : q1 ≠ some w.heap.size := fun e => by have := hq _ e; omega
  have hset : Keep (fun k => k = w.heap.size) w1 (w1.setCell ⟨w.heap.size, 0, none⟩ (.slice (headOf q1) o.n c1)) := Keep.setCell (S := fun k => k = w.heap.size) (Keep.refl _ w1) (.inl rfl) _
  refine ⟨by rw [cell_of_row w1 w.heap.size 0 _ _ _ hobj]; rfl, frozen_of_row w1 w.heap.size 0 _ _ hobj, ⟨⟨?_, ?_, h.pages, h.most, hn⟩, hb.trans (Keep.below (B := w.heap.size) (Below.refl _ _) hset hb.size (fun k hk => Nat.le_of_eq hk.symm)), ?_, rfl, rfl, fun _ _ => rfl, rfl⟩⟩
  · show (w1.setCell _ _).heap[w.heap.size]? = _
    rw [heap_setCell_same _ _ _ _ _ _ hobj]; rfl
  · exact g.row.keep hset (fun b hb2 e => hn (by rw [hb2, e]))
  · rintro k (rfl | hk2)
    · exact Nat.le_refl _
    · have := hq k hk2; omega
set_option maxRecDepth 100000 in
set_option maxHeartbeats 2000000 in
theorem rclone_k (o : MObj) (w : World) (h : MemAt w o) :
    Calls Try.prog 22 #[.pointer (some ⟨o.p, 0, none⟩)] w fun e w' => ∃ o1, e = .returned (.pointer (some ⟨o1.p, 0, none⟩)) ∧ Fresh w w' o1 88 o.n o.β o.most := by
  have hc1 := h.c1
  obtain ⟨X, hX⟩ : ∃ X : Obj, X = .cells #[.slice none 0 0, .int .i64 o.most] 88 := ⟨_, rfl⟩
  have hd : MemAt (w.alloc X).drew o := (h.keep (S := fun _ => False) ((Keep.refl _ w).alloc X) (fun _ _ h => h)).drew
  obtain ⟨q1, c1, w1, hrun, hg⟩ := app_nil (w.alloc X).drew 48 _ o.n o.β (BView.row hd.row).src hd.row.lt (by have := h.size; omega)
  obtain ⟨d0, d1, hf⟩ := fresh_cloneR h X hX hg
  have hc0 := hd.c0
  have n0 : (w.alloc X).drew.cell? ⟨w.heap.size, 0, none⟩ = some (.slice none 0 0) := by rw [hX]; exact cell_new _ _ 0 _ rfl
  have HF := Lib.hid hf
  have HRUN := Lib.hid hrun
  have HX := Lib.hid hX.symm
  clear hrun hd hg hf hX h
  go_enter Try.func22, Try.ntmps22
  go_wp2
  rw [HX.out]
  go_region_law (refine step_app rfl (.tmp 16) (.tmp 20) 48 48 rfl _ _ (by rfl) (by rfl) _ _ HRUN.out ?_)
  all_goals
    go_wp2
    go_ret
    exact ⟨_, rfl, HF.out⟩

theorem rpeek_nil (w : World) (at_ m : Value) :
    Calls Try.prog 48 #[.pointer none, at_, m] w fun e w' => e = .returned (.tuple #[.slice none 0 0, .int .i64 2]) ∧ w' = w := by
  go_enter Try.func48, Try.ntmps48
  go_wp2
  go_ret2
  exact ⟨rfl, rfl⟩
theorem rpeek_err (o : MObj) (w : World) (h : MemAt w o) (at_ m : Int) (hl : -9223372036854775808 ≤ at_ ∧ at_ ≤ 9223372036854775807) (hm : -9223372036854775808 ≤ m ∧ m ≤ 9223372036854775807) (he : peekE o.n at_ m ≠ 0) :
    Calls Try.prog 48 #[.pointer (some ⟨o.p, 0, none⟩), .int .i64 at_, .int .i64 m] w fun e w' => e = .returned (.tuple #[.slice none 0 0, .int .i64 (peekE o.n at_ m)]) ∧ w' = w := by
  by_cases c1 : at_ < 0 ∨ m < 0 ∨ 4096 < m
  · have e1 : peekE o.n at_ m = 1 := by unfold peekE; rw [if_pos c1]
    rw [e1]
    clear e1 he h
    by_cases c2 : at_ < 0
    · go_enter Try.func48, Try.ntmps48
      go_wp2
      go_ret2
      exact ⟨rfl, rfl⟩
    by_cases c3 : m < 0
    · go_enter Try.func48, Try.ntmps48
      go_wp2
      go_ret2
      exact ⟨rfl, rfl⟩
    · replace c1 : 4096 < m := by omega
      go_enter Try.func48, Try.ntmps48
      go_wp2
      go_ret2
      exact ⟨rfl, rfl⟩
  · have c2 : ¬ at_ + m ≤ o.n := fun c => he (by unfold peekE; rw [if_neg c1, if_pos c])
    have e1 : peekE o.n at_ m = 23 := by unfold peekE; rw [if_neg c1, if_neg c2]
    rw [e1]
    obtain ⟨a, rfl⟩ := Int.eq_ofNat_of_zero_le (show 0 ≤ at_ by omega)
    obtain ⟨k, rfl⟩ := Int.eq_ofNat_of_zero_le (show 0 ≤ m by omega)
    have hw := rfar_z o w h a k true (by omega) (by omega) (by omega) (by rw [decide_eq_false (by simp; omega)]; rfl)
    clear e1 he h
    go_enter Try.func48, Try.ntmps48
    go_wp2_with (go_at_call 56; (with_reducible refine hw.mono ?_); rintro e u ⟨rfl, rfl⟩)
    go_ret2
    exact ⟨rfl, rfl⟩

set_option maxRecDepth 100000 in
theorem rpeek_A (o : MObj) (w : World) (h : MemAt w o) (hq : o.q = none) :
    Calls Try.prog 48 #[.pointer (some ⟨o.p, 0, none⟩), .int .i64 0, .int .i64 0] w fun e w' => ∃ v, e = .returned (.tuple #[v, .int .i64 0]) ∧ Peeked w w' v 0 (fun j => o.β (0 + j)) := by
  have hr := h.row
  rw [hq] at hr
  obtain ⟨hr1, hr2⟩ := hr
  have hc0 := h.c0
  rw [hq, hr1, hr2, show headOf none = none from rfl] at hc0
  have hw := rfar_z o w h 0 0 false (by decide) (by decide) (by decide) (by rw [decide_eq_true (by simp)]; rfl)
  replace hw : Calls Try.prog 56 #[.pointer (some ⟨o.p, 0, none⟩), .int .u64 0, .int .i64 0] w fun e w' => e = .returned (.bool false) ∧ w' = w := hw
  clear h
  go_enter Try.func48, Try.ntmps48
  go_wp2_with (go_at_call 56; (with_reducible refine hw.mono ?_); rintro e u ⟨rfl, rfl⟩)
  go_ret2
  exact ⟨_, rfl, Peeked.nil _ _⟩
set_option maxRecDepth 100000 in
theorem rpeek_B (o : MObj) (w : World) (h : MemAt w o) (a : Nat) (hin : a ≤ o.n) (b : Nat) (hq : o.q = some b) (hc : o.c = a) :
    Calls Try.prog 48 #[.pointer (some ⟨o.p, 0, none⟩), .int .i64 (a : Nat), .int .i64 0] w fun e w' => ∃ v, e = .returned (.tuple #[v, .int .i64 0]) ∧ Peeked w w' v 0 (fun j => o.β (a + j)) := by
  have hz := h.size
  have hc0 := h.c0
  rw [hq] at hc0
  have hle := h.row.le
  rw [hc, show headOf (some b) = some ⟨b, 0, none⟩ from rfl] at hc0
  have hw := rfar_z o w h a 0 false (by omega) (by decide) (by decide) (by rw [decide_eq_true (by simpa using hin)]; rfl)
  clear hc h
  go_enter Try.func48, Try.ntmps48
  go_wp2_with (go_at_call 56; (with_reducible refine hw.mono ?_); rintro e u ⟨rfl, rfl⟩)
  go_ret2
  exact ⟨_, rfl, Peeked.nil _ _⟩
set_option maxRecDepth 100000 in
theorem rpeek_C (o : MObj) (w : World) (h : MemAt w o) (a k : Nat) (hk : k ≤ 4096) (hin : a + k ≤ o.n) (b : Nat) (hq : o.q = some b) (hc : ¬ o.c = a) :
    Calls Try.prog 48 #[.pointer (some ⟨o.p, 0, none⟩), .int .i64 (a : Nat), .int .i64 (k : Nat)] w fun e w' => ∃ v, e = .returned (.tuple #[v, .int .i64 0]) ∧ Peeked w w' v k (fun j => o.β (a + j)) := by
  have hz := h.size
  have hr := h.row
  have hc0 := h.c0
  rw [hq] at hr hc0
  have hle := h.row.le
  rw [show headOf (some b) = some ⟨b, 0, none⟩ from rfl] at hc0
  have hw := rfar_z o w h a k false (by omega) (by omega) (by omega) (by rw [decide_eq_true (by simpa using hin)]; rfl)
  have hv : BView w (.slice (some ⟨b, a, none⟩) k (o.c - a)) k (fun j => o.β (a + j)) := BView.piece hr a k _ hin
  obtain ⟨q1, c1, w1, hrun, hg⟩ := app_nil w 48 _ _ _ hv.src hv.lt (by omega)
  have hp := Peeked.of hg
  rw [show Value.slice (some ⟨b, a, none⟩) k (o.c - a) = Value.slice (some ⟨b, a, none⟩) (a + k - a) (o.c - a) by rw [Nat.add_sub_cancel_left]] at hrun
  clear hg hv h hr
  go_enter Try.func48, Try.ntmps48
  go_wp2_with (first | (go_at_call 56; (with_reducible refine hw.mono ?_); rintro e u ⟨rfl, rfl⟩) | (at_builtin; go_loud (refine wpList_app rfl _ _ _ _ rfl (.slice none 0 0) (.slice (some ⟨b, a, none⟩) (a + k - a) (o.c - a)) rfl rfl _ _ hrun ?_)))
  go_ret2
  exact ⟨_, rfl, hp⟩
theorem rpeek_k (o : MObj) (w : World) (h : MemAt w o) (a k : Nat) (hk : k ≤ 4096) (hin : a + k ≤ o.n) :
    Calls Try.prog 48 #[.pointer (some ⟨o.p, 0, none⟩), .int .i64 (a : Nat), .int .i64 (k : Nat)] w fun e w' => ∃ v, e = .returned (.tuple #[v, .int .i64 0]) ∧ Peeked w w' v k (fun j => o.β (a + j)) := by
  rcases hq : o.q with _ | b
  · have hr := h.row
    rw [hq] at hr
    obtain ⟨hr1, hr2⟩ := hr
    obtain rfl : a = 0 := by omega
    obtain rfl : k = 0 := by omega
    exact rpeek_A o w h hq
  · by_cases hc : o.c = a
    · have := h.row.le
      obtain rfl : k = 0 := by omega
      exact rpeek_B o w h a hin b hq hc
    · exact rpeek_C o w h a k hk hin b hq hc

theorem rgrow_nil (w : World) (x : Value) :
    Calls Try.prog 45 #[.pointer none, x] w fun e w' => e = .returned (.int .u32 4294967295) ∧ w' = w := by
  go_enter Try.func45, Try.ntmps45
  go_wp2
  go_ret
  exact ⟨rfl, rfl⟩
theorem rgrow_no (o : MObj) (w : World) (h : MemAt w o) (x : Nat) (hx : x < 4294967296) (hn : ¬ (x : Int) + (o.n / 65536 : Nat) ≤ ceilOf o.most) :
    Calls Try.prog 45 #[.pointer (some ⟨o.p, 0, none⟩), .int .u32 (x : Nat)] w fun e w' => e = .returned (.int .u32 4294967295) ∧ w' = w := by
  have hz := h.size
  have hc1 := h.c1
  have hp := rpages_k o w h
  obtain ⟨k, hk⟩ : ∃ k, k = o.n / 65536 := ⟨_, rfl⟩
  rw [← hk] at hp hn
  have hmost := h.most
  have hk16 : k ≤ 16 := by omega
  obtain ⟨M, hM⟩ : ∃ M, M = o.most := ⟨_, rfl⟩
  rw [← hM] at hc1 hn hmost
  clear hk hM h
  unfold ceilOf at hn
  by_cases hm : 0 ≤ M
  · rw [if_pos hm] at hn
    have q1 : (M != -1) = true := bne_iff_ne.2 (by omega)
    by_cases h16 : (16 : Int) ≤ M
    · rw [Int.min_eq_left h16] at hn
      go_enter Try.func45, Try.ntmps45
      go_wp2_with (go_at_call 16; (with_reducible refine hp.mono ?_); rintro e u ⟨rfl, rfl⟩)
      go_ret
      exact ⟨rfl, rfl⟩
    · rw [Int.min_eq_right (by omega)] at hn
      go_enter Try.func45, Try.ntmps45
      go_wp2_with (go_at_call 16; (with_reducible refine hp.mono ?_); rintro e u ⟨rfl, rfl⟩)
      go_ret
      exact ⟨rfl, rfl⟩
  · rw [if_neg hm] at hn
    obtain rfl : M = -1 := by omega
    go_enter Try.func45, Try.ntmps45
    go_wp2_with (go_at_call 16; (with_reducible refine hp.mono ?_); rintro e u ⟨rfl, rfl⟩)
    go_ret
    exact ⟨rfl, rfl⟩
theorem grown_memR {w w1 w2 : World} {o : MObj} (h : MemAt w o) {q1 q2 : Option Nat} {c1 c2 x m : Nat} (hm : m = 65536 * x) (hx : x + o.n / 65536 ≤ 16) (g : Grown w w1 none q1 o.n c1 o.β) (g2 : Grown w1 w2 q1 q2 (o.n + m) c2 (joinB o.n o.β (fun _ => 0))) :
    MemAt (w2.setCell ⟨o.p, 0, none⟩ (.slice (headOf q2) (o.n + m) c2)) (grownO o q2 c2 x) ∧ Keep o.has w (w2.setCell ⟨o.p, 0, none⟩ (.slice (headOf q2) (o.n + m) c2)) ∧ (∀ b, q2 = some b → w.heap.size ≤ b) ∧
    w2.heap[o.p]? = some (.cells #[.slice (headOf o.q) o.n o.c, .int .i64 o.most] o.T (0, 0)) := by
  have hp : o.p < w.heap.size := block_lt h.obj
  have hq1 : ∀ b, q1 = some b → w.heap.size ≤ b := fun b hb => by
    rcases g.new with e | ⟨b1, e, h1⟩
    · rw [e] at hb; cases hb
    · rw [e] at hb; cases hb; exact h1
  have k1 : Keep (fun k => w.heap.size ≤ k) w w1 := g.keep.mono (fun k _ hk => by cases hk)
  have k2 : Keep (fun k => w.heap.size ≤ k) w1 w2 := g2.keep.mono (fun k _ hk => hq1 k hk)
  have k12 := k1.trans k2
  have hq2 : ∀ b, q2 = some b → w.heap.size ≤ b := fun b hb => by
    rcases g2.new with e | ⟨b1, e, h1⟩
    · rw [e] at hb; exact hq1 b hb
    · rw [e] at hb; cases hb; exact Nat.le_trans k1.size h1
  have hobj : w2.heap[o.p]? = some (.cells #[.slice (headOf o.q) o.n o.c, .int .i64 o.most] o.T (0, 0)) := k12.get h.obj (by show ¬ w.heap.size ≤ o.p; omega)
  have hap : q2 ≠ some o.p := fun e => by have := hq2 _ e; omega
  refine ⟨⟨?_, ?_, ?_, h.most, hap⟩, Keep.setCell (S := o.has) (k12.mono (fun k h1 h2 => absurd h2 (by omega))) (.inl (.inl rfl)) _, hq2, hobj⟩
  · rw [show (grownO o q2 c2 x).p = o.p from rfl, heap_setCell_same _ _ _ _ _ _ hobj, hm]
    rfl
  · show RowAt _ q2 (o.n + 65536 * x) c2 _
    rw [← hm]
    exact g2.row.keep (Keep.setCell (S := fun k => k = o.p) (Keep.refl _ w2) (.inl rfl) _) (fun b hb e => hap (by rw [hb]; exact congrArg _ e))
  · obtain ⟨k, hk, e⟩ := h.pages
    exact ⟨k + x, by omega, by show o.n + 65536 * x = _; omega⟩
set_option maxRecDepth 100000 in
set_option maxHeartbeats 2000000 in
theorem rgrow_ok (o : MObj) (w : World) (h : MemAt w o) (x : Nat) (hx : x < 4294967296) (hn : (x : Int) + (o.n / 65536 : Nat) ≤ ceilOf o.most) :
    Calls Try.prog 45 #[.pointer (some ⟨o.p, 0, none⟩), .int .u32 (x : Nat)] w fun e w' => e = .returned (.int .u32 (o.n / 65536 : Nat)) ∧ ∃ q1 c1, MemAt w' (grownO o q1 c1 x) ∧ Keep o.has w w' ∧ (∀ b, q1 = some b → w.heap.size ≤ b) := by
  have hz := h.size
  have hc1 := h.c1
  have hc0 := h.c0
  have hp := rpages_k o w h
  have hce : ceilOf o.most ≤ 16 := by unfold ceilOf; split <;> omega
  obtain ⟨m, hm⟩ : ∃ m, m = 65536 * x := ⟨_, rfl⟩
  have hxm : (x : Int) * 65536 = (m : Int) := by omega
  obtain ⟨q1, c1, w1, hrun1, g⟩ := app_nil w 48 _ o.n o.β (BView.row h.row).src h.row.lt (by omega)
  obtain ⟨q2, c2, w2, hrun2, g2⟩ := app_zeros w1 48 q1 o.n c1 o.β g.row m (by omega)
  obtain ⟨G1, G2, G3, hobj⟩ := grown_memR h hm (by omega) g g2
  have d0 : w2.cell? ⟨o.p, 0, none⟩ = some (.slice (headOf o.q) o.n o.c) := by rw [cell_of_row w2 o.p 0 _ _ _ hobj]; rfl
  have d1 := frozen_of_row w2 o.p 0 _ _ hobj
  obtain ⟨k, hk⟩ : ∃ k, k = o.n / 65536 := ⟨_, rfl⟩
  rw [← hk] at hp hn ⊢
  have hmost := h.most
  have hk16 : k ≤ 16 := by omega
  have HG1 := Lib.hid G1
  have HG2 := Lib.hid G2
  have HG3 := Lib.hid G3
  have HR1 := Lib.hid hrun1
  have HR2 := Lib.hid hrun2
  clear hk G1 G2 G3 g g2 hobj hrun1 hrun2 hm h
  unfold ceilOf at hn
  by_cases hm : 0 ≤ o.most
  · rw [if_pos hm] at hn
    have q1 : (o.most != -1) = true := bne_iff_ne.2 (by omega)
    by_cases h16 : (16 : Int) ≤ o.most
    · rw [Int.min_eq_left h16] at hn
      go_enter Try.func45, Try.ntmps45
      go_wp2_with (first | (go_at_call 16; (with_reducible refine hp.mono ?_); rintro e u ⟨rfl, rfl⟩) | (at_builtin; go_loud (refine wpList_app rfl _ _ _ _ rfl (.slice none 0 0) (.slice (headOf o.q) o.n o.c) rfl rfl _ _ HR1.out ?_)) | (at_builtin; go_loud (refine wpList_app rfl _ _ _ _ rfl (.slice (headOf _) o.n c1) (.int .i64 (m : Int)) rfl rfl _ _ HR2.out ?_)))
      go_ret
      exact ⟨rfl, _, _, HG1.out, HG2.out, HG3.out⟩
    · rw [Int.min_eq_right (by omega)] at hn
      go_enter Try.func45, Try.ntmps45
      go_wp2_with (first | (go_at_call 16; (with_reducible refine hp.mono ?_); rintro e u ⟨rfl, rfl⟩) | (at_builtin; go_loud (refine wpList_app rfl _ _ _ _ rfl (.slice none 0 0) (.slice (headOf o.q) o.n o.c) rfl rfl _ _ HR1.out ?_)) | (at_builtin; go_loud (refine wpList_app rfl _ _ _ _ rfl (.slice (headOf _) o.n c1) (.int .i64 (m : Int)) rfl rfl _ _ HR2.out ?_)))
      go_ret
      exact ⟨rfl, _, _, HG1.out, HG2.out, HG3.out⟩
  · rw [if_neg hm] at hn
    have q1 : (o.most != -1) = false := by rw [show o.most = -1 by omega]; rfl
    go_enter Try.func45, Try.ntmps45
    go_wp2_with (first | (go_at_call 16; (with_reducible refine hp.mono ?_); rintro e u ⟨rfl, rfl⟩) | (at_builtin; go_loud (refine wpList_app rfl _ _ _ _ rfl (.slice none 0 0) (.slice (headOf o.q) o.n o.c) rfl rfl _ _ HR1.out ?_)) | (at_builtin; go_loud (refine wpList_app rfl _ _ _ _ rfl (.slice (headOf _) o.n c1) (.int .i64 (m : Int)) rfl rfl _ _ HR2.out ?_)))
    go_ret
    exact ⟨rfl, _, _, HG1.out, HG2.out, HG3.out⟩

end Go.Proofs.Ytlcndenbnokcjaa
