/- A part of the proof that plaittop.CoreLanes returns true. -/
import Derived.Test.YtebpijlmeemfaaaGreatDoorB10
import Derived.Test.YtebpijlmeemfaaaGreatDoorB11
import Derived.Test.YtebpijlmeemfaaaGreatDoorB12
import Derived.Test.YtebpijlmeemfaaaGreatDoorB13
import Derived.Test.YtebpijlmeemfaaaGreatDoorB14
set_option linter.all false
set_option linter.unusedSectionVars false
set_option linter.unusedSimpArgs false
set_option linter.unusedVariables false
section
namespace Ev
theorem chk_all : opL.all chkOk = true := all_app (all_app (all_app (all_app (all_app (all_app (all_app (all_app (all_app (all_app (all_app (all_app (all_app (all_app (all_app (all_app (all_app (all_app (all_app (all_app (all_app (all_app (all_app (all_app (all_app (all_app (all_app (all_app (all_app (all_app (all_app (all_app (all_app (all_app (all_app (all_app (all_app (all_app (all_app (all_app (all_app (all_app (all_app (all_app (all_app (all_app (chk0) chk1) chk2) chk3) chk4) chk5) chk6) chk7) chk8) chk9) chk10) chk11) chk12) chk13) chk14) chk15) chk16) chk17) chk18) chk19) chk20) chk21) chk22) chk23) chk24) chk25) chk26) chk27) chk28) chk29) chk30) chk31) chk32) chk33) chk34) chk35) chk36) chk37) chk38) chk39) chk40) chk41) chk42) chk43) chk44) chk45) chk46
theorem chk_ok : ∀ op ∈ opL, chkOk op = true := fun x hx => List.all_eq_true.1 chk_all x hx
end Ev
end
section
namespace Ev
open Go Go.Proofs
theorem six_pow (n : Nat) (h : 3 ≤ n) : 6 ≤ 2 ^ n := Nat.le_trans (by decide : 6 ≤ 2 ^ 3) (Nat.pow_le_pow_right (by decide) h)
noncomputable def cvEq (i5 : Nat) (c d : CV) : Bool :=
 match c, d with
 | .int .i64 (.ofNat m), .int .i64 (.ofNat n) => Nat.beq m n
 | .int .u64 (.ofNat m), .int .u64 (.ofNat n) => Nat.beq m n
 | .snil, .snil => true
 | .sl i 0 8 (.known 8), .sl 5 0 8 (.known 8) => Nat.beq i i5
 | _, _ => false
noncomputable def cellsEq (i5 : Nat) (r : Row) : List CV → Nat → Bool
 | [], _ => true
 | c :: l, i => (match cvEq i5 (r.at i) c with | true => cellsEq i5 r l (i + 1) | false => false)
noncomputable def rowEq (i5 : Nat) (r : Row) (l : List CV) (elem size : Nat) : Bool :=
 (match r.kind with | .live => true | _ => false) && Nat.beq r.n l.length && Nat.beq r.elem elem && Nat.beq r.size size && cellsEq i5 r l 0
noncomputable def opAt (r : Row) : Nat := match r.at 30 with | .int .i64 (.ofNat n) => n | _ => 0
noncomputable def sl5 (r : Row) : Nat := match r.at 1 with | .sl i 0 8 (.known 8) => i | _ => 0
noncomputable def ifM (b : Bool) (m : M AV) : M AV := match b with | true => m | false => .fail
noncomputable def ckM (i j k l : Nat) (_ : Nat) : M AV :=
 .get i fun r1 => .get j fun r2 => .get k fun r3 => .get l fun r4 => .get (sl5 r4) fun r5 =>
  ifM (rowEq (sl5 r4) r1 [.snil, .snil] 39 2 && rowEq (sl5 r4) r2 [i64c 0] 3 1 && rowEq (sl5 r4) r3 [i64c 1, i64c 1] 42 2 && rowEq (sl5 r4) r4 [.snil, .sl 5 0 8 (.known 8)] 45 2 && memB (opAt r5) opL && rowEq (sl5 r4) r5 (bodyC (opAt r5)) 36 6) (one (i64c 0))
noncomputable def ckExt (f : Nat) (args : List PV) : Option (Nat → M AV) :=
 match Nat.beq f 26 with
 | false => ofExt f args
 | true => match args with
  | [.agg [.sl i 0 1 (.known 1), .snil, .sl j 0 1 (.known 1), .snil, .sl k 0 1 (.known 1), .snil, .snil, .int .i64 (.negSucc 0), .snil, .sl l 0 1 (.known 1), .snil]] => some (ckM i j k l)
  | _ => none
theorem cvEq_spec {i5 : Nat} {c d : CV} (h : cvEq i5 c d = true) : (∃ i, c = .sl i 0 8 (.known 8) ∧ d = .sl 5 0 8 (.known 8) ∧ i = i5) ∨ (c = d ∧ ((∃ k n, d = .int k n) ∨ d = .snil)) := by
 unfold cvEq at h
 split at h
 ·rw [Nat.eq_of_beq_eq_true h]; exact .inr ⟨rfl, .inl ⟨_, _, rfl⟩⟩
 ·rw [Nat.eq_of_beq_eq_true h]; exact .inr ⟨rfl, .inl ⟨_, _, rfl⟩⟩
 ·exact .inr ⟨rfl, .inr rfl⟩
 ·exact .inl ⟨_, rfl, rfl, Nat.eq_of_beq_eq_true h⟩
 ·cases h
theorem cellsEq_spec {i5 : Nat} {r : Row} : ∀ {l : List CV} {i : Nat}, cellsEq i5 r l i = true → ∀ (j : Nat) (c : CV), l[j]? = some c → cvEq i5 (r.at (i + j)) c = true
 | [], i, _, j, c, hj => by simp at hj
 | d :: l, i, h, j, c, hj => by
  simp only [cellsEq] at h
  split at h
  ·rename_i h0
   cases j with
   | zero => simp at hj; subst hj; exact h0
   | succ j =>
    have := cellsEq_spec h j c (by simpa using hj)
    rwa [show i + 1 + j = i + (j + 1) by omega] at this
  ·cases h
theorem rowEq_ok {e e2 : Env} {i5 : Nat} {r : Row} {l : List CV} {elem size : Nat} (h : rowEq i5 r l elem size = true) (h5 : ∀ x, e i5 = some x → e2 5 = some x) (hl : l.length ≤ 1000000) {id id2 : Nat} {w : World} (hr : RowOK e id r w) (h2 : ∀ x, e id = some x → e2 id2 = some x) :
  r.kind.read = true ∧ r.elem = elem ∧ RowOK e2 id2 (rowOf l elem size) w := by
 simp only [rowEq, Bool.and_eq_true] at h
 obtain ⟨⟨⟨⟨q1, q2⟩, q3⟩, q4⟩, q5⟩ := h
 have hk : r.kind = .live := by
  split at q1
  ·assumption
  ·cases q1
 have q2 := Nat.eq_of_beq_eq_true q2
 have q3 := Nat.eq_of_beq_eq_true q3
 have q4 := Nat.eq_of_beq_eq_true q4
 obtain ⟨b, c, arr, fr, hc⟩ := hr.row (by rw [hk]; rfl)
 refine ⟨by rw [hk]; rfl, q3, ⟨b, c, h2 _ hc.he, blk_lt hc.hb⟩, fun _ => ⟨b, c, arr, fr, h2 _ hc.he, ?_, ?_, ?_, fun _ => hc.fz hk, fun j hj => ?_⟩⟩
 ·show w.heap[b]? = some (.cells arr elem fr)
  rw [← q3]; exact hc.hb
 ·show arr.size = c * size
  rw [← q4]; exact hc.sz
 ·show l.length ≤ _
  rw [← q2]; exact hc.le
 ·have hj' : j < l.length := hj
  obtain ⟨x, k1, k2⟩ := hc.cell j (by rw [q2]; exact hj')
  refine ⟨x, k1, ?_⟩
  have h1 := rowOf_at l elem size hl j hj'
  have := cellsEq_spec q5 j _ h1
  rw [Nat.zero_add] at this
  rcases cvEq_spec this with ⟨i, e1, e3, rfl⟩ | ⟨e1, e3⟩
  ·rw [e1] at k2
   rw [e3]
   obtain ⟨b', c', g1, g2⟩ := k2
   exact ⟨b', c', h5 _ g1, g2⟩
  ·rw [e1] at k2
   rcases e3 with ⟨_, _, e3⟩ | e3 <;> · rw [e3] at k2 ⊢; exact k2
theorem is0_spec {c : CV} (h : is0 c = true) : c = i64c 0 := by
 unfold is0 at h
 split at h
 ·rfl
 ·cases h
theorem hm_find (op n : Nat) : (hm op).find n = if n = 5 then some (rowOf (bodyC op) 36 6) else if n = 4 then some (rowOf [.snil, .sl 5 0 8 (.known 8)] 45 2) else if n = 3 then some (rowOf [i64c 1, i64c 1] 42 2) else if n = 2 then some (rowOf [i64c 0] 3 1) else if n = 1 then some (rowOf [.snil, .snil] 39 2) else none := by
 unfold hm
 rw [find_put, find_put, find_put, find_put, find_put]
 rfl
noncomputable def sub (e : Env) (i j k l m : Nat) : Env := fun n => if n = 5 then e m else if n = 4 then e l else if n = 3 then e k else if n = 2 then e j else if n = 1 then e i else none
theorem sub_sim {e : Env} {i j k l m op : Nat} {w : World} (h1 : RowOK (sub e i j k l m) 1 (rowOf [.snil, .snil] 39 2) w) (h2 : RowOK (sub e i j k l m) 2 (rowOf [i64c 0] 3 1) w) (h3 : RowOK (sub e i j k l m) 3 (rowOf [i64c 1, i64c 1] 42 2) w)
  (h4 : RowOK (sub e i j k l m) 4 (rowOf [.snil, .sl 5 0 8 (.known 8)] 45 2) w) (h5 : RowOK (sub e i j k l m) 5 (rowOf (bodyC op) 36 6) w) : Sim (sub e i j k l m) (hm op) w := by
 have hrow : ∀ id r, (hm op).find id = some r → RowOK (sub e i j k l m) id r w := by
  intro id r h
  rw [hm_find] at h
  by_cases q5 : id = 5
  ·rw [if_pos q5] at h; cases h; subst q5; exact h5
  rw [if_neg q5] at h
  by_cases q4 : id = 4
  ·rw [if_pos q4] at h; cases h; subst q4; exact h4
  rw [if_neg q4] at h
  by_cases q3 : id = 3
  ·rw [if_pos q3] at h; cases h; subst q3; exact h3
  rw [if_neg q3] at h
  by_cases q2 : id = 2
  ·rw [if_pos q2] at h; cases h; subst q2; exact h2
  rw [if_neg q2] at h
  by_cases q1 : id = 1
  ·rw [if_pos q1] at h; cases h; subst q1; exact h1
  rw [if_neg q1] at h; cases h
 have hel : ∀ a b ra rb, (hm op).find a = some ra → (hm op).find b = some rb → ra.elem = rb.elem → a = b := by
  intro a b ra rb ha hb hab
  rw [hm_find] at ha hb
  have key : ∀ n r, (if n = 5 then some (rowOf (bodyC op) 36 6) else if n = 4 then some (rowOf [.snil, .sl 5 0 8 (.known 8)] 45 2) else if n = 3 then some (rowOf [i64c 1, i64c 1] 42 2) else if n = 2 then some (rowOf [i64c 0] 3 1) else if n = 1 then some (rowOf [.snil, .snil] 39 2) else none : Option Row) = some r →
    (n = 5 ∧ r.elem = 36) ∨ (n = 4 ∧ r.elem = 45) ∨ (n = 3 ∧ r.elem = 42) ∨ (n = 2 ∧ r.elem = 3) ∨ (n = 1 ∧ r.elem = 39) := by
   intro n r h
   split at h
   ·rename_i hn; cases h; exact .inl ⟨hn, rfl⟩
   split at h
   ·rename_i hn; cases h; exact .inr (.inl ⟨hn, rfl⟩)
   split at h
   ·rename_i hn; cases h; exact .inr (.inr (.inl ⟨hn, rfl⟩))
   split at h
   ·rename_i hn; cases h; exact .inr (.inr (.inr (.inl ⟨hn, rfl⟩)))
   split at h
   ·rename_i hn; cases h; exact .inr (.inr (.inr (.inr ⟨hn, rfl⟩)))
   ·cases h
  have ka := key a ra ha
  have kb := key b rb hb
  omega
 refine ⟨hrow, fun id h => ?_, fun a b ra rb bl c c' ha hra hb hrb e1 e2 => hel a b ra rb ha hb ?_⟩
 ·rw [hm_find] at h
  unfold sub
  repeat' split at h
  all_goals first | cases h | skip
  rename_i n5 n4 n3 n2 n1
  rw [if_neg n5, if_neg n4, if_neg n3, if_neg n2, if_neg n1]
 ·obtain ⟨b1, c1, a1, f1, x1⟩ := (hrow a ra ha).row hra
  obtain ⟨b2, c2, a2, f2, x2⟩ := (hrow b rb hb).row hrb
  have y1 := x1.he
  have y2 := x2.he
  rw [e1] at y1
  rw [e2] at y2
  cases y1
  cases y2
  have z1 := x1.hb
  have z2 := x2.hb
  rw [z1] at z2
  injection (Option.some.inj z2)
theorem ifM_run {b : Bool} {m : M AV} {h h' : H} {v : AV} {l : Log} (q : (ifM b m).run h = .ok v h' l) : b = true ∧ m.run h = .ok v h' l := by
 cases b with
 | false => cases q
 | true => exact ⟨rfl, q⟩
theorem get_run {id : Nat} {k : Row → M AV} {h h' : H} {v : AV} {l : Log} (q : (M.get id k).run h = .ok v h' l) : ∃ r l', h.find id = some r ∧ (k r).run h = .ok v h' l' ∧ l'.w = l.w := by
 simp only [M.run] at q
 split at q
 ·rename_i r hr
  split at q
  ·rename_i a h2 l2 e2
   cases q
   exact ⟨r, l2, hr, e2, rfl⟩
  ·cases q
 ·cases q
theorem memB_spec {n : Nat} {l : List Nat} (h : memB n l = true) : n ∈ l := by
 induction l with
 | nil => cases h
 | cons m l ih =>
  have e : memB n (m :: l) = Bool.rec (motive := fun _ => Bool) (memB n l) true (Nat.beq m n) := rfl
  rw [e, bool_beq] at h
  split at h
  ·rename_i q; rw [q]; exact List.mem_cons_self ..
  ·exact List.mem_cons_of_mem _ (ih h)
theorem ckTab_ok : TabOK Tryz.prog ty fns ckExt := by
 refine ⟨ty_ok, mixed_ok, fns_ok, fun f args g hg => ?_, fun f args g hg lo h v h' l hr e w xs hs hx => ?_⟩
 ·unfold ckExt at hg
  split at hg
  ·exact ofTab_ok.extf _ _ _ hg
  ·rename_i hf
   rw [Nat.eq_of_beq_eq_true hf]
   exact ⟨_, _, (by kernel_rfl : fns 26 = some ((Tryz.f26.body.getD .skip), Tryz.f26.results.toList))⟩
 ·unfold ckExt at hg
  split at hg
  ·exact ofTab_ok.exts _ _ _ hg lo h v h' l hr e w xs hs hx
  ·rename_i hf
   have hf := Nat.eq_of_beq_eq_true hf
   subst hf
   split at hg
   ·rename_i i j k m
    cases hg
    unfold ckM at hr
    obtain ⟨r1, l1, g1, hr, w1⟩ := get_run hr
    obtain ⟨r2, l2, g2, hr, w2⟩ := get_run hr
    obtain ⟨r3, l3, g3, hr, w3⟩ := get_run hr
    obtain ⟨r4, l4, g4, hr, w4⟩ := get_run hr
    obtain ⟨r5, l5, g5, hr, w5⟩ := get_run hr
    obtain ⟨hb, hr5⟩ := ifM_run hr
    clear hr
    simp only [Bool.and_eq_true] at hb
    obtain ⟨⟨⟨⟨⟨b1, b2⟩, b3⟩, b4⟩, b6⟩, b5⟩ := hb
    have hop := chk_ok _ (memB_spec b6)
    generalize opAt r5 = op at *
    generalize hq : sl5 r4 = q at *
    have hsub := sub_sim (e := e) (i := i) (j := j) (k := k) (l := m) (m := q) (op := op)
     (rowEq_ok b1 (e2 := sub e i j k m q) (fun _ h => h) (by simp) (hs.row _ _ g1) (id2 := 1) (fun _ h => h)).2.2
     (rowEq_ok b2 (e2 := sub e i j k m q) (fun _ h => h) (by simp) (hs.row _ _ g2) (id2 := 2) (fun _ h => h)).2.2
     (rowEq_ok b3 (e2 := sub e i j k m q) (fun _ h => h) (by simp) (hs.row _ _ g3) (id2 := 3) (fun _ h => h)).2.2
     (rowEq_ok b4 (e2 := sub e i j k m q) (fun _ h => h) (by simp) (hs.row _ _ g4) (id2 := 4) (fun _ h => h)).2.2
     (rowEq_ok b5 (e2 := sub e i j k m q) (fun _ h => h) (by simp [bodyC, ins6]) (hs.row _ _ g5) (id2 := 5) (fun _ h => h)).2.2
    unfold chkOk at hop
    split at hop
    ·rename_i c h2 rr hev
     rw [is0_spec hop] at hev
     have hx' : All2 (PV.rel (sub e i j k m q)) [moOf 1 2 3 4] xs := by
      match xs, hx with
      | [y], hx =>
       obtain ⟨ys, hys, hy0⟩ := hx.1
       exact ⟨⟨ys, by
        match ys, hys with
        | [a0, a1, a2, a3, a4, a5, a6, a7, a8, a9, a10], ⟨z0, z1, z2, z3, z4, z5, z6, z7, z8, z9, z10, _⟩ => exact ⟨z0, z1, z2, z3, z4, z5, z6, z7, z8, z9, z10, trivial⟩, hy0⟩, trivial⟩
     have := (evCall_ok ofTab_ok 5000 13).sim 26 _ (2 ^ 400) _ _ h2 _ hev (sub e i j k m q) w xs hsub hx'
     refine Calls.mono this fun en w' hen => ?_
     obtain ⟨y, e', rfl, k1, k2, k3⟩ := hen
     have hbl : ∀ b, b < w.heap.size → w'.heap[b]? = w.heap[b]? := fun b hb => k2.block b hb fun id hid c hc => by
      rcases hid with hid | hid
      ·cases hid
      ·unfold sub at hc
       have : ∀ n, n < 6 → id ≠ n := by
        intro n hn hh
        have : (6 : Nat) ≤ 2 ^ 400 := six_pow 400 (by decide)
        omega
       rw [if_neg (this 5 (by omega)), if_neg (this 4 (by omega)), if_neg (this 3 (by omega)), if_neg (this 2 (by omega)), if_neg (this 1 (by omega))] at hc
       cases hc
     cases hr5
     rw [show y = _ from k3]
     exact ⟨_, e, rfl, hs.keep k2.size hbl, ⟨.refl _, k2.os, k2.tape, k2.output, k2.size, (fun b hb _ => hbl b hb), (fun _ _ _ h1 h2 => by rw [h1] at h2; cases h2)⟩, rfl⟩
    ·cases hop
   ·cases hg
end Ev
end
section
set_option maxRecDepth 100000
namespace Ev
open Go Go.Proofs
def CV.lit : CV → Value → Prop
 | .int k n, x => x = .int k n
 | .bool b, x => x = .bool b
 | _, _ => False
theorem CV.lit.rel {c : CV} {x : Value} (h : c.lit x) (e : Env) : c.rel e x := by
 cases c <;> first | exact h | exact h.elim
theorem Sim.addRow {e : Env} {h : H} {w' : World} (hs : Sim e h w') {id : Nat} (hid : h.find id = none) {l : List CV} {elem size : Nat} {k c : Nat} {arr : Array Value} (hk : w'.heap[k]? = some (.cells arr elem (0, 0))) (hc : arr.size = c * size) (hle : l.length ≤ arr.size) (hl : l.length ≤ 1000000)
  (hcell : ∀ (j : Nat) (v : CV), l[j]? = some v → ∃ x, arr[j]? = some x ∧ v.lit x) (hfree : ∀ i b' c', e i = some (b', c') → b' ≠ k) : Sim (e.set id (k, c)) (h.put id (rowOf l elem size)) w' := by
 have hx := Env.set_ext (x := (k, c)) (hs.dom id hid)
 refine ⟨fun i ri hi => ?_, fun i hi => ?_, fun i j ri rj b c1 c2 hi hl hj hl' h1 h2 => ?_⟩
 ·rw [find_put] at hi
  by_cases hii : i = id
  ·rw [if_pos hii] at hi
   cases hi
   subst hii
   refine ⟨⟨k, c, Env.set_same .., blk_lt hk⟩, fun _ => ⟨k, c, arr, (0, 0), Env.set_same .., hk, hc, hle, (fun _ => rfl), fun j hj => ?_⟩⟩
   have hj' : j < l.length := hj
   have h1 := rowOf_at l elem size hl j hj'
   obtain ⟨x, q1, q2⟩ := hcell j _ h1
   exact ⟨x, q1, q2.rel _⟩
  ·rw [if_neg hii] at hi
   have := hs.row i ri hi
   obtain ⟨b, c', hb, hlt⟩ := this.ex
   refine ⟨⟨b, c', hx _ _ hb, hlt⟩, fun hl => ?_⟩
   obtain ⟨b, c, arr, fr, hc⟩ := this.row hl
   exact ⟨b, c, arr, fr, hc.ext hx rfl⟩
 ·rw [find_put] at hi
  by_cases hii : i = id
  ·rw [if_pos hii] at hi; cases hi
  ·rw [if_neg hii] at hi
   unfold Env.set
   rw [if_neg hii]
   exact hs.dom i hi
 ·rw [find_put] at hi hj
  unfold Env.set at h1 h2
  by_cases hii : i = id <;> by_cases hjj : j = id
  ·rw [hii, hjj]
  ·rw [if_pos hii] at h1; rw [if_neg hjj] at h2 hj
   cases h1
   exact absurd rfl (hfree j _ _ h2)
  ·rw [if_neg hii] at h1 hi; rw [if_pos hjj] at h2
   cases h2
   exact absurd rfl (hfree i _ _ h1)
  ·rw [if_neg hii] at h1 hi; rw [if_neg hjj] at h2 hj
   exact hs.inj i j ri rj b c1 c2 hi hl hj hl' h1 h2
theorem cvSame_spec {c d : CV} (h : cvSame c d = true) : c = d ∧ ∀ e x, c.rel e x → d.lit x := by
 unfold cvSame at h
 split at h
 ·rw [Nat.eq_of_beq_eq_true h]; exact ⟨rfl, fun _ _ q => q⟩
 ·rw [Nat.eq_of_beq_eq_true h]; exact ⟨rfl, fun _ _ q => q⟩
 ·cases h
theorem rowSame_spec {r : Row} : ∀ {l : List CV} {i : Nat}, rowSame r l i = true → ∀ (j : Nat) (c : CV), l[j]? = some c → cvSame (r.at (i + j)) c = true
 | [], i, _, j, c, hj => by simp at hj
 | d :: l, i, h, j, c, hj => by
  simp only [rowSame] at h
  split at h
  ·rename_i h0
   cases j with
   | zero => simp at hj; subst hj; exact h0
   | succ j =>
    have := rowSame_spec h j c (by simpa using hj)
    rwa [show i + 1 + j = i + (j + 1) by omega] at this
  ·cases h
theorem isCells_spec {r : Row} {l : List CV} {e : Nat} (h : isCells r l e = true) : r.kind = .live ∧ r.n = l.length ∧ r.elem = e ∧ r.size = 3 ∧ ∀ (j : Nat) (c : CV), l[j]? = some c → cvSame (r.at j) c = true := by
 simp only [isCells, Bool.and_eq_true] at h
 obtain ⟨⟨⟨⟨q1, q2⟩, q3⟩, q4⟩, q5⟩ := h
 refine ⟨?_, Nat.eq_of_beq_eq_true q2, Nat.eq_of_beq_eq_true q3, Nat.eq_of_beq_eq_true q4, fun j c hj => ?_⟩
 ·split at q1
  ·assumption
  ·cases q1
 ·have := rowSame_spec q5 j c hj
  rwa [Nat.zero_add] at this
theorem seq_calls (k : Nat) (hk : seqOk k = true) (w : World) : Calls Tryz.prog (seqFn k) #[.agg #[.int .i64 ((64768 + k : Nat) : Int), .int .i64 ((0 : Nat) : Int), .int .i64 ((0 : Nat) : Int), .int .u64 ((0 : Nat) : Int), .int .u64 ((0 : Nat) : Int), .slice none 0 0], .int .i64 ((0 : Nat) : Int)] w fun en w' =>
  ∃ b c arr, en = .returned (.tuple #[.slice (some ⟨b, 0, none⟩) (Ln.cellsOf k).1.length c, .int .i64 ((Ln.cellsOf k).2 : Nat), .int .i64 ((0 : Nat) : Int)]) ∧ w.heap.size ≤ b ∧ w'.heap[b]? = some (.cells arr 133 (0, 0)) ∧ arr.size = c * 3 ∧ (celsC (Ln.cellsOf k).1).length ≤ arr.size ∧
   (∀ (j : Nat) (v : CV), (celsC (Ln.cellsOf k).1)[j]? = some v → ∃ x, arr[j]? = some x ∧ v.lit x) ∧ w'.os = w.os ∧ w'.tape = w.tape ∧ w'.output = w.output ∧ w.heap.size ≤ w'.heap.size ∧ ∀ i, i < w.heap.size → w'.heap[i]? = w.heap[i]? := by
 unfold seqOk at hk
 split at hk
 ·rename_i id n u er h r hev
  simp only [Bool.and_eq_true] at hk
  obtain ⟨⟨⟨h1, h2⟩, h3⟩, h4⟩ := hk
  split at h4
  ·rename_i rr hrr
   obtain ⟨g1, g2, g3, g4, g5⟩ := isCells_spec h4
   have := (evCall_ok ofTab_ok 5000 13).sim (seqFn k) _ (2 ^ 400) .nil _ h _ hev (fun _ => none) w [.agg #[.int .i64 ((64768 + k : Nat) : Int), .int .i64 ((0 : Nat) : Int), .int .i64 ((0 : Nat) : Int), .int .u64 ((0 : Nat) : Int), .int .u64 ((0 : Nat) : Int), .slice none 0 0], .int .i64 ((0 : Nat) : Int)] (sim_nil w)
    ⟨⟨[.int .i64 ((64768 + k : Nat) : Int), .int .i64 ((0 : Nat) : Int), .int .i64 ((0 : Nat) : Int), .int .u64 ((0 : Nat) : Int), .int .u64 ((0 : Nat) : Int), .slice none 0 0], ⟨rfl, rfl, rfl, rfl, rfl, rfl, trivial⟩, rfl⟩, rfl, trivial⟩
   refine Calls.mono this fun en w' hen => ?_
   obtain ⟨y, e', rfl, k1, k2, k3⟩ := hen
   obtain ⟨m, hm, rfl⟩ := k3
   match m, hm with
   | [y0, y1, y2], hm =>
    obtain ⟨b, c, q1, q2⟩ := hm.1
    have q3 : y1 = .int .i64 (((Ln.cellsOf k).2 : Nat) : Int) := by have := hm.2.1; rw [isI_spec h2] at this; exact this
    have q4 : y2 = .int .i64 ((0 : Nat) : Int) := by have := hm.2.2.1; rw [isI_spec h3] at this; exact this
    obtain ⟨b2, c2, arr, fr, hc⟩ := (k1.row id rr hrr).row (by rw [g1]; rfl)
    have hbb : b2 = b ∧ c2 = c := by have := hc.he; rw [q1] at this; cases this; exact ⟨rfl, rfl⟩
    obtain ⟨rfl, rfl⟩ := hbb
    have hfr := hc.fz g1
    subst hfr
    refine ⟨b2, c2, arr, ?_, ?_, by rw [← g3]; exact hc.hb, by rw [← g4]; exact hc.sz, by rw [← g2]; exact hc.le, fun j v hj => ?_, k2.os, k2.tape, k2.output, k2.size, fun i hi => k2.block i hi fun _ _ _ hh => by cases hh⟩
    ·rw [q2, q3, q4, Nat.eq_of_beq_eq_true h1]
     rfl
    ·rcases k2.new id b2 c2 rfl q1 with q | ⟨j, _, c3, hj⟩
     ·exact q
     ·cases hj
    ·have hlt : j < rr.n := by rw [g2]; exact (List.getElem?_eq_some_iff.1 hj).1
     obtain ⟨x, p1, p2⟩ := hc.cell j hlt
     obtain ⟨_, p4⟩ := cvSame_spec (g5 j v hj)
     exact ⟨x, p1, p4 _ _ p2⟩
  ·cases h4
 ·cases hk
noncomputable def sqM (k : Nat) (lo : Nat) : M AV := .new lo (rowOf (celsC (Ln.cellsOf k).1) 133 3) (.pure (.tup [.one (.sl lo 0 (Ln.cellsOf k).1.length (.minus 0)), .one (i64c (Ln.cellsOf k).2), .one (i64c 0)]))
noncomputable def scL : List Nat := [257, 66, 41, 55, 15, 27, 83, 84, 85, 124, 125, 126, 131, 132, 133, 134, 135, 136, 173]
noncomputable def scOk (op : Nat) : Bool := match evCall ty fns noExt 5000 4 254 [.one (.int .i64 (.ofNat op))] 0 .nil with
 | .ok (.p (.one (.bool true))) _ _ => true
 | _ => false
theorem sc_all : scL.all scOk = true := by kernel_rfl
theorem sc_calls (op : Nat) (h : scOk op = true) (w : World) : Calls Tryz.prog 254 #[.int .i64 (op : Int)] w fun en w' => en = .returned (.bool true) ∧ w'.os = w.os ∧ w'.tape = w.tape ∧ w'.output = w.output ∧ w.heap.size ≤ w'.heap.size ∧ ∀ i, i < w.heap.size → w'.heap[i]? = w.heap[i]? := by
 unfold scOk at h
 split at h
 ·rename_i hh l hev
  have := (evCall_ok noTab 5000 4).sim 254 _ 0 .nil _ _ _ hev (fun _ => none) w [.int .i64 (op : Int)] (sim_nil w) ⟨rfl, trivial⟩
  refine Calls.mono this fun en w' hen => ?_
  obtain ⟨y, e', rfl, k1, k2, k3⟩ := hen
  exact ⟨congrArg _ k3, k2.os, k2.tape, k2.output, k2.size, fun i hi => k2.block i hi fun _ _ _ hh => by cases hh⟩
 ·cases h
noncomputable def sqExt (f : Nat) (args : List PV) : Option (Nat → M AV) :=
 match Nat.beq f 254 with
 | true => (match args with | [.one (.int .i64 (.ofNat op))] => (match memB op scL with | true => some (fun _ => one (.bool true)) | false => none) | _ => none)
 | false => match Nat.beq f 15 || Nat.beq f 17 with
  | true => (match args with
   | [.agg [.int .i64 (.ofNat op), .int .i64 (.ofNat 0), .int .i64 (.ofNat 0), .int .u64 (.ofNat 0), .int .u64 (.ofNat 0), .snil], .one (.int .i64 (.ofNat 0))] =>
    (match memB op opL && Nat.ble 64768 op && Nat.beq (seqFn (op - 64768)) f && Nat.ble (celsC (Ln.cellsOf (op - 64768)).1).length 1000000 with | true => some (sqM (op - 64768)) | false => none)
   | _ => none)
  | false => ckExt f args
theorem sqTab_ok (hsq : ∀ op ∈ opL, seqOk (op - 64768) = true) : TabOK Tryz.prog ty fns sqExt := by
 refine ⟨ty_ok, mixed_ok, fns_ok, fun f args g hg => ?_, fun f args g hg lo h v h' l hr e w xs hs hx => ?_⟩
 ·unfold sqExt at hg
  split at hg
  ·rename_i hf
   rw [Nat.eq_of_beq_eq_true hf]
   exact ⟨_, _, (by kernel_rfl : fns 254 = some ((Tryz.f254.body.getD .skip), Tryz.f254.results.toList))⟩
  ·split at hg
   ·rename_i hf
    rcases Bool.or_eq_true_iff.1 hf with hf | hf
    ·rw [Nat.eq_of_beq_eq_true hf]
     exact ⟨_, _, (by kernel_rfl : fns 15 = some ((Tryz.f15.body.getD .skip), Tryz.f15.results.toList))⟩
    ·rw [Nat.eq_of_beq_eq_true hf]
     exact ⟨_, _, (by kernel_rfl : fns 17 = some ((Tryz.f17.body.getD .skip), Tryz.f17.results.toList))⟩
   ·exact ckTab_ok.extf _ _ _ hg
 ·unfold sqExt at hg
  split at hg
  ·rename_i hf
   have hf := Nat.eq_of_beq_eq_true hf
   subst hf
   split at hg
   ·rename_i op
    split at hg
    ·rename_i hm
     cases hg
     cases hr
     match xs, hx with
     | [y], hx =>
      rw [show y = _ from hx.1]
      refine Calls.mono (sc_calls op (List.all_eq_true.1 sc_all op (memB_spec hm)) w) fun en w' hen => ?_
      obtain ⟨rfl, ho, ht, hp, hsz, hbl⟩ := hen
      exact ⟨_, e, rfl, hs.keep hsz hbl, ⟨.refl _, ho, ht, hp, hsz, (fun b hb _ => hbl b hb), (fun _ _ _ h1 h2 => by rw [h1] at h2; cases h2)⟩, rfl⟩
    ·cases hg
   ·cases hg
  ·split at hg
   ·split at hg
    ·rename_i op
     split at hg
     ·rename_i hm
      cases hg
      simp only [Bool.and_eq_true] at hm
      obtain ⟨⟨⟨m1, m2⟩, m3⟩, m4⟩ := hm
      have m3 := Nat.eq_of_beq_eq_true m3
      have m4 := Nat.le_of_ble_eq_true m4
      have m2 := Nat.le_of_ble_eq_true m2
      subst m3
      have hq := hsq op (memB_spec m1)
      have hop : op = 64768 + (op - 64768) := by omega
      generalize hk : op - 64768 = k at *
      subst hop
      match xs, hx with
      | [y0, y1], hx =>
       obtain ⟨ys, hys, hy0⟩ := hx.1
       have hy1 : y1 = _ := hx.2.1
       match ys, hys with
       | [z0, z1, z2, z3, z4, z5], hys =>
        obtain ⟨a0, a1, a2, a3, a4, a5, _⟩ := hys
        rw [hy0, hy1, show z0 = _ from a0, show z1 = _ from a1, show z2 = _ from a2, show z3 = _ from a3, show z4 = _ from a4, show z5 = _ from a5]
        refine Calls.mono (seq_calls k hq w) fun en w' hen => ?_
        obtain ⟨b, c, arr, rfl, b1, b2, b3, b4, b5, ho, ht, hp, hsz, hbl⟩ := hen
        unfold sqM at hr
        simp only [M.run] at hr
        split at hr
        ·cases hr
        ·rename_i hid
         cases hr
         have hlt : ∀ i b c, e i = some (b, c) → b < w.heap.size := by
          intro i b c hi
          cases hfi : h.find i with
          | none => rw [hs.dom i hfi] at hi; cases hi
          | some r =>
           obtain ⟨b', c', q1, q2⟩ := (hs.row i r hfi).ex
           rw [q1] at hi; cases hi; exact q2
         refine ⟨_, e.set lo (b, c), rfl, (hs.keep hsz hbl).addRow hid b2 b3 b4 m4 b5 (fun i b' c' hi => by have := hlt i b' c' hi; omega), ⟨Env.set_ext (hs.dom lo hid), ho, ht, hp, hsz, (fun b hb _ => hbl b hb), fun id b' c' q1 q2 => ?_⟩, ?_⟩
         ·unfold Env.set at q2
          by_cases hii : id = lo
          ·rw [if_pos hii] at q2; cases q2; exact .inl b1
          ·rw [if_neg hii, q1] at q2; cases q2
         ·exact ⟨[.slice (some ⟨b, 0, none⟩) (Ln.cellsOf k).1.length c, .int .i64 ((Ln.cellsOf k).2 : Nat), .int .i64 ((0 : Nat) : Int)], ⟨⟨b, c, Env.set_same .., rfl⟩, rfl, rfl, trivial⟩, rfl⟩
     ·cases hg
    ·cases hg
   ·exact ckTab_ok.exts _ _ _ hg lo h v h' l hr e w xs hs hx
end Ev
end
section
namespace Ev
open Go Go.Proofs
noncomputable def sqL : List Nat := [13, 14, 35, 36, 37, 38, 39, 40, 41, 42, 43, 44, 45, 46, 47, 48, 49, 50, 51, 52, 53, 54, 55, 56, 57, 58, 59, 60, 61, 62, 63, 64, 78, 79, 80, 81, 101, 102, 110, 111, 112, 113, 114, 115, 118, 119, 120, 121, 123, 130, 133, 134, 142, 143, 144, 145, 146, 147, 149, 150, 151, 152, 153, 155, 156, 157, 158, 159, 174, 177, 181, 182, 183, 184, 185, 186, 188, 189, 190, 191, 206, 209, 213, 214, 215, 216, 217, 218, 219, 220, 221, 222, 223]
theorem sq_each : ∀ k ∈ sqL, seqOk k = true := by
 intro k h
 simp only [sqL, List.mem_cons, List.not_mem_nil, or_false] at h
 rcases h with rfl | rfl | rfl | rfl | rfl | rfl | rfl | rfl | rfl | rfl | rfl | rfl | rfl | rfl | rfl | rfl | rfl | rfl | rfl | rfl | rfl | rfl | rfl | rfl | rfl | rfl | rfl | rfl | rfl | rfl | rfl | rfl | rfl | rfl | rfl | rfl | rfl | rfl | rfl | rfl | rfl | rfl | rfl | rfl | rfl | rfl | rfl | rfl | rfl | rfl | rfl | rfl | rfl | rfl | rfl | rfl | rfl | rfl | rfl | rfl | rfl | rfl | rfl | rfl | rfl | rfl | rfl | rfl | rfl | rfl | rfl | rfl | rfl | rfl | rfl | rfl | rfl | rfl | rfl | rfl | rfl | rfl | rfl | rfl | rfl | rfl | rfl | rfl | rfl | rfl | rfl | rfl | rfl
 ·exact sq_13
 ·exact sq_14
 ·exact sq_35
 ·exact sq_36
 ·exact sq_37
 ·exact sq_38
 ·exact sq_39
 ·exact sq_40
 ·exact sq_41
 ·exact sq_42
 ·exact sq_43
 ·exact sq_44
 ·exact sq_45
 ·exact sq_46
 ·exact sq_47
 ·exact sq_48
 ·exact sq_49
 ·exact sq_50
 ·exact sq_51
 ·exact sq_52
 ·exact sq_53
 ·exact sq_54
 ·exact sq_55
 ·exact sq_56
 ·exact sq_57
 ·exact sq_58
 ·exact sq_59
 ·exact sq_60
 ·exact sq_61
 ·exact sq_62
 ·exact sq_63
 ·exact sq_64
 ·exact sq_78
 ·exact sq_79
 ·exact sq_80
 ·exact sq_81
 ·exact sq_101
 ·exact sq_102
 ·exact sq_110
 ·exact sq_111
 ·exact sq_112
 ·exact sq_113
 ·exact sq_114
 ·exact sq_115
 ·exact sq_118
 ·exact sq_119
 ·exact sq_120
 ·exact sq_121
 ·exact sq_123
 ·exact sq_130
 ·exact sq_133
 ·exact sq_134
 ·exact sq_142
 ·exact sq_143
 ·exact sq_144
 ·exact sq_145
 ·exact sq_146
 ·exact sq_147
 ·exact sq_149
 ·exact sq_150
 ·exact sq_151
 ·exact sq_152
 ·exact sq_153
 ·exact sq_155
 ·exact sq_156
 ·exact sq_157
 ·exact sq_158
 ·exact sq_159
 ·exact sq_174
 ·exact sq_177
 ·exact sq_181
 ·exact sq_182
 ·exact sq_183
 ·exact sq_184
 ·exact sq_185
 ·exact sq_186
 ·exact sq_188
 ·exact sq_189
 ·exact sq_190
 ·exact sq_191
 ·exact sq_206
 ·exact sq_209
 ·exact sq_213
 ·exact sq_214
 ·exact sq_215
 ·exact sq_216
 ·exact sq_217
 ·exact sq_218
 ·exact sq_219
 ·exact sq_220
 ·exact sq_221
 ·exact sq_222
 ·exact sq_223
theorem sq_in : opL.all (fun o => sqL.contains (o - 64768)) = true := by kernel_rfl
theorem sq_ok : ∀ op ∈ opL, seqOk (op - 64768) = true := fun op h => sq_each _ (List.contains_iff_mem.1 (List.all_eq_true.1 sq_in op h))
end Ev
end
