/- A part of the proof that plaittop.CoreLanes returns true. -/
import Derived.Test.YtebpijlmeemfaaaGreatDoorB01
import Derived.Test.YtebpijlmeemfaaaGreatDoorB09
set_option linter.all false
set_option linter.unusedSectionVars false
set_option linter.unusedSimpArgs false
set_option linter.unusedVariables false
section
set_option maxRecDepth 100000
namespace Ev
open Go Go.Proofs
abbrev OfE := Nat × Nat × Nat × Bool × List Nat × List Nat
noncomputable def noExt : Nat → List PV → Option (Nat → M AV) := fun _ _ => none
noncomputable def isI (c : CV) (n : Nat) : Bool := match c with | .int .i64 (.ofNat m) => Nat.beq m n | _ => false
noncomputable def rowIs (r : Row) : List Nat → Nat → Bool
 | [], _ => true
 | n :: l, i => (match isI (r.at i) n with | true => rowIs r l (i + 1) | false => false)
noncomputable def slIs (h : H) (c : CV) (l : List Nat) : Bool :=
 match c, l with
 | .snil, [] => true
 | .sl id 0 n (.minus 0), _ :: _ => (match h.find id with
  | some r => (match r.kind with | .live => true | _ => false) && Nat.beq r.elem 3 && Nat.beq r.size 1 && Nat.beq r.n l.length && Nat.beq n l.length && rowIs r l 0
  | none => false)
 | _, _ => false
noncomputable def two (a b : CV) : Bool := match a, b with | .sl i _ _ _, .sl j _ _ _ => (match Nat.beq i j with | true => false | false => true) | _, _ => true
noncomputable def memoOf (op : Nat) : R AV := evCall ty fns noExt 5000 3 22 [.one (.int .i64 (.ofNat op))] 0 .nil
noncomputable def memoR (x : OfE) (r : R AV) : Bool :=
 match r with
 | .ok (.tup [.agg [c0, c1, .bool pl, a, b], .one (.bool true)]) h _ => isI c0 x.2.1 && isI c1 x.2.2.1 && (pl == x.2.2.2.1) && slIs h a x.2.2.2.2.1 && slIs h b x.2.2.2.2.2 && two a b
 | _ => false
noncomputable def memoOk (x : OfE) : Bool := memoR x (memoOf x.1)
noncomputable def ofT0 : List OfE := [(65, 9, 0, true, [], [127]), (11, 1, 0, false, [], []), (64768, 7, 4, true, [127], [123]), (64779, 7, 4, true, [127, 123], []), (64780, 11, 0, true, [], [123]), (64781, 12, 0, true, [123, 123], [123]), (64782, 1, 0, true, [123, 123], [123]), (64803, 1, 0, true, [123, 123], [123]), (64804, 1, 0, true, [123, 123], [123])]
theorem ofT0_ok : ofT0.all memoOk = true := by kernel_rfl
noncomputable def ofT1 : List OfE := [(64805, 1, 0, true, [123, 123], [123]), (64806, 1, 0, true, [123, 123], [123]), (64807, 1, 0, true, [123, 123], [123]), (64808, 1, 0, true, [123, 123], [123]), (64809, 1, 0, true, [123, 123], [123]), (64810, 1, 0, true, [123, 123], [123]), (64811, 1, 0, true, [123, 123], [123]), (64812, 1, 0, true, [123, 123], [123]), (64813, 1, 0, true, [123, 123], [123])]
theorem ofT1_ok : ofT1.all memoOk = true := by kernel_rfl
noncomputable def ofT2 : List OfE := [(64814, 1, 0, true, [123, 123], [123]), (64815, 1, 0, true, [123, 123], [123]), (64816, 1, 0, true, [123, 123], [123]), (64817, 1, 0, true, [123, 123], [123]), (64818, 1, 0, true, [123, 123], [123]), (64819, 1, 0, true, [123, 123], [123]), (64820, 1, 0, true, [123, 123], [123]), (64821, 1, 0, true, [123, 123], [123]), (64822, 1, 0, true, [123, 123], [123])]
theorem ofT2_ok : ofT2.all memoOk = true := by kernel_rfl
noncomputable def ofT3 : List OfE := [(64823, 1, 0, true, [123, 123], [123]), (64824, 1, 0, true, [123, 123], [123]), (64825, 1, 0, true, [123, 123], [123]), (64826, 1, 0, true, [123, 123], [123]), (64827, 1, 0, true, [123, 123], [123]), (64828, 1, 0, true, [123, 123], [123]), (64829, 1, 0, true, [123, 123], [123]), (64830, 1, 0, true, [123, 123], [123]), (64831, 1, 0, true, [123, 123], [123])]
theorem ofT3_ok : ofT3.all memoOk = true := by kernel_rfl
noncomputable def ofT4 : List OfE := [(64832, 1, 0, true, [123, 123], [123]), (64846, 1, 0, true, [123, 123], [123]), (64847, 1, 0, true, [123, 123], [123]), (64848, 1, 0, true, [123, 123], [123]), (64849, 1, 0, true, [123, 123], [123]), (64869, 1, 0, true, [123, 123], [123]), (64870, 1, 0, true, [123, 123], [123]), (64878, 1, 0, true, [123, 123], [123]), (64879, 1, 0, true, [123, 123], [123])]
theorem ofT4_ok : ofT4.all memoOk = true := by kernel_rfl
noncomputable def ofT5 : List OfE := [(64880, 1, 0, true, [123, 123], [123]), (64881, 1, 0, true, [123, 123], [123]), (64882, 1, 0, true, [123, 123], [123]), (64883, 1, 0, true, [123, 123], [123]), (64886, 1, 0, true, [123, 123], [123]), (64887, 1, 0, true, [123, 123], [123]), (64888, 1, 0, true, [123, 123], [123]), (64889, 1, 0, true, [123, 123], [123]), (64891, 1, 0, true, [123, 123], [123])]
theorem ofT5_ok : ofT5.all memoOk = true := by kernel_rfl
noncomputable def ofT6 : List OfE := [(64898, 1, 0, true, [123, 123], [123]), (64901, 1, 0, true, [123, 123], [123]), (64902, 1, 0, true, [123, 123], [123]), (64910, 1, 0, true, [123, 123], [123]), (64911, 1, 0, true, [123, 123], [123]), (64912, 1, 0, true, [123, 123], [123]), (64913, 1, 0, true, [123, 123], [123]), (64914, 1, 0, true, [123, 123], [123]), (64915, 1, 0, true, [123, 123], [123])]
theorem ofT6_ok : ofT6.all memoOk = true := by kernel_rfl
noncomputable def ofT7 : List OfE := [(64917, 1, 0, true, [123, 123], [123]), (64918, 1, 0, true, [123, 123], [123]), (64919, 1, 0, true, [123, 123], [123]), (64920, 1, 0, true, [123, 123], [123]), (64921, 1, 0, true, [123, 123], [123]), (64923, 1, 0, true, [123, 123], [123]), (64924, 1, 0, true, [123, 123], [123]), (64925, 1, 0, true, [123, 123], [123]), (64926, 1, 0, true, [123, 123], [123])]
theorem ofT7_ok : ofT7.all memoOk = true := by kernel_rfl
noncomputable def ofT8 : List OfE := [(64927, 1, 0, true, [123, 123], [123]), (64942, 1, 0, true, [123, 123], [123]), (64945, 1, 0, true, [123, 123], [123]), (64949, 1, 0, true, [123, 123], [123]), (64950, 1, 0, true, [123, 123], [123]), (64951, 1, 0, true, [123, 123], [123]), (64952, 1, 0, true, [123, 123], [123]), (64953, 1, 0, true, [123, 123], [123]), (64954, 1, 0, true, [123, 123], [123])]
theorem ofT8_ok : ofT8.all memoOk = true := by kernel_rfl
noncomputable def ofT9 : List OfE := [(64956, 1, 0, true, [123, 123], [123]), (64957, 1, 0, true, [123, 123], [123]), (64958, 1, 0, true, [123, 123], [123]), (64959, 1, 0, true, [123, 123], [123]), (64974, 1, 0, true, [123, 123], [123]), (64977, 1, 0, true, [123, 123], [123]), (64981, 1, 0, true, [123, 123], [123]), (64982, 1, 0, true, [123, 123], [123]), (64983, 1, 0, true, [123, 123], [123])]
theorem ofT9_ok : ofT9.all memoOk = true := by kernel_rfl
noncomputable def ofT10 : List OfE := [(64984, 1, 0, true, [123, 123], [123]), (64985, 1, 0, true, [123, 123], [123]), (64986, 1, 0, true, [123, 123], [123]), (64987, 1, 0, true, [123, 123], [123]), (64988, 1, 0, true, [123, 123], [123]), (64989, 1, 0, true, [123, 123], [123]), (64990, 1, 0, true, [123, 123], [123]), (64991, 1, 0, true, [123, 123], [123])]
theorem ofT10_ok : ofT10.all memoOk = true := by kernel_rfl
noncomputable def ofL : List OfE := ofT0 ++ ofT1 ++ ofT2 ++ ofT3 ++ ofT4 ++ ofT5 ++ ofT6 ++ ofT7 ++ ofT8 ++ ofT9 ++ ofT10
theorem ofL_ok : ∀ x ∈ ofL, memoOk x = true := by
 intro x hx
 simp only [ofL, List.mem_append] at hx
 rcases hx with (((((((((hx | hx) | hx) | hx) | hx) | hx) | hx) | hx) | hx) | hx) | hx
 ·exact List.all_eq_true.1 ofT0_ok x hx
 ·exact List.all_eq_true.1 ofT1_ok x hx
 ·exact List.all_eq_true.1 ofT2_ok x hx
 ·exact List.all_eq_true.1 ofT3_ok x hx
 ·exact List.all_eq_true.1 ofT4_ok x hx
 ·exact List.all_eq_true.1 ofT5_ok x hx
 ·exact List.all_eq_true.1 ofT6_ok x hx
 ·exact List.all_eq_true.1 ofT7_ok x hx
 ·exact List.all_eq_true.1 ofT8_ok x hx
 ·exact List.all_eq_true.1 ofT9_ok x hx
 ·exact List.all_eq_true.1 ofT10_ok x hx
end Ev
end
section
namespace Ev
open Go Go.Proofs
theorem isI_spec {c : CV} {n : Nat} (h : isI c n = true) : c = i64c n := by
 unfold isI at h
 split at h
 ·rename_i m; rw [Nat.eq_of_beq_eq_true h]; rfl
 ·cases h
theorem rowIs_spec {r : Row} : ∀ {l : List Nat} {i : Nat}, rowIs r l i = true → ∀ (j n : Nat), l[j]? = some n → r.at (i + j) = i64c n
 | [], i, _, j, n, hj => by simp at hj
 | m :: l, i, h, j, n, hj => by
  simp only [rowIs] at h
  split at h
  ·rename_i h0
   cases j with
   | zero => simp at hj; subst hj; exact isI_spec h0
   | succ j =>
    have := rowIs_spec h j n (by simpa using hj)
    rwa [show i + 1 + j = i + (j + 1) by omega] at this
  ·cases h
theorem slIs_spec {h : H} {c : CV} {l : List Nat} (hh : slIs h c l = true) : (c = .snil ∧ l = []) ∨ ∃ id r, l ≠ [] ∧ c = .sl id 0 l.length (.minus 0) ∧ h.find id = some r ∧ r.kind = .live ∧ r.elem = 3 ∧ r.size = 1 ∧ r.n = l.length ∧ ∀ (j n : Nat), l[j]? = some n → r.at j = i64c n := by
 unfold slIs at hh
 split at hh
 ·exact .inl ⟨rfl, rfl⟩
 ·rename_i id n x l
  split at hh
  ·rename_i r hr
   simp only [Bool.and_eq_true] at hh
   obtain ⟨⟨⟨⟨⟨h1, h2⟩, h3⟩, h4⟩, h5⟩, h6⟩ := hh
   refine .inr ⟨id, r, by simp, by rw [Nat.eq_of_beq_eq_true h5], hr, ?_, Nat.eq_of_beq_eq_true h2, Nat.eq_of_beq_eq_true h3, Nat.eq_of_beq_eq_true h4, fun j n hj => ?_⟩
   ·split at h1
    ·assumption
    ·cases h1
   ·have := rowIs_spec h6 j n hj
    rwa [Nat.zero_add] at this
  ·cases hh
 ·cases hh
theorem two_spec {i j off off' n n' : Nat} {c c' : Cap} (h : two (.sl i off n c) (.sl j off' n' c') = true) : i ≠ j := by
 unfold two at h
 split at h
 ·rename_i q1 q2
  cases q1; cases q2
  split at h
  ·cases h
  ·rename_i hb; exact Nat.ne_of_beq_eq_false hb
 ·rename_i q
  exact absurd rfl (q _ _ _ _ _ _ _ _ rfl)
def NewInts (w w' : World) (x : Value) (l : List Nat) (b : Option Nat) : Prop :=
 (l = [] ∧ x = .slice none 0 0 ∧ b = none) ∨ (l ≠ [] ∧ ∃ k c arr, b = some k ∧ w.heap.size ≤ k ∧ x = .slice (some ⟨k, 0, none⟩) l.length c ∧ w'.heap[k]? = some (.cells arr 3 (0, 0)) ∧ arr.size = c ∧ l.length ≤ c ∧ ∀ (j n : Nat), l[j]? = some n → arr[j]? = some (.int .i64 n))
theorem noTab : TabOK Tryz.prog ty fns noExt := ⟨ty_ok, mixed_ok, fns_ok, (fun _ _ _ h => by cases h), (fun _ _ _ h => by cases h)⟩
theorem sim_nil (w : World) : Sim (fun _ => none) .nil w := ⟨(fun i r h => by cases h), (fun _ _ => rfl), (fun i j ri rj b c c' h => by cases h)⟩
theorem newInts_of {e : Env} {h : H} {w w' : World} (hs : Sim e h w') (hst : Stp 0 (0 + 2 ^ (24 * 3)) [] (fun _ => none) w e w') {c : CV} {x : Value} (hx : c.rel e x) {l : List Nat} (hl : slIs h c l = true) :
  ∃ b, NewInts w w' x l b ∧ ∀ id off n cp, c = .sl id off n cp → ∃ k c', b = some k ∧ e id = some (k, c') := by
 rcases slIs_spec hl with ⟨rfl, rfl⟩ | ⟨id, r, h0, rfl, h1, h2, h3, h4, h5, h6⟩
 ·cases hx
  exact ⟨none, .inl ⟨rfl, rfl, rfl⟩, fun _ _ _ _ h => by cases h⟩
 ·obtain ⟨b, c, he, rfl⟩ := hx
  obtain ⟨b', c', arr, fr, hc⟩ := (hs.row id r h1).row (by rw [h2]; rfl)
  have hbb : b' = b ∧ c' = c := by have := hc.he; rw [he] at this; cases this; exact ⟨rfl, rfl⟩
  obtain ⟨rfl, rfl⟩ := hbb
  have hfr := hc.fz h2
  subst hfr
  have hsz := hc.sz
  rw [h4, Nat.mul_one] at hsz
  refine ⟨some b', .inr ⟨h0, b', c', arr, rfl, ?_, by simp [Cap.val], by rw [← h3]; exact hc.hb, hsz, by have := hc.le; omega, fun j n hj => ?_⟩, fun id' off n cp hh => by cases hh; exact ⟨b', c', rfl, he⟩⟩
  ·rcases hst.new id b' c' rfl he with h | ⟨j, _, c2, hj⟩
   ·exact h
   ·cases hj
  ·have hlt : j < r.n := by
    rw [h5]
    exact (List.getElem?_eq_some_iff.1 hj).1
   obtain ⟨y, k1, k2⟩ := hc.cell j hlt
   rw [h6 j n hj] at k2
   rw [k1]
   exact congrArg some k2
theorem memo_calls (x : OfE) (hx : memoOk x = true) (w : World) : Calls Tryz.prog 22 #[.int .i64 (.ofNat x.1)] w fun e w' => ∃ s t b1 b2, e = .returned (.tuple #[.agg #[.int .i64 (.ofNat x.2.1), .int .i64 (.ofNat x.2.2.1), .bool x.2.2.2.1, s, t], .bool true]) ∧
  NewInts w w' s x.2.2.2.2.1 b1 ∧ NewInts w w' t x.2.2.2.2.2 b2 ∧ (b1 = none ∨ b1 ≠ b2) ∧ w'.os = w.os ∧ w'.tape = w.tape ∧ w'.output = w.output ∧ w.heap.size ≤ w'.heap.size ∧ ∀ k, k < w.heap.size → w'.heap[k]? = w.heap[k]? := by
 unfold memoOk memoR at hx
 split at hx
 ·rename_i c0 c1 pl a b h l hev
  simp only [Bool.and_eq_true] at hx
  obtain ⟨⟨⟨⟨⟨h1, h2⟩, h3⟩, h4⟩, h5⟩, h6⟩ := hx
  have := (evCall_ok noTab 5000 3).sim 22 _ 0 .nil _ h l hev (fun _ => none) w [.int .i64 (.ofNat x.1)] (sim_nil w) ⟨rfl, trivial⟩
  refine Calls.mono this fun en w' hen => ?_
  obtain ⟨y, e', rfl, k1, k2, k3⟩ := hen
  have k2 : Stp 0 (0 + 2 ^ (24 * 3)) [] (fun _ => none) w e' w' := ⟨k2.ext, k2.os, k2.tape, k2.output, k2.size, (fun k hk _ => k2.block k hk fun _ _ _ h => by cases h), (fun id b c q1 q2 => (k2.new id b c q1 q2).imp (fun q => q) fun ⟨_, _, _, q⟩ => by cases q)⟩
  obtain ⟨m, hm, rfl⟩ := k3
  match m, hm with
  | [y0, y1], hm =>
   obtain ⟨ys, hys, hy0⟩ := hm.1
   have hy1 : y1 = .bool true := hm.2.1
   match ys, hys with
   | [z0, z1, z2, z3, z4], hys =>
    obtain ⟨g0, g1, g2, g3, g4, _⟩ := hys
    rw [isI_spec h1] at g0
    rw [isI_spec h2] at g1
    obtain ⟨b1, n1, q1⟩ := newInts_of k1 k2 g3 h4
    obtain ⟨b2, n2, q2⟩ := newInts_of k1 k2 g4 h5
    have h3 : pl = x.2.2.2.1 := by simpa using h3
    refine ⟨z3, z4, b1, b2, ?_, n1, n2, ?_, k2.os, k2.tape, k2.output, k2.size, fun k hk => k2.block k hk fun _ _ _ h => by cases h⟩
    ·rw [hy0, hy1, show z0 = _ from g0, show z1 = _ from g1, show z2 = _ from g2, h3]
    ·rcases slIs_spec h4 with ⟨rfl, hnil⟩ | ⟨id, r, p0, rfl, p1, p2, _⟩
     ·rcases n1 with ⟨_, _, hb⟩ | ⟨hne, _⟩
      ·exact .inl hb
      ·exact absurd hnil hne
     ·obtain ⟨k, c', e1, e2⟩ := q1 _ _ _ _ rfl
      rcases slIs_spec h5 with ⟨rfl, hnil⟩ | ⟨id', r', p0', rfl, p1', p2', _⟩
      ·rcases n2 with ⟨_, _, hb⟩ | ⟨hne, _⟩
       ·exact .inr (by rw [e1, hb]; simp)
       ·exact absurd hnil hne
      ·obtain ⟨k', c'', e1', e2'⟩ := q2 _ _ _ _ rfl
       refine .inr fun hbb => two_spec h6 ?_
       rw [e1, e1'] at hbb
       cases hbb
       exact k1.inj id id' r r' k c' c'' p1 (by rw [p2]; rfl) p1' (by rw [p2']; rfl) e2 e2'
 ·cases hx
noncomputable def intsR (lo : Nat) (l : List Nat) (k : CV → M AV) : M AV :=
 match l with
 | [] => k .snil
 | n :: l => match Nat.ble l.length 1000 with
  | true => .new lo (rowOf ((n :: l).map i64c) 3 1) (k (.sl lo 0 (n :: l).length (.minus 0)))
  | false => .fail
noncomputable def ofM (x : OfE) (lo : Nat) : M AV := intsR lo x.2.2.2.2.1 fun a => intsR (lo + 1) x.2.2.2.2.2 fun b => .pure (.tup [.agg [i64c x.2.1, i64c x.2.2.1, .bool x.2.2.2.1, a, b], .one (.bool true)])
noncomputable def findOf (op : Nat) (l : List OfE) : Option OfE := List.rec (motive := fun _ => Option OfE) none (fun x _ ih => Bool.rec (motive := fun _ => Option OfE) ih (some x) (Nat.beq x.1 op)) l
theorem findOf_spec {op : Nat} {x : OfE} : ∀ {l : List OfE}, findOf op l = some x → x ∈ l ∧ x.1 = op
 | y :: l, h => by
  have : findOf op (y :: l) = Bool.rec (motive := fun _ => Option OfE) (findOf op l) (some y) (Nat.beq y.1 op) := rfl
  rw [this, bool_beq] at h
  split at h
  ·rename_i hy; cases h; exact ⟨List.mem_cons_self .., hy⟩
  ·exact ⟨List.mem_cons_of_mem _ (findOf_spec h).1, (findOf_spec h).2⟩
noncomputable def ofExt (f : Nat) (args : List PV) : Option (Nat → M AV) :=
 match Nat.beq f 22 with
 | false => none
 | true => match args with
  | [.one (.int .i64 (.ofNat op))] => (match findOf op ofL with | some x => some (ofM x) | none => none)
  | _ => none
theorem Sim.keep {e : Env} {h : H} {w w' : World} (hs : Sim e h w) (hsz : w.heap.size ≤ w'.heap.size) (hb : ∀ k, k < w.heap.size → w'.heap[k]? = w.heap[k]?) : Sim e h w' := by
 refine ⟨fun i r hr => ?_, hs.dom, hs.inj⟩
 have := hs.row i r hr
 obtain ⟨b, c, h1, h2⟩ := this.ex
 refine ⟨⟨b, c, h1, by omega⟩, fun hl => ?_⟩
 obtain ⟨b, c, arr, fr, hc⟩ := this.row hl
 exact ⟨b, c, arr, fr, hc.ext (.refl _) (hb b (blk_lt hc.hb))⟩
theorem Sim.addInts {e : Env} {h : H} {w' : World} (hs : Sim e h w') {id : Nat} (hid : h.find id = none) {l : List Nat} {k c : Nat} {arr : Array Value} (hk : w'.heap[k]? = some (.cells arr 3 (0, 0))) (hc : arr.size = c) (hle : l.length ≤ c) (hl : l.length ≤ 1000000)
  (hcell : ∀ (j n : Nat), l[j]? = some n → arr[j]? = some (.int .i64 n)) (hfree : ∀ i b' c', e i = some (b', c') → b' ≠ k) : Sim (e.set id (k, c)) (h.put id (rowOf (l.map i64c) 3 1)) w' := by
 have hx := Env.set_ext (x := (k, c)) (hs.dom id hid)
 refine ⟨fun i ri hi => ?_, fun i hi => ?_, fun i j ri rj b c1 c2 hi hl hj hl' h1 h2 => ?_⟩
 ·rw [find_put] at hi
  by_cases hii : i = id
  ·rw [if_pos hii] at hi
   cases hi
   subst hii
   refine ⟨⟨k, c, Env.set_same .., blk_lt hk⟩, fun _ => ⟨k, c, arr, (0, 0), Env.set_same .., hk, by rw [hc]; exact (Nat.mul_one c).symm, by show (l.map i64c).length ≤ _; rw [List.length_map]; omega, (fun _ => rfl), fun j hj => ?_⟩⟩
   have hj' : j < l.length := by have : j < (l.map i64c).length := hj; simpa using this
   have h1 := rowOf_at (l.map i64c) 3 1 (by simpa using hl) j (by simpa using hj')
   rw [List.getElem?_map, List.getElem?_eq_getElem hj'] at h1
   refine ⟨_, hcell j _ (List.getElem?_eq_getElem hj'), ?_⟩
   rw [← Option.some.inj h1]
   exact rfl
  ·rw [if_neg hii] at hi
   have := hs.row i ri hi
   obtain ⟨b, c', hb, hlt⟩ := this.ex
   refine ⟨⟨b, c', hx _ _ hb, hlt⟩, fun hl => ?_⟩
   obtain ⟨b, c, arr, fr, hc⟩ := this.row hl
   exact ⟨b, c, arr, fr, hc.ext hx rfl⟩
 ·rw [find_put] at hi
  by_cases hii : i = id
  ·rw [if_pos hii] at hi; cases hi
  ·rw [if_neg hii] at hi
   unfold Env.set
   rw [if_neg hii]
   exact hs.dom i hi
 ·rw [find_put] at hi hj
  unfold Env.set at h1 h2
  by_cases hii : i = id <;> by_cases hjj : j = id
  ·rw [hii, hjj]
  ·rw [if_pos hii] at h1; rw [if_neg hjj] at h2 hj
   cases h1
   exact absurd rfl (hfree j _ _ h2)
  ·rw [if_neg hii] at h1 hi; rw [if_pos hjj] at h2
   cases h2
   exact absurd rfl (hfree i _ _ h1)
  ·rw [if_neg hii] at h1 hi; rw [if_neg hjj] at h2 hj
   exact hs.inj i j ri rj b c1 c2 hi hl hj hl' h1 h2
theorem ints_step {w w' : World} {e : Env} {h : H} (hs : Sim e h w') {id : Nat} {l : List Nat} {s : Value} {b : Option Nat} (hn : NewInts w w' s l b) (hfree : ∀ k, b = some k → ∀ i b' c', e i = some (b', c') → b' ≠ k) {k : CV → M AV} {v : AV} {h' : H} {lg : Log}
  (hr : (intsR id l k).run h = .ok v h' lg) : ∃ e1 h1 c lg1, (k c).run h1 = .ok v h' lg1 ∧ Sim e1 h1 w' ∧ Ext e e1 ∧ c.rel e1 s ∧ (∀ i x, e1 i = some x → e i = some x ∨ (i = id ∧ ∃ kk, b = some kk ∧ x.1 = kk)) := by
 unfold intsR at hr
 split at hr
 ·rcases hn with ⟨_, rfl, _⟩ | ⟨hne, _⟩
  ·exact ⟨e, h, .snil, lg, hr, hs, .refl _, rfl, fun i x hx => .inl hx⟩
  ·exact absurd rfl hne
 ·rename_i n l
  split at hr
  ·rename_i hb
   have hb := Nat.le_of_ble_eq_true hb
   simp only [M.run] at hr
   split at hr
   ·cases hr
   ·rename_i hid
    split at hr
    ·rename_i a h2 l2 e2
     cases hr
     rcases hn with ⟨hnil, _⟩ | ⟨_, kk, c, arr, rfl, h1, rfl, h3, h4, h5, h6⟩
     ·cases hnil
     ·refine ⟨e.set id (kk, c), _, _, _, e2, hs.addInts hid h3 h4 h5 (by simp; omega) h6 (hfree kk rfl), Env.set_ext (hs.dom id hid), ⟨kk, c, Env.set_same .., rfl⟩, fun i x hx => ?_⟩
      unfold Env.set at hx
      by_cases hi : i = id
      ·rw [if_pos hi] at hx; cases hx; exact .inr ⟨hi, kk, rfl, rfl⟩
      ·rw [if_neg hi] at hx; exact .inl hx
    ·cases hr
  ·cases hr
theorem ofTab_ok : TabOK Tryz.prog ty fns ofExt := by
 refine ⟨ty_ok, mixed_ok, fns_ok, fun f args g hg => ?_, fun f args g hg lo h v h' l hr e w xs hs hx => ?_⟩
 ·unfold ofExt at hg
  split at hg
  ·cases hg
  ·rename_i hf
   rw [Nat.eq_of_beq_eq_true hf]
   exact ⟨_, _, (by kernel_rfl : fns 22 = some ((Tryz.f22.body.getD .skip), Tryz.f22.results.toList))⟩
 ·unfold ofExt at hg
  split at hg
  ·cases hg
  ·rename_i hf
   have hf := Nat.eq_of_beq_eq_true hf
   subst hf
   split at hg
   ·rename_i op
    split at hg
    ·rename_i x hfo
     cases hg
     obtain ⟨hmem, rfl⟩ := findOf_spec hfo
     match xs, hx with
     | [y], hx =>
      rw [show y = _ from hx.1]
      refine Calls.mono (memo_calls x (ofL_ok x hmem) w) fun en w' hen => ?_
      obtain ⟨s, t, b1, b2, rfl, n1, n2, hne, ho, ht, hp, hsz, hbl⟩ := hen
      have hs' := hs.keep hsz hbl
      have hlt : ∀ i b c, e i = some (b, c) → b < w.heap.size := by
       intro i b c hi
       cases hfi : h.find i with
       | none => rw [hs.dom i hfi] at hi; cases hi
       | some r =>
        obtain ⟨b', c', q1, q2⟩ := (hs.row i r hfi).ex
        rw [q1] at hi; cases hi; exact q2
      have hge : ∀ {x l b}, NewInts w w' x l b → ∀ k, b = some k → w.heap.size ≤ k := by
       intro x l b hn k hk
       rcases hn with ⟨_, _, q⟩ | ⟨_, kk, c, arr, q, q2, _⟩
       ·rw [q] at hk; cases hk
       ·rw [q] at hk; cases hk; exact q2
      unfold ofM at hr
      obtain ⟨e1, h1, c1, lg1, r1, s1, x1, rel1, new1⟩ := ints_step hs' n1 (fun k hk i b' c' hi => by have := hlt i b' c' hi; have := hge n1 k hk; omega) hr
      obtain ⟨e2, h2, c2, lg2, r2, s2, x2, rel2, new2⟩ := ints_step s1 n2 (fun k hk i b' c' hi => by
       rcases new1 i _ hi with q | ⟨q, kk, q1, q2⟩
       ·have := hlt i b' c' q; have := hge n2 k hk; omega
       ·intro hbk
        simp only at q2
        rcases hne with hne | hne
        ·rw [hne] at q1; cases q1
        ·exact hne (by rw [q1, hk, ← q2, hbk])) r1
      cases r2
      refine ⟨_, e2, rfl, s2, ⟨x1.trans x2, ho, ht, hp, hsz, fun k hk _ => hbl k hk, fun id b c q1 q2 => .inl ?_⟩, ?_⟩
      ·rcases new2 id _ q2 with q | ⟨_, kk, q3, q4⟩
       ·rcases new1 id _ q with q | ⟨_, kk, q3, q4⟩
        ·rw [q1] at q; cases q
        ·simp only at q4; subst q4; exact hge n1 _ q3
       ·simp only at q4; subst q4; exact hge n2 _ q3
      ·exact ⟨[.agg #[.int .i64 (.ofNat x.2.1), .int .i64 (.ofNat x.2.2.1), .bool x.2.2.2.1, s, t], .bool true], ⟨⟨[.int .i64 (.ofNat x.2.1), .int .i64 (.ofNat x.2.2.1), .bool x.2.2.2.1, s, t], ⟨rfl, rfl, rfl, rel1.ext x2, rel2, trivial⟩, rfl⟩, rfl, trivial⟩, rfl⟩
    ·cases hg
   ·cases hg
end Ev
end
section
set_option maxRecDepth 100000
namespace Ev
open Go Go.Proofs
noncomputable def ins6 (op a b lo : Nat) : List CV := [i64c op, i64c a, i64c b, .int .u64 (.ofNat lo), .int .u64 (.ofNat 0), .snil]
noncomputable def bodyC (op : Nat) : List CV := ins6 65 0 0 64 ++ (ins6 65 0 0 0 ++ (ins6 64768 0 5 0 ++ (ins6 65 0 0 16 ++ (ins6 64768 0 9 0 ++ (ins6 op 0 0 0 ++ (ins6 64779 0 3 0 ++ ins6 11 0 0 0))))))
noncomputable def hm (op : Nat) : H := H.put (H.put (H.put (H.put (H.put .nil 1 (rowOf [.snil, .snil] 39 2)) 2 (rowOf [i64c 0] 3 1)) 3 (rowOf [i64c 1, i64c 1] 42 2)) 4 (rowOf [.snil, .sl 5 0 8 (.known 8)] 45 2)) 5 (rowOf (bodyC op) 36 6)
noncomputable def moOf (i j k l : Nat) : PV := .agg [.sl i 0 1 (.known 1), .snil, .sl j 0 1 (.known 1), .snil, .sl k 0 1 (.known 1), .snil, .snil, .int .i64 (.negSucc 0), .snil, .sl l 0 1 (.known 1), .snil]
noncomputable def is0 (c : CV) : Bool := match c with | .int .i64 (.ofNat 0) => true | _ => false
noncomputable def chkOk (op : Nat) : Bool := match evCall ty fns ofExt 5000 13 26 [moOf 1 2 3 4] (2 ^ 400) (hm op) with
 | .ok (.p (.one c)) _ ⟨_, []⟩ => is0 c
 | _ => false
noncomputable def opL : List Nat := [64781, 64782] ++ [64803, 64804] ++ [64805, 64806] ++ [64807, 64808] ++ [64809, 64810] ++ [64811, 64812] ++ [64813, 64814] ++ [64815, 64816] ++ [64817, 64818] ++ [64819, 64820] ++ [64821, 64822] ++ [64823, 64824] ++ [64825, 64826] ++ [64827, 64828] ++ [64829, 64830] ++ [64831, 64832] ++ [64846, 64847] ++ [64848, 64849] ++ [64869, 64870] ++ [64878, 64879] ++ [64880, 64881] ++ [64882, 64883] ++ [64886, 64887] ++ [64888, 64889] ++ [64891, 64898] ++ [64901, 64902] ++ [64910, 64911] ++ [64912, 64913] ++ [64914, 64915] ++ [64917, 64918] ++ [64919, 64920] ++ [64921, 64923] ++ [64924, 64925] ++ [64926, 64927] ++ [64942, 64945] ++ [64949, 64950] ++ [64951, 64952] ++ [64953, 64954] ++ [64956, 64957] ++ [64958, 64959] ++ [64974, 64977] ++ [64981, 64982] ++ [64983, 64984] ++ [64985, 64986] ++ [64987, 64988] ++ [64989, 64990] ++ [64991]
theorem all_app {p : Nat → Bool} {a b : List Nat} (h : a.all p = true) (k : b.all p = true) : (a ++ b).all p = true := by rw [List.all_append, h, k]; rfl
end Ev
end
section
set_option maxRecDepth 100000
namespace Ev
open Go Go.Proofs
noncomputable def celsC (l : List Ln.C) : List CV := List.rec (motive := fun _ => List CV) [] (fun c _ ih => i64c c.1 :: i64c c.2.1 :: .int .u64 (.ofNat c.2.2) :: ih) l
noncomputable def insq (op : Nat) : List CV := [i64c op, i64c 0, i64c 0, .int .u64 (.ofNat 0), .int .u64 (.ofNat 0), .snil]
noncomputable def cvSame (c d : CV) : Bool :=
 match c, d with
 | .int .i64 (.ofNat m), .int .i64 (.ofNat n) => Nat.beq m n
 | .int .u64 (.ofNat m), .int .u64 (.ofNat n) => Nat.beq m n
 | _, _ => false
noncomputable def rowSame (r : Row) : List CV → Nat → Bool
 | [], _ => true
 | c :: l, i => (match cvSame (r.at i) c with | true => rowSame r l (i + 1) | false => false)
noncomputable def isCells (r : Row) (l : List CV) (e : Nat) : Bool := (match r.kind with | .live => true | _ => false) && Nat.beq r.n l.length && Nat.beq r.elem e && Nat.beq r.size 3 && rowSame r l 0
noncomputable def seqFn (k : Nat) : Nat := match Ln.isSw k with | true => 15 | false => 17
noncomputable def seqOk (k : Nat) : Bool :=
 match evCall ty fns ofExt 5000 13 (seqFn k) [.agg (insq (64768 + k)), .one (i64c 0)] (2 ^ 400) .nil with
 | .ok (.tup [.one (.sl id 0 n (.minus 0)), .one u, .one e]) h ⟨_, []⟩ => Nat.beq n (Ln.cellsOf k).1.length && isI u (Ln.cellsOf k).2 && isI e 0 && (match h.find id with | some r => isCells r (celsC (Ln.cellsOf k).1) 133 | none => false)
 | _ => false
end Ev
end
