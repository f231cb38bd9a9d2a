/- A part of the proof that plaittop.CoreLanes returns true. -/
import Derived.Test.YtebpijlmeemfaaaGreatDoorA17
import Derived.Test.YtebpijlmeemfaaaGreatDoorB08
import Derived.Test.YtebpijlmeemfaaaGreatDoorB16
set_option linter.all false
set_option linter.unusedSectionVars false
set_option linter.unusedSimpArgs false
set_option linter.unusedVariables false
section
set_option maxRecDepth 100000
namespace Ev
open Go Go.Proofs
theorem memB_in {n : Nat} {l : List Nat} (h : memB n l = true) : n ∈ l := (memB_iff n l).1 h
theorem bin_err (op : Nat) (h : op ∈ ([83, 84, 85, 124, 125, 126, 131, 132, 133, 134, 135, 136] : List Nat)) (x y : Nm.B64) : (Nm.binB (op : Int) x y).2 = 0 := by
 simp only [List.mem_cons, List.not_mem_nil, or_false] at h
 rcases h with rfl | rfl | rfl | rfl | rfl | rfl | rfl | rfl | rfl | rfl | rfl | rfl <;> simp [Nm.binB, Nm.opB]
theorem rnTab_ok : TabOK Tryz.prog ty2 fns2 rnExt := by
 refine ⟨ty_ok2, mixed_ok, fns_ok2, fun f args g hg => ?_, fun f args g hg lo h v h' l hr e w xs hs hx => ?_⟩
 ·unfold rnExt at hg
  split at hg
  ·rename_i hf
   rw [Nat.eq_of_beq_eq_true hf]
   exact ⟨_, _, (by kernel_rfl : fns2 265 = some ((Tryz.f265.body.getD .skip), Tryz.f265.results.toList))⟩
  ·split at hg
   ·rename_i hf
    rw [Nat.eq_of_beq_eq_true hf]
    exact ⟨_, _, (by kernel_rfl : fns2 264 = some ((Tryz.f264.body.getD .skip), Tryz.f264.results.toList))⟩
   ·cases hg
 ·unfold rnExt at hg
  split at hg
  ·rename_i hf
   have hf := Nat.eq_of_beq_eq_true hf
   subst hf
   split at hg
   ·rename_i op x y
    split at hg
    ·rename_i hm
     cases hg
     cases hr
     have hop := memB_in hm
     match xs, hx with
     | [a, b, c], hx =>
      rw [show a = _ from hx.1, show b = _ from hx.2.1, show c = _ from hx.2.2.1]
      have hb : op < 1000 := by
       simp only [List.mem_cons, List.not_mem_nil, or_false] at hop
       omega
      refine Calls.mono (YtebpijlmeemfaaaGreatDoor.nbin_any (op : Int) x y w ⟨by omega, by omega⟩) fun en w' hen => ?_
      obtain ⟨rfl, rfl⟩ := hen
      exact ⟨_, e, rfl, hs, .refl _ _ _ _ _, ⟨[.int .u64 _, .int .i64 _], ⟨rfl, by rw [bin_err op hop]; rfl, trivial⟩, rfl⟩⟩
    ·cases hg
   ·cases hg
  ·split at hg
   ·rename_i hf
    have hf := Nat.eq_of_beq_eq_true hf
    subst hf
    split at hg
    ·rename_i op x
     split at hg
     ·rename_i hm
      cases hg
      cases hr
      have hm := Nat.eq_of_beq_eq_true hm
      subst hm
      match xs, hx with
      | [a, b], hx =>
       rw [show a = _ from hx.1, show b = _ from hx.2.1]
       refine Calls.mono (YtebpijlmeemfaaaGreatDoor.extu_op x w) fun en w' hen => ?_
       obtain ⟨rfl, rfl⟩ := hen
       exact ⟨_, e, rfl, hs, .refl _ _ _ _ _, ⟨[.int .u64 _, .int .i64 _], ⟨rfl, rfl, trivial⟩, rfl⟩⟩
     ·cases hg
    ·cases hg
   ·cases hg
end Ev
end
section
set_option maxRecDepth 100000
namespace Ev
open Go Go.Proofs
theorem hOf_cons (x : Nat × Row) (l : List (Nat × Row)) : hOf (x :: l) = H.put (hOf l) x.1 x.2 := rfl
theorem hOf_some : ∀ (l : List (Nat × Row)) (id : Nat) (r : Row), (hOf l).find id = some r → (id, r) ∈ l
 | [], id, r, h => by cases h
 | x :: l, id, r, h => by
  rw [hOf_cons, find_put] at h
  by_cases hi : id = x.1
  ·rw [if_pos hi] at h
   cases h
   rw [hi]
   exact List.mem_cons_self ..
  ·rw [if_neg hi] at h
   exact List.mem_cons_of_mem _ (hOf_some l id r h)
theorem hOf_none : ∀ (l : List (Nat × Row)) (id : Nat), (hOf l).find id = none → ∀ x ∈ l, x.1 ≠ id
 | [], id, h, x, hx => by cases hx
 | y :: l, id, h, x, hx => by
  rw [hOf_cons, find_put] at h
  by_cases hi : id = y.1
  ·rw [if_pos hi] at h; cases h
  ·rw [if_neg hi] at h
   rcases List.mem_cons.1 hx with rfl | hx
   ·exact fun q => hi q.symm
   ·exact hOf_none l id h x hx
theorem sim_list {e : Env} {w : World} (l : List (Nat × Row)) (hdom : ∀ id, (∀ x ∈ l, x.1 ≠ id) → e id = none) (hrow : ∀ x ∈ l, RowOK e x.1 x.2 w)
  (hinj : ∀ x ∈ l, ∀ y ∈ l, x.2.kind.read = true → y.2.kind.read = true → ∀ b c c', e x.1 = some (b, c) → e y.1 = some (b, c') → x.1 = y.1) : Sim e (hOf l) w :=
 ⟨fun id r h => hrow (id, r) (hOf_some l id r h), fun id h => hdom id (hOf_none l id h), fun i j ri rj b c c' h1 h2 h3 h4 h5 h6 => hinj (i, ri) (hOf_some l i ri h1) (j, rj) (hOf_some l j rj h3) h2 h4 b c c' h5 h6⟩
structure FB where
 F : Nat
 cF : Nat
 R : Nat
 N : Nat
 M : Nat
 S : Nat
 m : Nat
 q : Nat
 cq : Nat
 cN : Nat
 cM : Nat
 cS : Nat
 cm : Nat
def Rw (w : World) (b c : Nat) (l : List B64) : Prop := ∃ arr, w.heap[b]? = some (.cells arr 26 (0, 0)) ∧ arr.size = c ∧ l.length ≤ c ∧ ∀ (i : Nat) (x : B64), l[i]? = some x → arr[i]? = some (.int .u64 (x.toNat : Int))
def Bt (w : World) (q c : Nat) (β : Nat → Nat) : Prop := ∃ arr, w.heap[q]? = some (.cells arr 5 (0, 0)) ∧ arr.size = c ∧ 65536 ≤ c ∧ ∀ i, i < 65536 → arr[i]? = some (.int .u8 (β i : Int))
def One (x : Value) : Prop := x.oneCell' = true ∧ x.cells = #[x]
def Pre (w : World) (b e s : Nat) (l : List (Option Value)) : Prop := ∃ arr, w.heap[b]? = some (.cells arr e (0, 0)) ∧ arr.size = s ∧ l.length ≤ s ∧ ∀ (i : Nat) (o : Option Value), l[i]? = some o → ∃ x, arr[i]? = some x ∧ One x ∧ ∀ y, o = some y → x = y
theorem Pre.keep {w w' : World} {b e s : Nat} {l : List (Option Value)} (h : Pre w b e s l) (k : w'.heap[b]? = w.heap[b]?) : Pre w' b e s l := by
 obtain ⟨arr, h1, h2⟩ := h
 exact ⟨arr, k.trans h1, h2⟩
def pS : List (Option Value) := List.replicate 15 none
structure Fix (f : FB) (w : World) : Prop where
 N : Pre w f.N 100 (f.cN * 7) [none, none, none, some (.int .i64 0)]
 M : Pre w f.M 127 (f.cM * 16) [none, none, some (.pointer (some ⟨f.S, 0, none⟩))]
 S : Pre w f.S 109 (f.cS * 16) (pS ++ [some (.pointer (some ⟨f.m, 0, none⟩))])
 m : Pre w f.m 123 (f.cm * 2) [some (.slice (some ⟨f.q, 0, none⟩) 65536 65536)]
def Fr5 (w : World) (b c : Nat) (a0 a1 a2 a3 a4 : Value) : Prop := ∃ arr, w.heap[b]? = some (.cells arr 242 (0, 0)) ∧ arr.size = c * 5 ∧ 5 ≤ arr.size ∧ arr[0]? = some a0 ∧ arr[1]? = some a1 ∧ arr[2]? = some a2 ∧ arr[3]? = some a3 ∧ arr[4]? = some a4
structure IS (f : FB) (w0 : World) (V L : List B64) (nil : Bool) (at_ : Int) (fuel : Nat) (β : Nat → Nat) (w : World) : Prop where
 fr : ∃ v bl cl, Fr5 w f.F f.cF (.pointer (some ⟨f.R, 0, none⟩)) (.pointer (some ⟨f.N, 0, none⟩)) (.int .i64 at_) v (.slice (some ⟨bl, 0, none⟩) L.length cl) ∧ Rw w bl cl L ∧ w0.heap.size ≤ bl ∧
  ((nil = true ∧ V = [] ∧ v = .slice none 0 0) ∨ (nil = false ∧ ∃ bs cs, v = .slice (some ⟨bs, 0, none⟩) V.length cs ∧ Rw w bs cs V ∧ w0.heap.size ≤ bs ∧ bs ≠ bl))
 run : w.heap[f.R]? = some (.cells #[.pointer (some ⟨f.M, 0, none⟩), .int .i64 (fuel : Int), .int .i64 ((0 : Nat) : Int), .int .i64 ((1 : Nat) : Int), .int .i64 ((0 : Nat) : Int)] 140 (0, 0))
 byt : Bt w f.q f.cq β
 fix : Fix f w
 keep : ∀ k, k < w0.heap.size → k ≠ f.q → w.heap[k]? = w0.heap[k]?
 size : w0.heap.size ≤ w.heap.size
 os : w.os = w0.os
 tape : w.tape = w0.tape
 output : w.output = w0.output
 new : w0.heap.size ≤ f.F ∧ w0.heap.size ≤ f.R
 old : f.N < w0.heap.size ∧ f.M < w0.heap.size ∧ f.S < w0.heap.size ∧ f.m < w0.heap.size ∧ f.q < w0.heap.size
def NumC (c : CV) (x : B64) : Prop := ∀ e, c.rel e (.int .u64 (x.toNat : Int))
theorem numC_w (x : B64) : NumC (.w x) x := fun _ => rfl
theorem numC_i (x : B64) : NumC (.int .u64 (.ofNat x.toNat)) x := fun _ => rfl
def envS (f : FB) (bl cl : Nat) (st : Option (Nat × Nat)) : Env := fun n =>
 if n = 1 then some (f.F, f.cF) else if n = 2 then some (f.R, 1) else if n = 3 then some (f.N, f.cN) else if n = 4 then st else if n = 5 then some (bl, cl) else if n = 6 then some (f.M, f.cM) else if n = 7 then some (f.S, f.cS) else if n = 8 then some (f.m, f.cm) else if n = 9 then some (f.q, f.cq) else none
theorem rowOf_ok {e : Env} {w : World} {id b c elem size : Nat} {l : List CV} {arr : Array Value} (he : e id = some (b, c)) (hb : w.heap[b]? = some (.cells arr elem (0, 0))) (hs : arr.size = c * size) (hle : l.length ≤ arr.size) (hl : l.length ≤ 1000000)
  (hc : ∀ (i : Nat) (v : CV), l[i]? = some v → ∃ x, arr[i]? = some x ∧ v.rel e x) : RowOK e id (rowOf l elem size) w :=
 ⟨⟨b, c, he, blk_lt hb⟩, fun _ => ⟨b, c, arr, (0, 0), he, hb, hs, hle, fun _ => rfl, fun i hi => hc i _ (rowOf_at l elem size hl i hi)⟩⟩
theorem pre_ok {e : Env} {w : World} {id b c elem size : Nat} {l : List CV} {o : List (Option Value)} (he : e id = some (b, c)) (h : Pre w b elem (c * size) o) (hl : l.length = o.length) (hm : l.length ≤ 1000000)
  (hc : ∀ (i : Nat) (v : CV), l[i]? = some v → ∃ y, o[i]? = some y ∧ ((v = .any) ∨ ∃ x, y = some x ∧ v.rel e x)) : RowOK e id (rowOf l elem size) w := by
 obtain ⟨arr, h1, h2, h3, h4⟩ := h
 refine rowOf_ok he h1 h2 (by omega) hm fun i v hv => ?_
 obtain ⟨y, hy, hv2⟩ := hc i v hv
 obtain ⟨x, q1, q2, q3⟩ := h4 i y hy
 rcases hv2 with rfl | ⟨x', rfl, hr⟩
 ·exact ⟨x, q1, q2⟩
 ·rw [q3 x' rfl] at q1
  exact ⟨x', q1, hr⟩
theorem rowC_elem {e : Env} {id : Nat} {r : Row} {w : World} (h : RowOK e id r w) (hk : r.kind.read = true) {b c : Nat} (he : e id = some (b, c)) : ∃ arr fr, w.heap[b]? = some (.cells arr r.elem fr) := by
 obtain ⟨b', c', arr, fr, hc⟩ := h.row hk
 have := hc.he
 rw [he] at this
 cases this
 exact ⟨arr, fr, hc.hb⟩
def tagL : List (Nat × Nat) := [(1, 242), (2, 140), (3, 100), (4, 26), (5, 26), (6, 127), (7, 109), (8, 123), (9, 5)]
theorem tag_dec : ∀ p ∈ tagL, ∀ q ∈ tagL, p.2 = q.2 → p.1 = q.1 ∨ (p.1 = 4 ∧ q.1 = 5) ∨ (p.1 = 5 ∧ q.1 = 4) := by decide
theorem stS_tag {V L : List CV} {nil : Bool} {at_ fuel : Nat} {R9 : Row} (h9 : R9.elem = 5) : ∀ x ∈ stS V L nil at_ fuel R9, (x.1, x.2.elem) ∈ tagL := by
 intro x hx
 unfold stS at hx
 simp only [List.mem_append, List.mem_cons, List.not_mem_nil, or_false] at hx
 rcases hx with ((rfl | rfl | rfl) | hx) | rfl | rfl | rfl | rfl | rfl
 ·simp [tagL, rowOf]
 ·simp [tagL, rowOf]
 ·simp [tagL, rowOf]
 ·cases nil with
  | true => cases hx
  | false => rw [List.mem_singleton.1 hx]; simp [tagL, rowOf]
 ·simp [tagL, rowOf]
 ·simp [tagL, rowOf]
 ·simp [tagL, rowOf]
 ·simp [tagL, rowOf]
 ·simp [tagL, h9]
theorem IS.sim {f : FB} {w0 : World} {V L : List B64} {nil : Bool} {at_ fuel : Nat} {β : Nat → Nat} {w : World} (h : IS f w0 V L nil at_ fuel β w) {Vc : List CV} (hVl : Vc.length = V.length) (hVc : ∀ (i : Nat) (c : CV), Vc[i]? = some c → ∃ x, V[i]? = some x ∧ NumC c x)
  {Lc : List CV} (hLl : Lc.length = L.length) (hLc : ∀ (i : Nat) (c : CV), Lc[i]? = some c → ∃ x, L[i]? = some x ∧ NumC c x) (hVm : V.length ≤ 1000) (hLm : L.length ≤ 1000)
  {R9 : Row} (h9 : R9.kind = .live ∧ R9.n = 65536 ∧ R9.elem = 5 ∧ R9.size = 1) (h9c : ∀ j, j < 65536 → ∀ e, (R9.at j).rel e (.int .u8 (β j : Int))) :
  ∃ bl cl st, Sim (envS f bl cl st) (hOf (stS Vc Lc nil at_ fuel R9)) w ∧ w0.heap.size ≤ bl ∧ ∀ bs cs, st = some (bs, cs) → w0.heap.size ≤ bs := by
 obtain ⟨v, bl, cl, ⟨fa, hF, hF5, hF6, hF0, hF1, hF2, hF3, hF4⟩, ⟨la, l1, l2, l3, l4⟩, hbl, hst⟩ := h.fr
 obtain ⟨qa, q1, q2, q3, q4⟩ := h.byt
 obtain ⟨st, hst0, hst1, hst2⟩ : ∃ st : Option (Nat × Nat), (∀ e : Env, e 4 = st → (match nil with | true => CV.snil | false => .sl 4 0 Vc.length (.minus 0)).rel e v) ∧
   (∀ e : Env, e 4 = st → ∀ x ∈ (match nil with | true => ([] : List (Nat × Row)) | false => [(4, rowOf Vc 26 1)]), RowOK e x.1 x.2 w) ∧ (nil = true → st = none) ∧ ∀ bs cs, st = some (bs, cs) → w0.heap.size ≤ bs ∧ bs ≠ bl := by
  rcases hst with ⟨rfl, rfl, rfl⟩ | ⟨rfl, bs, cs, rfl, ⟨sa, s1, s2, s3, s4⟩, s5, s6⟩
  ·exact ⟨none, (fun _ _ => rfl), (fun _ _ x hx => by cases hx), (fun _ => rfl), (fun _ _ hh => by cases hh)⟩
  ·refine ⟨some (bs, cs), (fun e he => ⟨bs, cs, he, by rw [hVl]; rfl⟩), (fun e he x hx => ?_), (fun hh => by cases hh), (fun b c hh => by cases hh; exact ⟨s5, s6⟩)⟩
   rw [List.mem_singleton.1 hx]
   exact rowOf_ok he s1 (by rw [s2, Nat.mul_one]) (by omega) (by omega) fun i c hc => by
    obtain ⟨x, x1, x2⟩ := hVc i c hc
    exact ⟨_, s4 i x x1, x2 _⟩
 have e4 : envS f bl cl st 4 = st := rfl
 have hrow : ∀ x ∈ stS Vc Lc nil at_ fuel R9, RowOK (envS f bl cl st) x.1 x.2 w := by
  intro x hx
  unfold stS at hx
  simp only [List.mem_append, List.mem_cons, List.not_mem_nil, or_false] at hx
  rcases hx with ((rfl | rfl | rfl) | hx) | rfl | rfl | rfl | rfl | rfl
  ·refine rowOf_ok (b := f.F) (c := f.cF) rfl hF hF5 (by simpa using hF6) (by simp) fun i c hc => ?_
   match i, hc with
   | 0, hc => cases hc; exact ⟨_, hF0, f.R, 1, rfl, rfl⟩
   | 1, hc => cases hc; exact ⟨_, hF1, f.N, f.cN, rfl, rfl⟩
   | 2, hc => cases hc; exact ⟨_, hF2, rfl⟩
   | 3, hc => cases hc; exact ⟨_, hF3, hst0 _ e4⟩
   | 4, hc => cases hc; exact ⟨_, hF4, bl, cl, rfl, by rw [hLl]; rfl⟩
  ·refine rowOf_ok (b := f.R) (c := 1) rfl h.run rfl (by simp) (by simp) fun i c hc => ?_
   match i, hc with
   | 0, hc => cases hc; exact ⟨_, rfl, f.M, f.cM, rfl, rfl⟩
   | 1, hc => cases hc; exact ⟨_, rfl, rfl⟩
   | 2, hc => cases hc; exact ⟨_, rfl, rfl⟩
   | 3, hc => cases hc; exact ⟨_, rfl, rfl⟩
   | 4, hc => cases hc; exact ⟨_, rfl, rfl⟩
  ·refine pre_ok (b := f.N) rfl h.fix.N rfl (by simp) fun i c hc => ?_
   match i, hc with
   | 0, hc => cases hc; exact ⟨_, rfl, .inl rfl⟩
   | 1, hc => cases hc; exact ⟨_, rfl, .inl rfl⟩
   | 2, hc => cases hc; exact ⟨_, rfl, .inl rfl⟩
   | 3, hc => cases hc; exact ⟨_, rfl, .inr ⟨_, rfl, rfl⟩⟩
  ·exact hst1 _ e4 x hx
  ·exact rowOf_ok (b := bl) (c := cl) rfl l1 (by rw [l2, Nat.mul_one]) (by omega) (by omega) fun i c hc => by
    obtain ⟨x, x1, x2⟩ := hLc i c hc
    exact ⟨_, l4 i x x1, x2 _⟩
  ·refine pre_ok (b := f.M) rfl h.fix.M rfl (by simp) fun i c hc => ?_
   match i, hc with
   | 0, hc => cases hc; exact ⟨_, rfl, .inl rfl⟩
   | 1, hc => cases hc; exact ⟨_, rfl, .inl rfl⟩
   | 2, hc => cases hc; exact ⟨_, rfl, .inr ⟨_, rfl, f.S, f.cS, rfl, rfl⟩⟩
  ·refine pre_ok (b := f.S) rfl h.fix.S rfl (by simp) fun i c hc => ?_
   match i, hc with
   | 0, hc | 1, hc | 2, hc | 3, hc | 4, hc | 5, hc | 6, hc | 7, hc | 8, hc | 9, hc | 10, hc | 11, hc | 12, hc | 13, hc | 14, hc => cases hc; exact ⟨_, rfl, .inl rfl⟩
   | 15, hc => cases hc; exact ⟨_, rfl, .inr ⟨_, rfl, f.m, f.cm, rfl, rfl⟩⟩
  ·refine pre_ok (b := f.m) rfl h.fix.m rfl (by simp) fun i c hc => ?_
   match i, hc with
   | 0, hc => cases hc; exact ⟨_, rfl, .inr ⟨_, rfl, f.q, f.cq, rfl, rfl⟩⟩
  ·refine ⟨⟨f.q, f.cq, rfl, blk_lt q1⟩, fun _ => ⟨f.q, f.cq, qa, (0, 0), rfl, ?_, ?_, ?_, fun _ => rfl, fun j hj => ?_⟩⟩
   ·show w.heap[f.q]? = some (.cells qa R9.elem (0, 0)); rw [h9.2.2.1]; exact q1
   ·show qa.size = f.cq * R9.size; rw [h9.2.2.2, Nat.mul_one]; exact q2
   ·show R9.n ≤ _; rw [h9.2.1]; omega
   ·have hj : j < R9.n := hj
    rw [h9.2.1] at hj
    exact ⟨_, q4 j hj, h9c j hj _⟩
 refine ⟨bl, cl, st, sim_list _ (fun id hid => ?_) hrow ?_, hbl, fun bs cs hh => (hst2.2 bs cs hh).1⟩
 ·have m : ∀ n, n ∈ [1, 2, 3, 5, 6, 7, 8, 9] → id ≠ n := by
   intro n hn hh
   have : ∃ x ∈ stS Vc Lc nil at_ fuel R9, x.1 = n := by
    unfold stS
    simp only [List.mem_cons, List.not_mem_nil, or_false] at hn
    rcases hn with rfl | rfl | rfl | rfl | rfl | rfl | rfl | rfl <;> simp
   obtain ⟨x, hx, hx1⟩ := this
   exact hid x hx (by rw [hx1, hh])
  unfold envS
  rw [if_neg (m 1 (by simp)), if_neg (m 2 (by simp)), if_neg (m 3 (by simp))]
  by_cases h4 : id = 4
  ·rw [if_pos h4]
   cases hn : nil with
   | true => exact hst2.1 hn
   | false =>
    exfalso
    subst hn
    exact hid (4, rowOf Vc 26 1) (by unfold stS; simp) h4.symm
  ·rw [if_neg h4, if_neg (m 5 (by simp)), if_neg (m 6 (by simp)), if_neg (m 7 (by simp)), if_neg (m 8 (by simp)), if_neg (m 9 (by simp))]
 ·intro x hx y hy hkx hky b c c' e1 e2
  obtain ⟨a1, f1, g1⟩ := rowC_elem (hrow x hx) hkx e1
  obtain ⟨a2, f2, g2⟩ := rowC_elem (hrow y hy) hky e2
  have hel : x.2.elem = y.2.elem := by rw [g1] at g2; injection (Option.some.inj g2)
  rcases tag_dec _ (stS_tag h9.2.2.1 x hx) _ (stS_tag h9.2.2.1 y hy) hel with q | ⟨q1, q2⟩ | ⟨q1, q2⟩
  ·exact q
  ·have q1 : x.1 = 4 := q1
   have q2 : y.1 = 5 := q2
   rw [q1] at e1
   rw [q2] at e2
   have e1 : st = some (b, c) := e1
   have e2 : some (bl, cl) = some (b, c') := e2
   cases e2
   exact absurd rfl (hst2.2 bl c e1).2
  ·have q1 : x.1 = 5 := q1
   have q2 : y.1 = 4 := q2
   rw [q1] at e1
   rw [q2] at e2
   have e2 : st = some (b, c') := e2
   have e1 : some (bl, cl) = some (b, c) := e1
   cases e1
   exact absurd rfl (hst2.2 bl c' e2).2
end Ev
end
section
set_option maxRecDepth 100000
namespace Ev
open Go Go.Proofs
theorem okRow_spec {r : Row} {e s : Nat} (h : okRow r e s = true) : r.kind = .live ∧ r.elem = e ∧ r.size = s := by
 simp only [okRow, Bool.and_eq_true] at h
 refine ⟨?_, Nat.eq_of_beq_eq_true h.1.2, Nat.eq_of_beq_eq_true h.2⟩
 have := h.1.1
 split at this
 ·assumption
 ·cases this
theorem isP_spec {c : CV} {n : Nat} (h : isP c n = true) : c = .ptr n 0 := by
 unfold isP at h
 split at h
 ·rw [Nat.eq_of_beq_eq_true h]
 ·cases h
theorem isJ_spec {c : CV} {n : Nat} (h : isJ c n = true) : c = .int .i64 (.ofNat n) := by
 unfold isJ at h
 split at h
 ·rw [Nat.eq_of_beq_eq_true h]
 ·cases h
theorem onlyIn_spec {m : List Nat} : ∀ {l : List Nat}, onlyIn l m = true → ∀ x ∈ l, x ∈ m
 | [], _, x, hx => by cases hx
 | y :: l, h, x, hx => by
  have e : onlyIn (y :: l) m = Bool.rec (motive := fun _ => Bool) false (onlyIn l m) (memB y m) := rfl
  rw [e] at h
  cases hm : memB y m with
  | false => rw [hm] at h; cases h
  | true =>
   rw [hm] at h
   rcases List.mem_cons.1 hx with rfl | hx
   ·exact memB_in hm
   ·exact onlyIn_spec h x hx
structure FrR (h : H) (r1 r2 : Row) : Prop where
 f1 : h.find 1 = some r1
 f2 : h.find 2 = some r2
 k1 : r1.kind = .live ∧ r1.elem = 242 ∧ r1.size = 5
 n1 : r1.n = 5
 a0 : r1.at 0 = .ptr 2 0
 a1 : r1.at 1 = .ptr 3 0
 k2 : r2.kind = .live ∧ r2.elem = 140 ∧ r2.size = 5
 n2 : r2.n = 5
 b0 : r2.at 0 = .ptr 6 0
 b2 : r2.at 2 = .int .i64 (.ofNat 0)
 b3 : r2.at 3 = .int .i64 (.ofNat 1)
 b4 : r2.at 4 = .int .i64 (.ofNat 0)
theorem stepOut_spec {r : R AV} {ws : List Nat} {o : StO} (hh : stepOut r ws = some o) : ∃ h l r1 r2 r4 r5 i n m, r = .ok (.tup []) h l ∧ FrR h r1 r2 ∧ h.find 5 = some r5 ∧ r1.at 3 = .sl i 0 n (.minus 0) ∧ r1.at 4 = .sl 5 0 m (.minus 0) ∧ h.find i = some r4 ∧
  (r4.kind = .live ∧ r4.elem = 26 ∧ r4.size = 1) ∧ n ≤ r4.n ∧ (r5.kind = .live ∧ r5.elem = 26 ∧ r5.size = 1) ∧ r5.n = m ∧ i ≠ 5 ∧ (∀ x ∈ l.w, x ∈ ws) ∧ o = ⟨r4.cells n 0, r5.cells m 0, r1.at 2, r2.at 1⟩ := by
 unfold stepOut at hh
 split at hh
 ·rename_i h l
  split at hh
  ·rename_i r1 r2 r5 g1 g2 g5
   split at hh
   ·rename_i i n m q1 q2
    split at hh
    ·rename_i r4 g4
     split at hh
     ·rename_i hb
      cases hh
      simp only [Bool.and_eq_true] at hb
      obtain ⟨⟨⟨⟨⟨⟨⟨⟨⟨⟨⟨⟨⟨⟨⟨b1, b2⟩, b3⟩, b4⟩, b5⟩, b6⟩, b7⟩, b8⟩, b9⟩, b10⟩, b11⟩, b12⟩, b13⟩, b14⟩, b15⟩, b16⟩ := hb
      refine ⟨h, l, r1, r2, r4, r5, i, n, m, rfl, ⟨g1, g2, okRow_spec b1, Nat.eq_of_beq_eq_true b2, isP_spec b3, isP_spec b4, okRow_spec b5, Nat.eq_of_beq_eq_true b6, isP_spec b7, isJ_spec b8, isJ_spec b9, isJ_spec b10⟩, g5, q1, q2, g4, okRow_spec b11, Nat.le_of_ble_eq_true b12, okRow_spec b13, Nat.eq_of_beq_eq_true b14, ?_, onlyIn_spec b16, rfl⟩
      intro h5
      subst h5
      cases b15
     ·cases hh
    ·cases hh
   ·cases hh
  ·cases hh
 ·cases hh
def NumB (c : CV) (x : B64) : Prop := ∀ e v, c.rel e v → v = .int .u64 (x.toNat : Int)
theorem numB_w (x : B64) : NumB (.w x) x := fun _ _ h => h
theorem arr5 {arr : Array Value} {a b c d e : Value} (hs : arr.size = 5) (h0 : arr[0]? = some a) (h1 : arr[1]? = some b) (h2 : arr[2]? = some c) (h3 : arr[3]? = some d) (h4 : arr[4]? = some e) : arr = #[a, b, c, d, e] := by
 apply Array.ext_getElem?
 intro i
 match i with
 | 0 => exact h0
 | 1 => exact h1
 | 2 => exact h2
 | 3 => exact h3
 | 4 => exact h4
 | i + 5 => rw [Array.getElem?_eq_none (by omega), Array.getElem?_eq_none (by simp)]
structure Was (f : FB) (w0 : World) (bl cl : Nat) (st : Option (Nat × Nat)) : Prop where
 l : w0.heap.size ≤ bl
 s : ∀ bs cs, st = some (bs, cs) → w0.heap.size ≤ bs
theorem envS_new {f : FB} {w0 : World} {bl cl : Nat} {st : Option (Nat × Nat)} (hw : Was f w0 bl cl st) (hn : w0.heap.size ≤ f.F ∧ w0.heap.size ≤ f.R) {id b c : Nat} (h : envS f bl cl st id = some (b, c)) : w0.heap.size ≤ b ∨ ((id = 3 ∧ b = f.N) ∨ (id = 6 ∧ b = f.M) ∨ (id = 7 ∧ b = f.S) ∨ (id = 8 ∧ b = f.m) ∨ (id = 9 ∧ b = f.q)) := by
 unfold envS at h
 split at h
 ·cases h; exact .inl hn.1
 split at h
 ·cases h; exact .inl hn.2
 split at h
 ·rename_i q; cases h; exact .inr (.inl ⟨q, rfl⟩)
 split at h
 ·exact .inl (hw.s _ _ h)
 split at h
 ·cases h; exact .inl hw.l
 split at h
 ·rename_i q; cases h; exact .inr (.inr (.inl ⟨q, rfl⟩))
 split at h
 ·rename_i q; cases h; exact .inr (.inr (.inr (.inl ⟨q, rfl⟩)))
 split at h
 ·rename_i q; cases h; exact .inr (.inr (.inr (.inr (.inl ⟨q, rfl⟩))))
 split at h
 ·rename_i q; cases h; exact .inr (.inr (.inr (.inr (.inr ⟨q, rfl⟩))))
 ·cases h
theorem old_stay {f : FB} {w0 w w' : World} {bl cl : Nat} {st : Option (Nat × Nat)} {e' : Env} {W : List Nat} {lo hi : Nat} (hw : Was f w0 bl cl st) (hn : w0.heap.size ≤ f.F ∧ w0.heap.size ≤ f.R) (hs : Stp lo hi W (envS f bl cl st) w e' w') (hW : ∀ x ∈ W, x ∈ [1, 2, 4, 5, 9]) (hlo : 10 ≤ lo)
  (hsz : w0.heap.size ≤ w.heap.size) {k : Nat} (hk : k < w0.heap.size) (hq : k ≠ f.q ∨ 9 ∉ W) : w'.heap[k]? = w.heap[k]? := by
 refine hs.block k (by omega) fun id hid c he => ?_
 rcases envS_new hw hn he with h | h
 ·omega
 ·have hid2 : id ∈ W := by
   rcases hid with q | q
   ·exact q
   ·omega
  have h5 := hW id hid2
  simp only [List.mem_cons, List.not_mem_nil, or_false] at h5
  rcases h with ⟨rfl, _⟩ | ⟨rfl, _⟩ | ⟨rfl, _⟩ | ⟨rfl, _⟩ | ⟨rfl, h⟩
  ·omega
  ·omega
  ·omega
  ·omega
  ·rcases hq with hq | hq
   ·exact hq h
   ·exact hq hid2
theorem Pre.elem {w : World} {b e s : Nat} {l : List (Option Value)} (h : Pre w b e s l) : ∃ arr, w.heap[b]? = some (.cells arr e (0, 0)) := by
 obtain ⟨arr, h1, _⟩ := h
 exact ⟨arr, h1⟩
theorem IS.back {f : FB} {w0 w w' : World} {V L V' L' : List B64} {nil : Bool} {at_ at2 : Int} {fuel fuel2 : Nat} {β β' : Nat → Nat} (I : IS f w0 V L nil at_ fuel β w) {bl cl : Nat} {st : Option (Nat × Nat)} (hw : Was f w0 bl cl st) {e' : Env} {h' : H} {l : Log} {lo hi : Nat}
  (hs : Sim e' h' w') (hst : Stp lo hi l.w (envS f bl cl st) w e' w') (hlo : 10 ≤ lo) (hW : ∀ x ∈ l.w, x ∈ [1, 2, 4, 5, 9]) (hB : Bt w' f.q f.cq β') {r : R AV} (hr : r = .ok (.tup []) h' l) {ws : List Nat} {o : StO} (ho : stepOut r ws = some o)
  (hV : o.V.length = V'.length ∧ ∀ (i : Nat) (c : CV), o.V[i]? = some c → ∃ x, V'[i]? = some x ∧ NumB c x) (hL : o.L.length = L'.length ∧ ∀ (i : Nat) (c : CV), o.L[i]? = some c → ∃ x, L'[i]? = some x ∧ NumB c x)
  (hat : o.at_ = .int .i64 at2) (hfu : o.fuel = .int .i64 (fuel2 : Int)) : IS f w0 V' L' false at2 fuel2 β' w' := by
 obtain ⟨h2, l2, r1, r2, r4, r5, i, n, m, hr2, F, g5, q3, q4, g4, k4, n4, k5, n5, hi5, hws, rfl⟩ := stepOut_spec ho
 rw [hr] at hr2
 cases hr2
 have ex := hst.ext
 have e1 : e' 1 = some (f.F, f.cF) := ex 1 _ rfl
 have e2 : e' 2 = some (f.R, 1) := ex 2 _ rfl
 have e3 : e' 3 = some (f.N, f.cN) := ex 3 _ rfl
 have e5 : e' 5 = some (bl, cl) := ex 5 _ rfl
 have e6 : e' 6 = some (f.M, f.cM) := ex 6 _ rfl
 have stay : ∀ k, k < w0.heap.size → k ≠ f.q → w'.heap[k]? = w.heap[k]? := fun k hk hq => old_stay hw I.new hst hW hlo I.size hk (.inl hq)
 obtain ⟨qa, q1, q2⟩ := I.byt
 have nq : ∀ {b e s : Nat} {o : List (Option Value)}, Pre w b e s o → e ≠ 5 → b ≠ f.q := by
  intro b e s o hp hne hbq
  obtain ⟨arr, ha⟩ := hp.elem
  rw [hbq, q1] at ha
  injection (Option.some.inj ha) with _ hh
  exact hne hh.symm
 have fixN := I.fix.N.keep (stay _ I.old.1 (nq I.fix.N (by decide)))
 have fixM := I.fix.M.keep (stay _ I.old.2.1 (nq I.fix.M (by decide)))
 have fixS := I.fix.S.keep (stay _ I.old.2.2.1 (nq I.fix.S (by decide)))
 have fixm := I.fix.m.keep (stay _ I.old.2.2.2.1 (nq I.fix.m (by decide)))
 obtain ⟨b1, c1, arr1, fr1, hc1⟩ := (hs.row 1 r1 F.f1).row (by rw [F.k1.1]; rfl)
 obtain ⟨b2, c2, arr2, fr2, hc2⟩ := (hs.row 2 r2 F.f2).row (by rw [F.k2.1]; rfl)
 obtain ⟨b4, c4, arr4, fr4, hc4⟩ := (hs.row i r4 g4).row (by rw [k4.1]; rfl)
 obtain ⟨b5, c5, arr5', fr5, hc5⟩ := (hs.row 5 r5 g5).row (by rw [k5.1]; rfl)
 have z1 := hc1.he; rw [e1] at z1; cases z1
 have z2 := hc2.he; rw [e2] at z2; cases z2
 have z5 := hc5.he; rw [e5] at z5; cases z5
 have fz1 := hc1.fz F.k1.1; subst fz1
 have fz2 := hc2.fz F.k2.1; subst fz2
 have fz4 := hc4.fz k4.1; subst fz4
 have fz5 := hc5.fz k5.1; subst fz5
 have s1 := hc1.sz; rw [F.k1.2.2] at s1
 have s2 := hc2.sz; rw [F.k2.2.2, Nat.one_mul] at s2
 have s4 := hc4.sz; rw [k4.2.2, Nat.mul_one] at s4
 have s5 := hc5.sz; rw [k5.2.2, Nat.mul_one] at s5
 have hb1 := hc1.hb; rw [F.k1.2.1] at hb1
 have hb2 := hc2.hb; rw [F.k2.2.1] at hb2
 have hb4 := hc4.hb; rw [k4.2.1] at hb4
 have hb5 := hc5.hb; rw [k5.2.1] at hb5
 have cell1 : ∀ j, j < 5 → ∃ x, arr1[j]? = some x ∧ (r1.at j).rel e' x := fun j hj => hc1.cell j (by rw [F.n1]; exact hj)
 have cell2 : ∀ j, j < 5 → ∃ x, arr2[j]? = some x ∧ (r2.at j).rel e' x := fun j hj => hc2.cell j (by rw [F.n2]; exact hj)
 obtain ⟨x0, x0a, x0b⟩ := cell1 0 (by omega)
 obtain ⟨x1, x1a, x1b⟩ := cell1 1 (by omega)
 obtain ⟨x2, x2a, x2b⟩ := cell1 2 (by omega)
 obtain ⟨x3, x3a, x3b⟩ := cell1 3 (by omega)
 obtain ⟨x4, x4a, x4b⟩ := cell1 4 (by omega)
 obtain ⟨y0, y0a, y0b⟩ := cell2 0 (by omega)
 obtain ⟨y1, y1a, y1b⟩ := cell2 1 (by omega)
 obtain ⟨y2, y2a, y2b⟩ := cell2 2 (by omega)
 obtain ⟨y3, y3a, y3b⟩ := cell2 3 (by omega)
 obtain ⟨y4, y4a, y4b⟩ := cell2 4 (by omega)
 rw [F.a0] at x0b
 rw [F.a1] at x1b
 rw [show r1.at 2 = _ from hat] at x2b
 rw [q3] at x3b
 rw [q4] at x4b
 rw [F.b0] at y0b
 rw [show r2.at 1 = _ from hfu] at y1b
 rw [F.b2] at y2b
 rw [F.b3] at y3b
 rw [F.b4] at y4b
 obtain ⟨_, _, p0, rfl⟩ := x0b
 rw [e2] at p0; cases p0
 obtain ⟨_, _, p1, rfl⟩ := x1b
 rw [e3] at p1; cases p1
 obtain ⟨_, _, p3, rfl⟩ := x3b
 rw [hc4.he] at p3; cases p3
 obtain ⟨_, _, p4, rfl⟩ := x4b
 rw [e5] at p4; cases p4
 obtain ⟨_, _, p6, rfl⟩ := y0b
 rw [e6] at p6; cases p6
 have x2b : x2 = _ := x2b
 have y1b : y1 = _ := y1b
 have y2b : y2 = _ := y2b
 have y3b : y3 = _ := y3b
 have y4b : y4 = _ := y4b
 subst x2b y1b y2b y3b y4b
 have hn : n = V'.length := by rw [← hV.1]; exact (cells_length r4 n 0).symm
 have hm : m = L'.length := by rw [← hL.1]; exact (cells_length r5 m 0).symm
 have hcells : ∀ (r : Row) (k j : Nat), j < k → (r.cells k 0)[j]? = some (r.at j) := fun r k j hj => by rw [cells_get, if_pos hj, Nat.zero_add]
 have hb : w0.heap.size ≤ b4 := by
  have notold : ∀ b e s (o : List (Option Value)), Pre w' b e s o → e ≠ 26 → b4 ≠ b := by
   intro b e s o hp hne hbb
   obtain ⟨arr, ha⟩ := hp.elem
   rw [← hbb, hb4] at ha
   injection (Option.some.inj ha) with _ hh
   exact hne hh.symm
  have notq : b4 ≠ f.q := by
   obtain ⟨qa', q1', _⟩ := hB
   intro hbb
   rw [← hbb, hb4] at q1'
   injection (Option.some.inj q1') with _ hh
   cases hh
  have nob : ∀ id c, envS f bl cl st id = some (b4, c) → w0.heap.size ≤ b4 := fun id c he => by
   rcases envS_new hw I.new he with h | ⟨_, h⟩ | ⟨_, h⟩ | ⟨_, h⟩ | ⟨_, h⟩ | ⟨_, h⟩
   ·exact h
   ·exact absurd h (notold _ _ _ _ fixN (by decide))
   ·exact absurd h (notold _ _ _ _ fixM (by decide))
   ·exact absurd h (notold _ _ _ _ fixS (by decide))
   ·exact absurd h (notold _ _ _ _ fixm (by decide))
   ·exact absurd h notq
  cases hei : envS f bl cl st i with
  | some p =>
   have := ex i p hei
   rw [hc4.he] at this
   cases this
   exact nob i c4 hei
  | none =>
   rcases hst.new i b4 c4 hei hc4.he with h | ⟨j, _, c3, hj⟩
   ·have := I.size; omega
   ·exact nob j c3 hj
 refine ⟨⟨_, bl, cl, ?_, ⟨arr5', hb5, s5, ?_, fun j x hx => ?_⟩, hw.l, .inr ⟨rfl, b4, c4, rfl, ⟨arr4, hb4, s4, ?_, fun j x hx => ?_⟩, hb, ?_⟩⟩, ?_, hB, ⟨fixN, fixM, fixS, fixm⟩, fun k hk hq => (stay k hk hq).trans (I.keep k hk hq), Nat.le_trans I.size hst.size, hst.os.trans I.os, hst.tape.trans I.tape, hst.output.trans I.output, I.new, I.old⟩
 ·exact ⟨arr1, hb1, s1, by have := hc1.le; rw [F.n1] at this; exact this, x0a, x1a, x2a, by rw [← hn]; exact x3a, by rw [← hm]; exact x4a⟩
 ·have := hc5.le; omega
 ·have hj : j < m := by rw [hm]; exact (List.getElem?_eq_some_iff.1 hx).1
  obtain ⟨v, v1, v2⟩ := hc5.cell j (by omega)
  obtain ⟨x', x1', x2'⟩ := hL.2 j _ (hcells r5 m j hj)
  rw [hx] at x1'; cases x1'
  rw [v1, x2' _ _ v2]
 ·have := hc4.le; omega
 ·have hj : j < n := by rw [hn]; exact (List.getElem?_eq_some_iff.1 hx).1
  obtain ⟨v, v1, v2⟩ := hc4.cell j (by omega)
  obtain ⟨x', x1', x2'⟩ := hV.2 j _ (hcells r4 n j hj)
  rw [hx] at x1'; cases x1'
  rw [v1, x2' _ _ v2]
 ·intro hbb
  subst hbb
  exact hi5 (hs.inj i 5 r4 r5 b4 c4 cl g4 (by rw [k4.1]; rfl) g5 (by rw [k5.1]; rfl) hc4.he e5)
 ·rw [hb2, arr5 s2 y0a y1a y2a y3a y4a]
  rfl
end Ev
end
