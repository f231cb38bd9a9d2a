/-
  Texts VcOf, VcTk, VcTw, VcOg.
-/
import Derived.Test.YtcpfabkokgiepaaQ05
import Derived.Test.YtcpfabkokgiepaaQ08
import Derived.Laws.IdiomStrings
set_option linter.unusedSimpArgs false
set_option linter.unusedVariables false
set_option maxHeartbeats 8000000
open Pl
section
namespace Go.Proofs.Ytcpfabkokgiepaa
open Go.RowKit Pl
end Go.Proofs.Ytcpfabkokgiepaa
namespace Pl
def tyOf (c : UInt8) : Int := if c = 108 then 126 else if c = 118 then 123 else 127
def sN (st : Bool × List Int × List Int) (c : UInt8) : Bool × List Int × List Int :=
 if c = 58 then (true, st.2.1, st.2.2) else if st.1 then (true, st.2.1, st.2.2 ++ [tyOf c]) else (false, st.2.1 ++ [tyOf c], st.2.2)
def fY (l : List UInt8) : Bool × List Int × List Int := l.foldl sN (false, [], [])
theorem sigOf_take (l : List UInt8) (j : Nat) (h : j < l.length) : fY (l.take (j + 1)) = sN (fY (l.take j)) l[j] := by
 unfold fY
 rw [List.take_succ_eq_append_getElem h, List.foldl_append]
 rfl
end Pl
namespace Go.Proofs.Ytcpfabkokgiepaa
open Go.RowKit Pl
structure InfoSt (W : World) (I : Nat) (form lim : Int) (pl : Bool) (s t : Value) (xs ys : List Int) (u : World) : Prop where
 grown : W.grownBy u (some I)
 blk : u.heap[I]? = some (.cells #[.int .i64 form, .int .i64 lim, .bool pl, s, t] 40 (0, 0))
 inn : u.ownsRow W.heap.size 3 1 s xs.length (xs.map (Value.int .i64))
 out : u.ownsRow W.heap.size 3 1 t ys.length (ys.map (Value.int .i64))
 apart : ∀ k, s.ownBlock = some k → t.ownBlock ≠ some k
 lt : I < W.heap.size
theorem InfoSt.start {W : World} {I : Nat} {form lim : Int} {pl : Bool} (h : W.heap[I]? = some (.cells #[.int .i64 form, .int .i64 lim, .bool pl, .slice none 0 0, .slice none 0 0] 40 (0, 0))) :
 InfoSt W I form lim pl (.slice none 0 0) (.slice none 0 0) [] [] W :=
 ⟨grown_refl _ _, h, World.ownsRow_nil _ _ _ _, World.ownsRow_nil _ _ _ _, fun k hk => by simp [Value.ownBlock] at hk, mF h⟩
theorem vG {u u1 : World} {B : Nat} {v : Value} {n : Nat} {xs : List Value} (h : u.ownsRow B 3 1 v n xs) {r : Option Nat} (hg : u.grownBy u1 r) (hne : ∀ k, v.ownBlock = some k → r ≠ some k) : u1.ownsRow B 3 1 v n xs :=
 h.kept hg (by
  cases hv : v.ownBlock with
  | none => exact .inl rfl
  | some k => exact .inr (fun e => hne k hv (by rw [← e])))
theorem InfoSt.into {W u u1 u2 u3 : World} {I : Nat} {form lim : Int} {pl : Bool} {s t v : Value} {xs ys xs' : List Int} (h : InfoSt W I form lim pl s t xs ys u)
 (h1 : Below u.heap.size u u1) (h2 : u2.ownsRow W.heap.size 3 1 v xs'.length (xs'.map (Value.int .i64))) (g2 : u1.grownBy u2 s.ownBlock) (a2 : v.ownBlock = s.ownBlock ∨ v.ownBlock = some u1.heap.size)
 (g3 : u2.grownBy u3 (some I)) (b3 : u3.heap[I]? = some (.cells #[.int .i64 form, .int .i64 lim, .bool pl, v, t] 40 (0, 0))) : InfoSt W I form lim pl v t xs' ys u3 := by
 have hsz := h.grown.size
 have hI := h.lt
 refine ⟨eN (grown_far (grown_far h.grown (rH (r := none) h1) (fun g e => by cases e)) g2 (fun g e => (h.inn.lt g e).1)) g3, b3, vG h2 g3 (fun k hk e => ?_), vG (vG (vG h.out (rH (r := none) h1) (fun k _ e => by cases e)) g2 (fun k hk e => h.apart k e hk)) g3 (fun k hk e => ?_), fun k hk hk2 => ?_, hI⟩
 ·injection e with e
  have := (h2.lt k hk).1
  omega
 ·injection e with e
  have := (h.out.lt k hk).1
  omega
 ·rcases a2 with e | e
  ·exact h.apart k (e ▸ hk) hk2
  ·have h5 := (h.out.lt k hk2).2
   have h6 := h1.size
   rw [e] at hk
   injection hk with hk
   omega
theorem InfoSt.onto {W u u1 u2 u3 : World} {I : Nat} {form lim : Int} {pl : Bool} {s t v : Value} {xs ys ys' : List Int} (h : InfoSt W I form lim pl s t xs ys u)
 (h1 : Below u.heap.size u u1) (h2 : u2.ownsRow W.heap.size 3 1 v ys'.length (ys'.map (Value.int .i64))) (g2 : u1.grownBy u2 t.ownBlock) (a2 : v.ownBlock = t.ownBlock ∨ v.ownBlock = some u1.heap.size)
 (g3 : u2.grownBy u3 (some I)) (b3 : u3.heap[I]? = some (.cells #[.int .i64 form, .int .i64 lim, .bool pl, s, v] 40 (0, 0))) : InfoSt W I form lim pl s v xs ys' u3 := by
 have hsz := h.grown.size
 have hI := h.lt
 refine ⟨eN (grown_far (grown_far h.grown (rH (r := none) h1) (fun g e => by cases e)) g2 (fun g e => (h.out.lt g e).1)) g3, b3, vG (vG (vG h.inn (rH (r := none) h1) (fun k _ e => by cases e)) g2 (fun k hk e => h.apart k hk e)) g3 (fun k hk e => ?_), vG h2 g3 (fun k hk e => ?_), fun k hk hk2 => ?_, hI⟩
 ·injection e with e
  have := (h.inn.lt k hk).1
  omega
 ·injection e with e
  have := (h2.lt k hk).1
  omega
 ·rcases a2 with e | e
  ·exact h.apart k hk (e ▸ hk2)
  ·have h5 := (h.inn.lt k hk).2
   have h6 := h1.size
   rw [e] at hk2
   injection hk2 with hk2
   omega
theorem conv_str {ops : Array Oper} {rest : List Oper} {o : Oper} {a : Act} {w : World} {Q : Exit → Act → World → Prop} (hgd : o.guard = none) (x : Operand) (ho : o.op = .convert 9 80 x) (l : List UInt8) (hx : a.eval x = .string ⟨l.toArray⟩)
 (h : ∀ Y c w', w.heap.size ≤ Y → Below w.heap.size w w' → (∀ j (hj : j < l.length), w'.cell? ⟨Y, j, none⟩ = some (.int .u8 (l[j].toNat : Int))) → Y < w'.heap.size → wpList Try.prog ops Q rest (a.put o.dst (.slice (some ⟨Y, 0, none⟩) l.length c)) w') : wpList Try.prog ops Q (o :: rest) a w := by
 refine wpList_plain hgd fun K hK => ?_
 have hr := run_bytes_of_string (P := Try.prog) w 9 80 5 ⟨l.toArray⟩ (by kernel_rfl) (by kernel_rfl) (by kernel_rfl)
 have hs : (ByteArray.mk l.toArray).size = l.length := rfl
 rw [hs] at hr
 unfold Oper.wp execOp
 simp only [ho, hx, Sem.run_bind, hr, Result.andThen_ok]
 refine hK _ _ (h w.heap.size _ _ (Nat.le_refl _) ((Below.refl _ _).drew.alloc (Nat.le_refl _) _) (fun j hj => ?_) (by show w.heap.size < (w.heap.push _).size; simp))
 have hb : (w.drew.alloc (.cells (bytesRow ⟨l.toArray⟩ (grownCap w l.length 0 5)) 5 ((bytesRow ⟨l.toArray⟩ (grownCap w l.length 0 5)).size, (bytesRow ⟨l.toArray⟩ (grownCap w l.length 0 5)).size + 1))).heap[w.heap.size]? = _ := heap_alloc_new w.drew _
 simp only [World.cell?, hb]
 unfold bytesRow
 rw [Array.getElem?_append_left (by simpa using hj)]
 simp [hj]
theorem ix1 {ops : Array Oper} {rest : List Oper} {o : Oper} {a : Act} {w : World} {Q : Exit → Act → World → Prop} (hgd : o.guard = none) (T : TypeId) (hs : ∀ u, (sizeOf (Try.prog.elem T)).run Try.prog u = .ok 1 u) (hu : Try.prog.underlying T = some (.slice (Try.prog.elem T))) (x i : Operand) (ho : o.op = .indexAddr T x i) (b off n c : Nat) (hx : a.eval x = .slice (some ⟨b, off, none⟩) n c) (z : Int) (hi : a.eval i = .int .i64 z) (k : Nat) (hz : z = k) (hk : k < n)
 (h : wpList Try.prog ops Q rest (a.put o.dst (.pointer (some ⟨b, off + k, none⟩))) w) : wpList Try.prog ops Q (o :: rest) a w := by
 have h2 : (0 ≤ z ∧ z < (n : Int)) := by omega
 refine wpList_plain hgd fun K hK => ?_
 unfold Oper.wp execOp
 simp only [ho, hx, hi, Sem.run_bind, run_indexAt_slice (h := hu)]
 rw [if_pos h2, hs]
 subst hz
 have := hK _ _ h
 simpa [Go.Addr.add_mid, go_sem] using this
theorem ld1 {ops : Array Oper} {rest : List Oper} {o : Oper} {a : Act} {w : World} {Q : Exit → Act → World → Prop} (hgd : o.guard = none) (T : TypeId) (ha : ∀ w, (isAgg T).run Try.prog w = .ok false w) (x : Operand) (ho : o.op = .load T x) (ad : Addr) (hx : a.eval x = .pointer (some ad)) (v : Value) (hc : w.cell? ad = some v)
 (h : wpList Try.prog ops Q rest (a.put o.dst v) w) : wpList Try.prog ops Q (o :: rest) a w := by
 refine wpList_plain hgd fun K hK => ?_
 have ha := ha w
 exact qP
theorem dR : ∀ u, (sizeOf (Try.prog.elem 80)).run Try.prog u = .ok 1 u := fun u => by kernel_rfl
theorem fE : Try.prog.underlying 80 = some (.slice (Try.prog.elem 80)) := by kernel_rfl
theorem e9 (w : World) : (isAgg 5).run Try.prog w = .ok false w := by kernel_rfl
set_option maxRecDepth 100000 in
theorem iunder : ∃ fs, Try.prog.underlying 40 = some (.struct fs) := ⟨_, rfl⟩
theorem eC {ops : Array Oper} {rest : List Oper} {o : Oper} {a : Act} {w : World} {Q : Exit → Act → World → Prop} (hgd : o.guard = none) (x : Operand) (ho : o.op = .load 40 x) (b : Nat) (hx : a.eval x = .pointer (some ⟨b, 0, none⟩)) (c0 c1 c2 c3 c4 : Value)
 (hb : w.heap[b]? = some (.cells #[c0, c1, c2, c3, c4] 40 (0, 0))) (h : wpList Try.prog ops Q rest (a.put o.dst (.agg #[c0, c1, c2, c3, c4])) w) : wpList Try.prog ops Q (o :: rest) a w := by
 obtain ⟨fs, hf⟩ := iunder
 exact wpList_load_mid hgd 40 x ho b 0 hx [c0, c1, c2, c3, c4] _ (fun j v hj => by simp only [World.cell?, hb, Nat.zero_add]; simpa using hj) hf rfl (sW c0 c1 c2 c3 c4) h
theorem rM {fn : Func} {p q : Tmp} (h : fn.results = #[.cell p 40, .tmp q]) (tmps : Array Value) (w : World) (g : Nat) (c0 c1 c2 c3 c4 : Value) (y : Value)
 (hp : tmps.getD p undef = .pointer (some ⟨g, 0, none⟩)) (hq : tmps.getD q undef = y) (hg : w.heap[g]? = some (.cells #[c0, c1, c2, c3, c4] 40 (0, 0))) :
 (results fn tmps).run Try.prog w = .ok (.tuple #[.agg #[c0, c1, c2, c3, c4], y]) w := by
 obtain ⟨fs, hf⟩ := iunder
 have hp' : tmps[p]?.getD undef = .pointer (some ⟨g, 0, none⟩) := by simpa using hp
 have hq' : tmps[q]?.getD undef = y := by simpa using hq
 simp [results, h, hp', hq', asAddr, run_loadVar_row w g 40 40 #[c0, c1, c2, c3, c4] (0, 0) _ hg hf rfl (sW c0 c1 c2 c3 c4)]
theorem uE {ops : Array Oper} {rest : List Oper} {o : Oper} {a : Act} {w : World} {Q : Exit → Act → World → Prop} (hgd : o.guard = none) (x y : Operand) (ho : o.op = .store 40 x y) (g : Nat) (c0 c1 c2 c3 c4 d0 d1 d2 d3 d4 : Value) (hx : a.eval x = .pointer (some ⟨g, 0, none⟩)) (hy : a.eval y = .agg #[c0, c1, c2, c3, c4])
 (hg : w.heap[g]? = some (.cells #[d0, d1, d2, d3, d4] 40 (0, 0))) (h1 : #[c0, c1, c2, c3, c4].all (·.oneCell') = true)
 (h : ∀ w', w.grownBy w' (some g) → w'.heap[g]? = some (.cells #[c0, c1, c2, c3, c4] 40 (0, 0)) → wpList Try.prog ops Q rest (a.put o.dst undef) w') : wpList Try.prog ops Q (o :: rest) a w :=
 wpList_store_row hgd 40 x y ho g #[c0, c1, c2, c3, c4] hx hy 40 _ hg (sW c0 c1 c2 c3 c4) rfl h1 (h _ ⟨rfl, rfl, rfl, by simp, fun k _ hk => setRow_other w g k _ (fun e => hk (by rw [e]))⟩ (setRow_heap w g _ _ 40 _ hg))
theorem InfoSt.blk2 {W u u1 u2 : World} {I : Nat} {form lim : Int} {pl : Bool} {s t : Value} {xs ys : List Int} (h : InfoSt W I form lim pl s t xs ys u) (h1 : Below u.heap.size u u1) {r : Option Nat} (g2 : u1.grownBy u2 r) (hr : ∀ k, r = some k → W.heap.size ≤ k) :
 u2.heap[I]? = some (.cells #[.int .i64 form, .int .i64 lim, .bool pl, s, t] 40 (0, 0)) := by
 have h5 := h.grown.size
 have h6 := h.lt
 have h7 := h1.size
 rw [g2.block I (by omega) (fun e => by have := hr I e.symm; omega), h1.block I (by omega)]
 exact h.blk
theorem InfoSt.keep {W u : World} {I : Nat} {form lim : Int} {pl : Bool} {s t : Value} {xs ys : List Int} (h : InfoSt W I form lim pl s t xs ys u) {Y : Nat} (hY : Y < W.heap.size) (hne : Y ≠ I) : u.heap[Y]? = W.heap[Y]? := h.grown.block Y hY (fun e => hne (by injection e))
theorem eE {u : World} {B B' : Nat} {v : Value} {n : Nat} {xs : List Value} (h : u.ownsRow B 3 1 v n xs) (hB : B' ≤ B) : u.ownsRow B' 3 1 v n xs :=
 ⟨h.1, h.2.imp id (fun ⟨g, cap, cur, e1, e2, e3⟩ => ⟨g, cap, cur, e1, by omega, e3⟩)⟩
theorem tL {u : World} {B : Nat} {v : Value} {n : Nat} {xs : List Value} (h : u.ownsRow B 3 1 v n xs) : v.oneCell' = true ∧ v.cells = #[v] := by
 rcases h.2 with ⟨rfl, _⟩ | ⟨g, cap, cur, rfl, _⟩ <;> exact ⟨rfl, rfl⟩
theorem sigStep_col (b : Bool) (xs ys : List Int) : sN (b, xs, ys) 58 = (true, xs, ys) := rfl
theorem sigStep_in (xs ys : List Int) (c : UInt8) (h : c ≠ 58) : sN (false, xs, ys) c = (false, xs ++ [tyOf c], ys) := by unfold sN; rw [if_neg h]; rfl
theorem sigStep_out (xs ys : List Int) (c : UInt8) (h : c ≠ 58) : sN (true, xs, ys) c = (true, xs, ys ++ [tyOf c]) := by unfold sN; rw [if_neg h]; rfl
theorem sigStep_len (st : Bool × List Int × List Int) (c : UInt8) : (sN st c).2.1.length + (sN st c).2.2.length ≤ st.2.1.length + st.2.2.length + 1 := by
 unfold sN
 split
 ·simp
 ·split <;> simp <;> omega
theorem sigFold_len (l : List UInt8) : ∀ st : Bool × List Int × List Int, (l.foldl sN st).2.1.length + (l.foldl sN st).2.2.length ≤ st.2.1.length + st.2.2.length + l.length := by
 induction l with
 | nil => intro st; simp
 | cons c l ih =>
   intro st
   rw [List.foldl_cons, List.length_cons]
   have h1 := ih (sN st c)
   have h2 := sigStep_len st c
   omega
theorem sigOf_len (l : List UInt8) : (fY l).2.1.length + (fY l).2.2.length ≤ l.length := by
 have := sigFold_len l (false, [], [])
 simpa [fY] using this
end Go.Proofs.Ytcpfabkokgiepaa
end
section
namespace Go.Proofs.Ytcpfabkokgiepaa
open Go.RowKit Pl
end Go.Proofs.Ytcpfabkokgiepaa
namespace Pl
open Go
def tQ (lo hi : Nat) : Vec := t7 (t7 0 64 0 lo) 64 1 hi
def tX : List Int → List Nat → Option (List Vec)
 | [], [] => some []
 | [], _ :: _ => none
 | t :: ts, hs =>
   if t = 123 then
    match hs with
    | lo :: hi :: r => (tX ts r).map (tQ lo hi :: ·)
    | _ => none
   else if t = 127 ∨ t = 126 then
    match hs with
    | lo :: r => (tX ts r).map (tQ (if t = 127 then lo % 4294967296 else lo) 0 :: ·)
    | _ => none
   else none
def sM (l : List Vec) : List Value := l.flatMap fun v => (mY v).toList
theorem length_vcells (l : List Vec) : (sM l).length = l.length * 16 := by
 induction l with
 | nil => rfl
 | cons v l ih =>
   unfold sM at ih ⊢
   rw [List.flatMap_cons, List.length_append, ih]
   have : (mY v).toList.length = 16 := by simp
   rw [this, List.length_cons]
   omega
theorem vcells_append (l : List Vec) (v : Vec) : sM (l ++ [v]) = sM l ++ (mY v).toList := by simp [sM]
end Pl
namespace Go.Proofs.Ytcpfabkokgiepaa
open Go.RowKit Pl
structure LView (k : IntKind) (w : World) (v : Value) (l : List Int) : Prop where
 ex : ∃ ad c, v = .slice ad l.length c ∧ l.length ≤ c ∧ (l.length = 0 ∨ ∃ b off, ad = some ⟨b, off, none⟩ ∧ b < w.heap.size ∧ ∀ i z, l[i]? = some z → w.cell? ⟨b, off + i, none⟩ = some (.int k z))
theorem LView.below {k : IntKind} {w w1 : World} {v : Value} {l : List Int} (h : LView k w v l) (hb : Below w.heap.size w w1) : LView k w1 v l := by
 obtain ⟨ad, c, e, hc, h⟩ := h.ex
 refine ⟨ad, c, e, hc, h.imp id fun ⟨b, off, e1, hlt, hx⟩ => ⟨b, off, e1, Nat.lt_of_lt_of_le hlt hb.size, fun i z hi => ?_⟩⟩
 have := hx i z hi
 unfold World.cell? at this ⊢
 rw [hb.block b hlt]
 exact this
theorem LView.of_own {w : World} {B : Nat} {v : Value} {l : List Int} (h : w.ownsRow B 3 1 v l.length (l.map (Value.int .i64))) : LView .i64 w v l := by
 rcases h.2 with ⟨rfl, h0⟩ | ⟨g, cap, cur, rfl, _, hg, hn, _, hs, ht⟩
 ·exact ⟨none, 0, by rw [h0], by omega, .inl h0⟩
 ·refine ⟨_, cap, rfl, hn, .inr ⟨g, 0, rfl, mF hg, fun i z hi => ?_⟩⟩
  have hlt := (List.getElem?_eq_some_iff.1 hi).1
  rw [Nat.zero_add, cell_of_row w g i _ _ _ hg]
  have h2 : (cur.toList.take (l.length * 1))[i]? = some (.int .i64 z) := by rw [ht, List.getElem?_map, hi]; rfl
  rw [List.getElem?_take, if_pos (by omega)] at h2
  simpa using h2
theorem LView.cut {k : IntKind} {w : World} {ad : Option Addr} {n c : Nat} {l : List Int} (hh : LView k w (.slice ad n c) l) (j : Nat) (hj : j ≤ l.length) :
 LView k w (.slice (if c = j then ad else ad.map (·.add j)) (n - j) (c - j)) (l.drop j) := by
 obtain ⟨ad', c', e, hc, h⟩ := hh.ex
 injection e with e1 e2 e3
 subst e1 e2 e3
 refine ⟨_, _, by rw [List.length_drop], by rw [List.length_drop]; omega, ?_⟩
 by_cases h0 : l.length = j
 ·left; rw [List.length_drop]; omega
 ·obtain ⟨b, off, rfl, hlt, hx⟩ := h.resolve_left (by omega)
  right
  rw [if_neg (by omega)]
  refine ⟨b, off + j, by simp [Go.Addr.add_mid], hlt, fun i z hi => ?_⟩
  rw [List.getElem?_drop] at hi
  rw [Nat.add_assoc]
  exact hx _ z hi
theorem LView.get {k : IntKind} {w : World} {v : Value} {l : List Int} (h : LView k w v l) (i : Nat) (hi : i < l.length) : ∃ b off c, v = .slice (some ⟨b, off, none⟩) l.length c ∧ l.length ≤ c ∧ b < w.heap.size ∧ ∀ i z, l[i]? = some z → w.cell? ⟨b, off + i, none⟩ = some (.int k z) := by
 obtain ⟨ad, c, e, hc, h⟩ := h.ex
 obtain ⟨b, off, rfl, hlt, hx⟩ := h.resolve_left (by omega)
 exact ⟨b, off, c, e, hc, hlt, hx⟩
theorem vecInfo : (Try.prog.info? 45).map (fun i => (i.zero, i.size, i.bytes)) = some (some (.agg (mY 0)), 16, 16) := by kernel_rfl
theorem lay_one (v : Vec) : Array.foldl (fun cs x => cs.setIfInBounds x.2 x.1) (#[.int .u8 0, .int .u8 0, .int .u8 0, .int .u8 0, .int .u8 0, .int .u8 0, .int .u8 0, .int .u8 0, .int .u8 0, .int .u8 0, .int .u8 0, .int .u8 0, .int .u8 0, .int .u8 0, .int .u8 0, .int .u8 0] : Array Value) (mY v).zipIdx 0 16 = mY v := by kernel_rfl
theorem dW {ops : Array Oper} {rest : List Oper} {o : Oper} {a : Act} {w : World} {Q : Exit → Act → World → Prop} (hgd : o.guard = none) (s x : Operand) (ho : o.op = .call { callee := .builtin .append, args := #[s, x], argTypes := #[66, 66] })
 (base : Nat) (v : Value) (xs : List Vec) (z : Vec) (b c : Nat) (hs : a.eval s = v) (hown : w.ownsRow base 45 16 v xs.length (sM xs))
 (hx : a.eval x = .slice (some ⟨b, 0, none⟩) 1 c) (hb : w.heap[b]? = some (.cells (mY z) 45 (0, 0)))
 (hsm : xs.length ≤ 1000) (hbase : base ≤ w.heap.size)
 (h : ∀ v' w', w'.ownsRow base 45 16 v' (xs ++ [z]).length (sM (xs ++ [z])) → w.grownBy w' v.ownBlock → wpList Try.prog ops Q rest (a.put o.dst v') w') : wpList Try.prog ops Q (o :: rest) a w := by
 refine wpList_plain hgd fun K hK => ?_
 obtain ⟨i, hi, hz0, hz1, hz2⟩ := info_parts vecInfo
 obtain ⟨v', w', hr, h2, h3, _, _⟩ := run_append_own_at (P := Try.prog) w base 66 o.type 45 i (.agg (mY 0)) 16 16 Try.underlying66 hi hz0 hz1 hz2 (by simp [Value.cells]) (by decide) v xs.length (sM xs) hown ⟨b, 0, none⟩ 1 c (mY z).toList (by simp)
  (fun j u hj => by
   rw [show (⟨b, 0, none⟩ : Addr).add j = ⟨b, j, none⟩ by first | rfl | (simp [Addr.add]; done) | (simp [Addr.add]; exact fun h => h.symm), cell_of_row w b j _ _ _ hb]
   simpa using hj) (fun u hu => by
   obtain ⟨j, hj, rfl⟩ := List.getElem_of_mem hu
   simp [mY, sP, Value.oneCell']) (by unfold maxLen; omega) (by omega) hbase
 unfold Oper.wp execOp
 simp only [ho, resolve, invoke, builtin, Sem.run_bind, Sem.run_pure, Result.andThen_ok, List.map_toArray, List.map_cons, List.map_nil, hs, hx, hr]
 exact hK _ _ (h v' w' (by rw [vcells_append, List.length_append]; exact h2) h3)
end Go.Proofs.Ytcpfabkokgiepaa
end
section
namespace Go.Proofs.Ytcpfabkokgiepaa
open Go.RowKit Pl
theorem tA : ∀ u, (sizeOf (Try.prog.elem 23)).run Try.prog u = .ok 1 u := fun u => by kernel_rfl
theorem tV : Try.prog.underlying 23 = some (.slice (Try.prog.elem 23)) := by kernel_rfl
theorem size_su : ∀ u, (sizeOf (Try.prog.elem 26)).run Try.prog u = .ok 1 u := fun u => by kernel_rfl
theorem under_su : Try.prog.underlying 26 = some (.slice (Try.prog.elem 26)) := by kernel_rfl
theorem and_low (n : Nat) (h : n < 18446744073709551616) : bits BinOp.and IntKind.u64 (n : Int) 4294967295 = ((n % 4294967296 : Nat) : Int) := by
 have := u64_and_nat n 4294967295 h (by decide)
 rw [show ((4294967295 : Nat) : Int) = 4294967295 from rfl] at this
 rw [this, show (4294967295 : Nat) = 2 ^ 32 - 1 from rfl, Nat.and_two_pow_sub_one_eq_mod]
theorem uF (o : Option (List Vec)) (z : Vec) (vs : List Vec) : (o.map (z :: ·)).map (vs ++ ·) = o.map ((vs ++ [z]) ++ ·) := by cases o <;> simp
theorem takeV_two (ts : List Int) (lo hi : Nat) (r : List Nat) : tX (123 :: ts) (lo :: hi :: r) = (tX ts r).map (tQ lo hi :: ·) := by simp [tX]
theorem takeV_i32 (ts : List Int) (lo : Nat) (r : List Nat) : tX (127 :: ts) (lo :: r) = (tX ts r).map (tQ (lo % 4294967296) 0 :: ·) := by simp [tX]
theorem takeV_i64 (ts : List Int) (lo : Nat) (r : List Nat) : tX (126 :: ts) (lo :: r) = (tX ts r).map (tQ lo 0 :: ·) := by simp [tX]
theorem cut_2 {w : World} {b off c lo hi : Nat} {r : List Nat} (h : LView .u64 w (.slice (some ⟨b, off, none⟩) ((lo :: hi :: r).map (Nat.cast : Nat → Int)).length c) ((lo :: hi :: r).map Nat.cast)) :
 LView .u64 w (.slice (if c = 2 then some ⟨b, off, none⟩ else some ⟨b, off + 2, none⟩) r.length (c - 2)) (r.map Nat.cast) := by
 have := h.cut 2 (by simp)
 simpa [Go.Addr.add_mid] using this
theorem cut_1 {w : World} {b off c lo : Nat} {r : List Nat} (h : LView .u64 w (.slice (some ⟨b, off, none⟩) ((lo :: r).map (Nat.cast : Nat → Int)).length c) ((lo :: r).map Nat.cast)) :
 LView .u64 w (.slice (if c = 1 then some ⟨b, off, none⟩ else some ⟨b, off + 1, none⟩) r.length (c - 1)) (r.map Nat.cast) := by
 have := h.cut 1 (by simp)
 simpa [Go.Addr.add_mid] using this
theorem takeV_bad (t : Int) (ts : List Int) (hs : List Nat) (h1 : t ≠ 123) (h2 : t ≠ 127) (h3 : t ≠ 126) : tX (t :: ts) hs = none := by
 unfold tX
 rw [if_neg h1, if_neg (by omega)]
theorem r8 (w : World) : (isAgg 22).run Try.prog w = .ok false w := by kernel_rfl
theorem ownv_base {u : World} {B B' : Nat} {v : Value} {n : Nat} {xs : List Value} (h : u.ownsRow B 45 16 v n xs) (hB : B' ≤ B) : u.ownsRow B' 45 16 v n xs :=
 ⟨h.1, h.2.imp id (fun ⟨g, cap, cur, e1, e2, e3⟩ => ⟨g, cap, cur, e1, by omega, e3⟩)⟩
theorem vB {u u1 : World} {B : Nat} {v : Value} {n : Nat} {xs : List Value} (h : u.ownsRow B 45 16 v n xs) (hb : Below u.heap.size u u1) : u1.ownsRow B 45 16 v n xs :=
 h.kept (rH (r := none) hb) (by
  cases hv : v.ownBlock with
  | none => exact .inl rfl
  | some k => exact .inr (fun e => by cases e))
set_option maxRecDepth 100000 in
theorem take_k (types : List Int) (tv hv : Value) (hs : List Nat) (w : World) (hT : LView .i64 w tv types) (hH : LView .u64 w hv (hs.map Nat.cast)) (hlt : ∀ x ∈ hs, x < 18446744073709551616) (hty : types.length ≤ 100) (hr : ∀ t ∈ types, 0 ≤ t ∧ t ≤ 255) :
 Calls Try.prog 31 #[tv, hv] w fun e w' => Below w.heap.size w w' ∧
  (tX types hs = none → e = .returned (.tuple #[.slice none 0 0, .int .i64 1])) ∧
  ∀ vs, tX types hs = some vs → ∃ v, e = .returned (.tuple #[v, .int .i64 0]) ∧ w'.ownsRow w.heap.size 45 16 v vs.length (sM vs) := by
 obtain ⟨tad, tc, rfl, htc, hT2⟩ := hT.ex
 have HT := Lib.hid hT
 have HH := Lib.hid hH
 have HL := Lib.hid hlt
 have HR := Lib.hid hr
 clear hT hH hlt hr hT2
 go_enter Try.func31, Try.ntmps31
 go_wp2_with fail
 go_loopw [1, 6, 13] (fun hv1 ov iv wr => ∃ (i : Nat) (hs1 : List Nat) (vs1 : List Vec), i ≤ types.length ∧ iv = .int .i64 i ∧ LView .u64 w hv1 (hs1.map Nat.cast) ∧ Hid (∀ x ∈ hs1, x < 18446744073709551616) ∧ wr.ownsRow w.heap.size 45 16 ov vs1.length (sM vs1) ∧ vs1.length = i ∧
  Hid (tX types hs = (tX (types.drop i) hs1).map (vs1 ++ ·)) ∧ Below w.heap.size w wr) (fun _ _ iv _ => types.length - (intOf iv).toNat)
 case atStart => exact ⟨0, hs, [], Nat.zero_le _, rfl, HH.out, HL, World.ownsRow_nil _ _ _ _, rfl, Lib.hid (by simp), Below.refl _ _⟩
 case round =>
  obtain ⟨wo, hwo⟩ : ∃ x, x = wr := ⟨_, rfl⟩
  subst hwo
  obtain ⟨i, hs1, vs1, hi, rfl, hv2, HL1, hown, hvl, HE, hb⟩ := hrel
  by_cases hlt : i < types.length
  ·obtain ⟨tb, toff, tc2, te, htc3, htb, htx⟩ := (HT.out.below hb).get i hlt
   injection te with te1 te2 te3
   subst te1 te3
   obtain ⟨t, ht⟩ : ∃ t, types[i]? = some t := ⟨_, List.getElem?_eq_getElem hlt⟩
   have hct := htx i t ht
   have htr := HR.out t (List.mem_of_getElem? ht)
   have hdr : types.drop i = t :: types.drop (i + 1) := kT
   have HD := Lib.hid hdr
   have HTX := Lib.hid ht
   clear htx hdr ht
   obtain ⟨ad, c, rfl, hc, _⟩ := hv2.ex
   obtain ⟨ad', c', he, _, hx⟩ := (hv2.below hb).ex
   injection he with he1 he2 he3
   subst he1 he3
   rw [List.length_map] at hc ⊢
   have HV2 := Lib.hid hv2
   clear hv2
   by_cases h123 : t = 123
   ·subst h123
    match hs1, HL1, HE, HV2, hx, hc with
    | [], HL1, HE, HV2, hx, hc =>
      have hE := HE.out
      rw [HD.out] at hE
      have hE3 : tX types hs = none := by rw [hE]; simp [tX]
      have HE2 := Lib.hid hE3
      clear hE hE3 hx
      go_wp2_with (first | (with_reducible refine ix1 rfl 23 tA tV _ _ rfl tb toff _ _ rfl _ rfl i rfl hlt ?_) | (with_reducible refine ld1 rfl 3 mM _ rfl _ rfl _ hct ?_))
      go_ret2
      exact ⟨hb, fun _ => rfl, fun vs h => by rw [HE2.out] at h; cases h⟩
    | [lo], HL1, HE, HV2, hx, hc =>
      have hE := HE.out
      rw [HD.out] at hE
      have hE3 : tX types hs = none := by rw [hE]; simp [tX]
      have HE2 := Lib.hid hE3
      clear hE hE3 hx
      go_wp2_with (first | (with_reducible refine ix1 rfl 23 tA tV _ _ rfl tb toff _ _ rfl _ rfl i rfl hlt ?_) | (with_reducible refine ld1 rfl 3 mM _ rfl _ rfl _ hct ?_))
      go_ret2
      exact ⟨hb, fun _ => rfl, fun vs h => by rw [HE2.out] at h; cases h⟩
    | lo :: hi :: r, HL1, HE, HV2, hx, hc =>
      obtain ⟨b, off, rfl, hbl, hxx⟩ := hx.resolve_left (by simp)
      have hx0 : wo.cell? ⟨b, off, none⟩ = some (.int .u64 (lo : Int)) := hxx 0 lo rfl
      have hb0 : lo < 18446744073709551616 := HL1.out lo (by simp)
      have hx1 : wo.cell? ⟨b, off + 1, none⟩ = some (.int .u64 (hi : Int)) := hxx 1 hi rfl
      have hb1 : hi < 18446744073709551616 := HL1.out hi (by simp)
      clear hxx hx
      have hob := hown.lt
      have HOB := Lib.hid hob
      clear hob
      go_wp2_with (first | (with_reducible refine ix1 rfl 23 tA tV _ _ rfl tb toff _ _ rfl _ rfl i rfl hlt ?_) | (with_reducible refine ld1 rfl 3 mM _ rfl _ rfl _ hct ?_) | (go_at_call 62; refine (sB lo hi _).mono ?_; rintro e u2 ⟨rfl, hb2⟩; have hb3 := mB hb (Nat.le_refl _) _ hb2; have hwu := mB (Below.refl wo.heap.size wo) (Nat.le_refl _) _ hb2) | (at_builtin; rw [lay_one]; refine dW rfl _ _ rfl w.heap.size _ vs1 (t7 (t7 0 64 0 lo) 64 1 hi) _ _ rfl ((vB hown hwu).alloc _) rfl (heap_alloc_new _ _) (by omega) (by have := hb3.size; simp; omega) ?_; intro v5 x5 ho5 hg5))
      have hb6 : Below w.heap.size w x5 := (hb3.alloc hb3.size _).trans (tU hg5 (by have := hb3.size; simp; omega) (fun g e => (HOB.out g e).1))
      exact ⟨⟨i + 1, r, vs1 ++ [tQ lo hi], by omega, by go_num, cut_2 HV2.out, Lib.hid (fun x hx => HL1.out x (by simp [hx])), ho5, by simp [hvl], Lib.hid (by rw [HE.out, HD.out, takeV_two, uF]), hb6⟩, by simp [intOf]; omega⟩
   ·have q123 : (t == 123) = false := by simp [h123]
    have H123 := Lib.hid h123
    clear h123
    by_cases h127 : t = 127
    ·subst h127
     match hs1, HL1, HE, HV2, hx, hc with
     | [], HL1, HE, HV2, hx, hc =>
       have hE := HE.out
       rw [HD.out] at hE
       have hE3 : tX types hs = none := by rw [hE]; simp [tX]
       have HE2 := Lib.hid hE3
       clear hE hE3 hx
       go_wp2_with (first | (with_reducible refine ix1 rfl 23 tA tV _ _ rfl tb toff _ _ rfl _ rfl i rfl hlt ?_) | (with_reducible refine ld1 rfl 3 mM _ rfl _ rfl _ hct ?_))
       go_ret2
       exact ⟨hb, fun _ => rfl, fun vs h => by rw [HE2.out] at h; cases h⟩
     | lo :: r, HL1, HE, HV2, hx, hc =>
       obtain ⟨b, off, rfl, hbl, hxx⟩ := hx.resolve_left (by simp)
       have hx0 : wo.cell? ⟨b, off, none⟩ = some (.int .u64 (lo : Int)) := hxx 0 lo rfl
       have hb0 : lo < 18446744073709551616 := HL1.out lo (by simp)
       clear hxx hx
       obtain ⟨mk, hmk⟩ : ∃ m, m = lo % 4294967296 := ⟨_, rfl⟩
       have hand : bits BinOp.and IntKind.u64 (lo : Int) 4294967295 = (mk : Int) := by rw [hmk]; exact and_low _ hb0
       have HMK := Lib.hid hmk
       clear hmk
       have hob := hown.lt
       have HOB := Lib.hid hob
       clear hob
       go_wp2_with (first | (with_reducible refine ix1 rfl 23 tA tV _ _ rfl tb toff _ _ rfl _ rfl i rfl hlt ?_) | (with_reducible refine ld1 rfl 3 mM _ rfl _ rfl _ hct ?_) | (go_at_call 62; refine (sB mk 0 _).mono ?_; rintro e u2 ⟨rfl, hb2⟩; have hb3 := mB hb (Nat.le_refl _) _ hb2; have hwu := mB (Below.refl wo.heap.size wo) (Nat.le_refl _) _ hb2) | (at_builtin; rw [lay_one]; refine dW rfl _ _ rfl w.heap.size _ vs1 (t7 (t7 0 64 0 mk) 64 1 0) _ _ rfl ((vB hown hwu).alloc _) rfl (heap_alloc_new _ _) (by omega) (by have := hb3.size; simp; omega) ?_; intro v5 x5 ho5 hg5))
       have hb6 : Below w.heap.size w x5 := (hb3.alloc hb3.size _).trans (tU hg5 (by have := hb3.size; simp; omega) (fun g e => (HOB.out g e).1))
       exact ⟨⟨i + 1, r, vs1 ++ [tQ mk 0], by omega, by go_num, cut_1 HV2.out, Lib.hid (fun x hx => HL1.out x (by simp [hx])), ho5, by simp [hvl], Lib.hid (by rw [HE.out, HD.out, takeV_i32, ← HMK.out, uF]), hb6⟩, by simp [intOf]; omega⟩
    ·have q127 : (t == 127) = false := by simp [h127]
     have H127 := Lib.hid h127
     clear h127
     by_cases h126 : t = 126
     ·subst h126
      match hs1, HL1, HE, HV2, hx, hc with
      | [], HL1, HE, HV2, hx, hc =>
        have hE := HE.out
        rw [HD.out] at hE
        have hE3 : tX types hs = none := by rw [hE]; simp [tX]
        have HE2 := Lib.hid hE3
        clear hE hE3 hx
        go_wp2_with (first | (with_reducible refine ix1 rfl 23 tA tV _ _ rfl tb toff _ _ rfl _ rfl i rfl hlt ?_) | (with_reducible refine ld1 rfl 3 mM _ rfl _ rfl _ hct ?_))
        go_ret2
        exact ⟨hb, fun _ => rfl, fun vs h => by rw [HE2.out] at h; cases h⟩
      | lo :: r, HL1, HE, HV2, hx, hc =>
        obtain ⟨b, off, rfl, hbl, hxx⟩ := hx.resolve_left (by simp)
        have hx0 : wo.cell? ⟨b, off, none⟩ = some (.int .u64 (lo : Int)) := hxx 0 lo rfl
        have hb0 : lo < 18446744073709551616 := HL1.out lo (by simp)
        clear hxx hx
        have hob := hown.lt
        have HOB := Lib.hid hob
        clear hob
        go_wp2_with (first | (with_reducible refine ix1 rfl 23 tA tV _ _ rfl tb toff _ _ rfl _ rfl i rfl hlt ?_) | (with_reducible refine ld1 rfl 3 mM _ rfl _ rfl _ hct ?_) | (go_at_call 62; refine (sB lo 0 _).mono ?_; rintro e u2 ⟨rfl, hb2⟩; have hb3 := mB hb (Nat.le_refl _) _ hb2; have hwu := mB (Below.refl wo.heap.size wo) (Nat.le_refl _) _ hb2) | (at_builtin; rw [lay_one]; refine dW rfl _ _ rfl w.heap.size _ vs1 (t7 (t7 0 64 0 lo) 64 1 0) _ _ rfl ((vB hown hwu).alloc _) rfl (heap_alloc_new _ _) (by omega) (by have := hb3.size; simp; omega) ?_; intro v5 x5 ho5 hg5))
        have hb6 : Below w.heap.size w x5 := (hb3.alloc hb3.size _).trans (tU hg5 (by have := hb3.size; simp; omega) (fun g e => (HOB.out g e).1))
        exact ⟨⟨i + 1, r, vs1 ++ [tQ lo 0], by omega, by go_num, cut_1 HV2.out, Lib.hid (fun x hx => HL1.out x (by simp [hx])), ho5, by simp [hvl], Lib.hid (by rw [HE.out, HD.out, takeV_i64, uF]), hb6⟩, by simp [intOf]; omega⟩
     ·have q126 : (t == 126) = false := by simp [h126]
      have hE := HE.out
      rw [HD.out, takeV_bad _ _ _ H123.out H127.out h126] at hE
      have HE2 := Lib.hid hE
      clear hE h126
      go_wp2_with (first | (with_reducible refine ix1 rfl 23 tA tV _ _ rfl tb toff _ _ rfl _ rfl i rfl hlt ?_) | (with_reducible refine ld1 rfl 3 mM _ rfl _ rfl _ hct ?_))
      go_ret2
      exact ⟨hb, fun _ => rfl, fun vs h => by rw [HE2.out] at h; cases h⟩
  ·obtain rfl : i = types.length := by omega
   have hd0 : tX (types.drop types.length) hs1 = tX [] hs1 := by rw [List.drop_length]
   match hs1, HE, hv2 with
   | [], HE, hv2 =>
     obtain ⟨ad, c, rfl, hc, hx⟩ := hv2.ex
     clear hx hc hv2
     have hE : tX types hs = some vs1 := by rw [HE.out, hd0]; simp [tX]
     have HE2 := Lib.hid hE
     clear hE hd0
     go_wp2_with fail
     go_ret2
     exact ⟨hb, (fun h => by rw [HE2.out] at h; cases h), fun vs h => by rw [HE2.out] at h; injection h with h; subst h; exact ⟨_, rfl, hown⟩⟩
   | x :: r, HE, hv2 =>
     obtain ⟨ad, c, rfl, hc, hx⟩ := hv2.ex
     clear hx hc hv2
     have hE : tX types hs = none := by rw [HE.out, hd0]; simp [tX]
     have HE2 := Lib.hid hE
     clear hE hd0
     go_wp2_with fail
     go_ret2
     exact ⟨hb, fun _ => rfl, fun vs h => by rw [HE2.out] at h; cases h⟩
end Go.Proofs.Ytcpfabkokgiepaa
end
section
namespace Go.Proofs.Ytcpfabkokgiepaa
open Go.RowKit Pl
theorem five_3 (a b c d e : Value) : 3 < #[a, b, c, d, e].size := by simp
theorem five_4 (a b c d e : Value) : 4 < #[a, b, c, d, e].size := by simp
theorem intInfo : (Try.prog.info? 3).map (fun i => (i.zero, i.size, i.bytes)) = some (some (.int .i64 0), 1, 8) := by kernel_rfl
theorem t8 {ops : Array Oper} {rest : List Oper} {o : Oper} {a : Act} {w : World} {Q : Exit → Act → World → Prop} (hw : Region.wanted o (yielded ops a.tmps) = true) (T : TypeId) (ha : ∀ w, (isAgg T).run Try.prog w = .ok false w) (x : Operand) (ho : o.op = .load T x) (g j : Nat) (hx : a.eval x = .pointer (some ⟨g, j, none⟩))
 (cs : Array Value) (T0 : TypeId) (hg : w.heap[g]? = some (.cells cs T0 (0, 0))) (v : Value) (hv : cs[j]? = some v)
 (h : wpList Try.prog ops Q rest (a.put o.dst v) w) : wpList Try.prog ops Q (o :: rest) a w := by
 refine wpList_step fun K hK => ?_
 rw [if_pos hw]
 exact m5
theorem vR {ops : Array Oper} {rest : List Oper} {o : Oper} {a : Act} {w : World} {Q : Exit → Act → World → Prop} (hgd : o.guard = none) (T : TypeId) (x y : Operand) (ho : o.op = .store T x y) (z mY : Array Value) (hx : a.eval x = .pointer (some ⟨w.heap.size, 0, none⟩)) (hy : a.eval y = .agg mY)
 (hi : (Try.prog.info? T).map (·.size) = some mY.size) (hold : z.size = mY.size) (h1 : mY.all (·.oneCell') = true)
 (h : ∀ w', Below w.heap.size w w' → w'.heap[w.heap.size]? = some (.cells mY T (0, 0)) → w.heap.size < w'.heap.size → wpList Try.prog ops Q rest (a.put o.dst undef) w') : wpList Try.prog ops Q (o :: rest) a (w.alloc (.cells z T)) :=
 store_new hgd T x y ho z mY hx hy hi hold h1 (h _ ((Below.refl _ _).alloc (Nat.le_refl _) _) (heap_alloc_new _ _) (by simp))
theorem tab_i64 (l : List Row) (h : l.all (fun r => decide (0 ≤ r.fr ∧ r.fr ≤ 65535 ∧ 0 ≤ r.to ∧ r.to ≤ 65535 ∧ r.sig.length ≤ 8)) = true) (i : Nat) (r : Row) (hr : l[i]? = some r) : 0 ≤ r.fr ∧ r.fr ≤ 65535 ∧ 0 ≤ r.to ∧ r.to ≤ 65535 ∧ r.sig.length ≤ 8 := by
 have := List.all_eq_true.1 h r (List.mem_of_getElem? hr)
 simpa using this
structure OfIs (B : Nat) (l : List Row) (op : Int) (e : Ending) (w' : World) : Prop where
 ret : ∃ (v : Value) (k : Bool), e = .returned (.tuple #[v, .bool k]) ∧ (k = false → v = .agg #[.int .i64 0, .int .i64 0, .bool false, .slice none 0 0, .slice none 0 0] ∧ ∀ r ∈ l, ¬ (r.fr ≤ op ∧ op ≤ r.to)) ∧
  (k = true → ∃ (i : Nat) (r : Row) (pl : Bool) (s t : Value), l[i]? = some r ∧ r.fr ≤ op ∧ op ≤ r.to ∧ (∀ j, j < i → ∀ q, l[j]? = some q → ¬ (q.fr ≤ op ∧ op ≤ q.to)) ∧ v = .agg #[.int .i64 r.form, .int .i64 r.lim, .bool pl, s, t] ∧
   w'.ownsRow B 3 1 s (fY r.sig).2.1.length ((fY r.sig).2.1.map (Value.int .i64)) ∧ w'.ownsRow B 3 1 t (fY r.sig).2.2.length ((fY r.sig).2.2.map (Value.int .i64)))
 agg : ∃ c0 c1 c2 c3 c4 k, e = .returned (.tuple #[.agg #[c0, c1, c2, c3, c4], k])
set_option maxRecDepth 100000 in
theorem of_hi (op : Int) (w : World) (ho : -9223372036854775808 ≤ op ∧ op ≤ 9223372036854775807) (h : 64768 ≤ op) :
 Calls Try.prog 15 #[.int .i64 op] w fun e w' => OfIs w.heap.size rowsV op e w' ∧ Below w.heap.size w w' := by
 have HT := Lib.hid (fun j r h => tab_i64 rowsV (by decide) j r h)
 have HO := Lib.hid ho
 clear ho
 go_enter Try.func15, Try.ntmps15
 go_wp2_with (first
  | (go_at_call 46; refine (scalars_k _).mono ?_; rintro e w1 ⟨b1, rfl, hT1, hl1, hb1⟩)
  | (go_at_call 47; refine (vectors_k _).mono ?_; rintro e w2 ⟨b2, rfl, hT2, hl2, hb2⟩))
 have hR : w2.heap[w.heap.size]? = some (.cells #[.int .i64 0, .int .i64 0, .bool false, .slice none 0 0, .slice none 0 0] 40 (0, 0)) := (hb2.block _ (Nat.lt_of_lt_of_le (by simp) hb1.size)).trans ((hb1.block _ (by simp)).trans (heap_alloc_new _ _))
 have hbl : Below w.heap.size w w2 := (((Below.refl _ _).alloc (Nat.le_refl _) _).trans (hb1.mono (by simp))).trans (hb2.mono (Nat.le_trans (by simp) hb1.size))
 obtain ⟨W, hW⟩ : ∃ W, W = w2 := ⟨_, rfl⟩
 obtain ⟨b, hb⟩ : ∃ b, b = b2 := ⟨_, rfl⟩
 rw [← hW] at hT2 hR hbl
 rw [← hb] at hT2 ⊢
 rw [← hW]
 have hTab0 := hT2
 clear hW hb hT1 hT2 hl1 hl2 hb1 hb2
 go_loopw [18] (fun iv wr => ∃ i : Nat, i ≤ 66 ∧ iv = .int .i64 i ∧ (∀ j, j < i → ∀ q, rowsV[j]? = some q → ¬ (q.fr ≤ op ∧ op ≤ q.to)) ∧ Below W.heap.size W wr) (fun iv _ => 66 - (intOf iv).toNat)
 case atStart => exact kL
 case round =>
  obtain ⟨wo, hwo⟩ : ∃ x, x = wr := ⟨_, rfl⟩
  subst hwo
  obtain ⟨i, hi, rfl, hno, hwr⟩ := hrel
  have HN := Lib.hid hno
  clear hno
  have hTab := mV hTab0 hwr
  have hRr := mV hR hwr
  have hbr := below_next hbl (Nat.le_refl _) hwr
  by_cases hlt : i < 66
  ·obtain ⟨r, hr⟩ : ∃ r, rowsV[i]? = some r := ⟨_, List.getElem?_eq_getElem hlt⟩
   obtain ⟨t1, t2, t3, t4, t5⟩ := HT.out i r hr
   by_cases hm : r.fr ≤ op ∧ op ≤ r.to
   ·exact xG
   ·have hbY : ∀ x, Below W.heap.size W (wo.alloc x) := fun x => hwr.alloc hwr.size x
    have hnx : ∀ j, j < i + 1 → ∀ q, rowsV[j]? = some q → ¬ (q.fr ≤ op ∧ op ≤ q.to) := fun j hj q hq => jD
    exact nJ
  ·obtain rfl : i = 66 := by omega
   exact yR
set_option maxRecDepth 100000 in
theorem of_lo (op : Int) (w : World) (ho : -9223372036854775808 ≤ op ∧ op ≤ 9223372036854775807) (h : op < 64768) :
 Calls Try.prog 15 #[.int .i64 op] w fun e w' => OfIs w.heap.size rowsS op e w' ∧ Below w.heap.size w w' := by
 have HT := Lib.hid (fun j r h => tab_i64 rowsS (by decide) j r h)
 have HO := Lib.hid ho
 clear ho
 go_enter Try.func15, Try.ntmps15
 go_wp2_with (first
  | (go_at_call 46; refine (scalars_k _).mono ?_; rintro e w1 ⟨b1, rfl, hT1, hl1, hb1⟩)
  | (go_at_call 47; refine (vectors_k _).mono ?_; rintro e w2 ⟨b2, rfl, hT2, hl2, hb2⟩))
 have hR : w1.heap[w.heap.size]? = some (.cells #[.int .i64 0, .int .i64 0, .bool false, .slice none 0 0, .slice none 0 0] 40 (0, 0)) := ((hb1.block _ (by simp)).trans (heap_alloc_new _ _))
 have hbl : Below w.heap.size w w1 := ((Below.refl _ _).alloc (Nat.le_refl _) _).trans (hb1.mono (by simp))
 obtain ⟨W, hW⟩ : ∃ W, W = w1 := ⟨_, rfl⟩
 obtain ⟨b, hb⟩ : ∃ b, b = b1 := ⟨_, rfl⟩
 rw [← hW] at hT1 hR hbl
 rw [← hb] at hT1 ⊢
 rw [← hW]
 have hTab0 := hT1
 clear hW hb hT1 hl1 hb1
 go_loopw [18] (fun iv wr => ∃ i : Nat, i ≤ 42 ∧ iv = .int .i64 i ∧ (∀ j, j < i → ∀ q, rowsS[j]? = some q → ¬ (q.fr ≤ op ∧ op ≤ q.to)) ∧ Below W.heap.size W wr) (fun iv _ => 42 - (intOf iv).toNat)
 case atStart => exact kL
 case round =>
  obtain ⟨wo, hwo⟩ : ∃ x, x = wr := ⟨_, rfl⟩
  subst hwo
  obtain ⟨i, hi, rfl, hno, hwr⟩ := hrel
  have HN := Lib.hid hno
  clear hno
  have hTab := mV hTab0 hwr
  have hRr := mV hR hwr
  have hbr := below_next hbl (Nat.le_refl _) hwr
  by_cases hlt : i < 42
  ·obtain ⟨r, hr⟩ : ∃ r, rowsS[i]? = some r := ⟨_, List.getElem?_eq_getElem hlt⟩
   obtain ⟨t1, t2, t3, t4, t5⟩ := HT.out i r hr
   by_cases hm : r.fr ≤ op ∧ op ≤ r.to
   ·exact xG
   ·have hbY : ∀ x, Below W.heap.size W (wo.alloc x) := fun x => hwr.alloc hwr.size x
    have hnx : ∀ j, j < i + 1 → ∀ q, rowsS[j]? = some q → ¬ (q.fr ≤ op ∧ op ≤ q.to) := fun j hj q hq => jD
    exact nJ
  ·obtain rfl : i = 42 := by omega
   exact yR
def rowsOf (op : Int) : List Row := if 64768 ≤ op then rowsV else rowsS
theorem of_any (op : Int) (w : World) (ho : -9223372036854775808 ≤ op ∧ op ≤ 9223372036854775807) :
 Calls Try.prog 15 #[.int .i64 op] w fun e w' => OfIs w.heap.size (rowsOf op) op e w' ∧ Below w.heap.size w w' := by
 unfold rowsOf
 by_cases h : 64768 ≤ op
 ·rw [if_pos h]; exact of_hi op w ho h
 ·rw [if_neg h]; exact of_lo op w ho (by omega)
end Go.Proofs.Ytcpfabkokgiepaa
end
