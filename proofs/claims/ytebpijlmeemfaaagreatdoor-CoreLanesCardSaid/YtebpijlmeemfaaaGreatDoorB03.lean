/- A part of the proof that plaittop.CoreLanes returns true. -/
import Derived.Laws.CopyRow
import Derived.Laws.Cells
import Derived.Laws.Append
import Derived.Laws.Tables
import Derived.Laws.Entries
import Derived.Test.YtebpijlmeemfaaaGreatDoorB02
set_option linter.all false
set_option linter.unusedSectionVars false
set_option linter.unusedSimpArgs false
set_option linter.unusedVariables false
section
namespace Ev
open Go
def All2 {α β : Type} (R : α → β → Prop) : List α → List β → Prop
 | [], [] => True
 | a :: l, b :: m => R a b ∧ All2 R l m
 | _, _ => False
theorem All2.length {α β : Type} {R : α → β → Prop} : ∀ {l : List α} {m : List β}, All2 R l m → l.length = m.length
 | [], [], _ => rfl
 | _ :: _, _ :: _, h => by rw [List.length_cons, List.length_cons, All2.length h.2]
theorem All2.mono {α β : Type} {R S : α → β → Prop} (k : ∀ a b, R a b → S a b) : ∀ {l : List α} {m : List β}, All2 R l m → All2 S l m
 | [], [], _ => trivial
 | _ :: _, _ :: _, h => ⟨k _ _ h.1, All2.mono k h.2⟩
theorem All2.get {α β : Type} {R : α → β → Prop} : ∀ {l : List α} {m : List β}, All2 R l m → ∀ (i : Nat) (a : α), l[i]? = some a → ∃ b, m[i]? = some b ∧ R a b
 | [], [], _, i, a, h => by simp at h
 | x :: l, y :: m, h, 0, a, e => by simp at e; subst e; exact ⟨y, rfl, h.1⟩
 | x :: l, y :: m, h, i + 1, a, e => by simp at e; obtain ⟨b, h1, h2⟩ := All2.get h.2 i a e; exact ⟨b, by simpa using h1, h2⟩
theorem All2.app {α β : Type} {R : α → β → Prop} : ∀ {l l' : List α} {m m' : List β}, All2 R l m → All2 R l' m' → All2 R (l ++ l') (m ++ m')
 | [], _, [], _, _, h => h
 | _ :: _, _, _ :: _, _, h, k => ⟨h.1, All2.app h.2 k⟩
theorem All2.take {α β : Type} {R : α → β → Prop} : ∀ (n : Nat) {l : List α} {m : List β}, All2 R l m → All2 R (l.take n) (m.take n)
 | 0, _, _, _ => by simp [All2]
 | n + 1, [], [], _ => trivial
 | n + 1, _ :: _, _ :: _, h => ⟨h.1, All2.take n h.2⟩
theorem All2.drop {α β : Type} {R : α → β → Prop} : ∀ (n : Nat) {l : List α} {m : List β}, All2 R l m → All2 R (l.drop n) (m.drop n)
 | 0, _, _, h => h
 | n + 1, [], [], _ => trivial
 | n + 1, _ :: _, _ :: _, h => All2.drop n h.2
theorem All2.of_get {α β : Type} {R : α → β → Prop} : ∀ {l : List α} {m : List β}, l.length = m.length → (∀ (i : Nat) (a : α) (b : β), l[i]? = some a → m[i]? = some b → R a b) → All2 R l m
 | [], [], _, _ => trivial
 | x :: l, y :: m, h, k => ⟨k 0 x y rfl rfl, All2.of_get (by simpa using h) fun i a b ha hb => k (i + 1) a b (by simpa using ha) (by simpa using hb)⟩
abbrev Env := Nat → Option (Nat × Nat)
def Cap.val (c : Nat) : Cap → Nat
 | .known n => n
 | .minus k => c - k
def prel (e : Env) (p : Nat × Nat) (y : Value) : Prop := ∃ b c, e p.1 = some (b, c) ∧ y = .pointer (some ⟨b, p.2, none⟩)
def CV.rel (e : Env) : CV → Value → Prop
 | .bool b, x => x = .bool b
 | .int k n, x => x = .int k n
 | .str s, x => x = .string ⟨s.toArray⟩
 | .ptr id off, x => prel e (id, off) x
 | .nilp, x => x = .pointer none
 | .sl id off len cap, x => ∃ b c, e id = some (b, c) ∧ x = .slice (some ⟨b, off, none⟩) len (cap.val c)
 | .snil, x => x = .slice none 0 0
 | .mp id, x => ∃ b c, e id = some (b, c) ∧ x = .map (some b)
 | .mnil, x => x = .map none
 | .fn f caps, x => ∃ l, All2 (prel e) caps l ∧ x = .func (.func f) #[] l.toArray
 | .fnil, x => x = .nilFunc
 | .emp, x => ∃ a c, x = .slice (some a) 0 c
 | .w n, x => x = .int .u64 (n.toNat : Int)
 | .any, x => x.oneCell' = true ∧ x.cells = #[x]
 | .fb F β i, x => x = .int .u8 ((F β i : Nat) : Int) ∧ F β i < 256
def PV.rel (e : Env) : PV → Value → Prop
 | .one c, x => c.rel e x
 | .agg l, x => ∃ m, All2 (CV.rel e) l m ∧ x = .agg m.toArray
def AV.rel (e : Env) : AV → Value → Prop
 | .p v, x => v.rel e x
 | .tup l, x => ∃ m, All2 (PV.rel e) l m ∧ x = .tuple m.toArray
def Ext (e e' : Env) : Prop := ∀ i x, e i = some x → e' i = some x
theorem Ext.refl (e : Env) : Ext e e := fun _ _ h => h
theorem Ext.trans {a b c : Env} (h : Ext a b) (k : Ext b c) : Ext a c := fun i x hx => k i x (h i x hx)
theorem prel.ext {e e' : Env} (h : Ext e e') {p : Nat × Nat} {y : Value} (k : prel e p y) : prel e' p y := by
 obtain ⟨b, c, h1, h2⟩ := k
 exact ⟨b, c, h _ _ h1, h2⟩
theorem CV.rel.ext {e e' : Env} (h : Ext e e') : ∀ {v : CV} {x : Value}, v.rel e x → v.rel e' x := by
 intro v x k
 cases v with
 | ptr id off => exact prel.ext h k
 | sl id off len cap => obtain ⟨b, c, h1, h2⟩ := k; exact ⟨b, c, h _ _ h1, h2⟩
 | mp id => obtain ⟨b, c, h1, h2⟩ := k; exact ⟨b, c, h _ _ h1, h2⟩
 | fn f caps => obtain ⟨l, h1, h2⟩ := k; exact ⟨l, h1.mono (fun _ _ => prel.ext h), h2⟩
 | _ => exact k
theorem PV.rel.ext {e e' : Env} (h : Ext e e') {v : PV} {x : Value} (k : v.rel e x) : v.rel e' x := by
 cases v with
 | one c => exact CV.rel.ext (v := c) h k
 | agg l => obtain ⟨m, h1, h2⟩ := k; exact ⟨m, h1.mono (fun _ _ => CV.rel.ext h), h2⟩
theorem AV.rel.ext {e e' : Env} (h : Ext e e') {v : AV} {x : Value} (k : v.rel e x) : v.rel e' x := by
 cases v with
 | p c => exact PV.rel.ext (v := c) h k
 | tup l => obtain ⟨m, h1, h2⟩ := k; exact ⟨m, h1.mono (fun _ _ => PV.rel.ext h), h2⟩
theorem CV.rel.one {e : Env} {v : CV} {x : Value} (k : v.rel e x) : x.oneCell' = true ∧ x.cells = #[x] := by
 cases v with
 | ptr id off => obtain ⟨b, c, h1, rfl⟩ := k; exact ⟨rfl, rfl⟩
 | sl id off len cap => obtain ⟨b, c, h1, rfl⟩ := k; exact ⟨rfl, rfl⟩
 | mp id => obtain ⟨b, c, h1, rfl⟩ := k; exact ⟨rfl, rfl⟩
 | fn f caps => obtain ⟨l, h1, rfl⟩ := k; exact ⟨rfl, rfl⟩
 | emp => obtain ⟨a, c, rfl⟩ := k; exact ⟨rfl, rfl⟩
 | any => exact k
 | fb F β i => obtain ⟨rfl, _⟩ := k; exact ⟨rfl, rfl⟩
 | _ => cases k; exact ⟨rfl, rfl⟩
theorem PV.rel.cells {e : Env} {v : PV} {x : Value} (k : v.rel e x) : All2 (CV.rel e) v.cells x.cells.toList := by
 cases v with
 | one c => rw [(CV.rel.one (v := c) k).2]; exact ⟨k, trivial⟩
 | agg l => obtain ⟨m, h1, rfl⟩ := k; exact h1
theorem All2.oneCell {e : Env} : ∀ {l : List CV} {m : List Value}, All2 (CV.rel e) l m → ∀ v ∈ m, v.oneCell' = true
 | [], [], _, v, h => by simp at h
 | _ :: _, _ :: _, k, v, h => by
  rcases List.mem_cons.1 h with rfl | h
  ·exact (CV.rel.one k.1).1
  ·exact All2.oneCell k.2 v h
theorem at_set (r : Row) (cells : List CV) (i j : Nat) : ∀ (off : Nat) (t : Tr CV), off + cells.length ≤ 1000000 →
  Tr.get (setAll cells t off) j = if off ≤ j ∧ j < off + cells.length then cells[j - off]? else Tr.get t j := by
 induction cells with
 | nil => intro off t _; rw [if_neg (by simp)]; rfl
 | cons c l ih =>
  intro off t h
  have h' : off + 1 + l.length ≤ 1000000 := by simp at h; omega
  show Tr.get (setAll l (Tr.set t off c) (off + 1)) j = _
  rw [ih _ _ h', Tr.get_set c 20 t off j (by omega) (by omega)]
  simp only [List.length_cons]
  by_cases hj : off + 1 ≤ j ∧ j < off + 1 + l.length
  ·rw [if_pos hj, if_pos (by omega), show j - off = (j - (off + 1)) + 1 by omega]
   simp
  ·rw [if_neg hj]
   by_cases hjo : j = off
   ·rw [if_pos hjo, if_pos (by omega)]; simp [hjo]
   ·rw [if_neg hjo, if_neg (by omega)]
theorem Row.at_eq (r : Row) (i : Nat) : r.at i = (Tr.get r.tr i).getD r.d := by
 unfold Row.at
 cases Tr.get r.tr i <;> rfl
theorem rowOf_at (cells : List CV) (elem size : Nat) (h : cells.length ≤ 1000000) (i : Nat) (hi : i < cells.length) : cells[i]? = some ((rowOf cells elem size).at i) := by
 rw [Row.at_eq]
 show _ = some ((Tr.get (setAll cells .nil 0) i).getD .nilp)
 rw [at_set ⟨.live, 0, .nilp, .nil, 0, 0⟩ cells i i 0 .nil (by omega), if_pos (by omega)]
 simp [List.getElem?_eq_getElem hi]
theorem cells_get (r : Row) : ∀ (n off j : Nat), (r.cells n off)[j]? = if j < n then some (r.at (off + j)) else none
 | 0, off, j => by show ([] : List CV)[j]? = _; simp
 | n + 1, off, j => by
  show (r.at off :: r.cells n (off + 1))[j]? = _
  cases j with
  | zero => simp
  | succ j => rw [List.getElem?_cons_succ, cells_get r n (off + 1) j, show off + 1 + j = off + (j + 1) by omega]; simp
theorem cells_length (r : Row) : ∀ (n off : Nat), (r.cells n off).length = n
 | 0, off => rfl
 | n + 1, off => by show (r.at off :: r.cells n (off + 1)).length = _; rw [List.length_cons, cells_length r n]
theorem cut_some {r : Row} {off n : Nat} {cs : List CV} (h : r.cut off n = some cs) : off + n ≤ r.n ∧ cs = r.cells n off := by
 unfold Row.cut at h
 split at h
 ·rename_i hb; exact ⟨Nat.le_of_ble_eq_true hb, (Option.some.inj h).symm⟩
 ·cases h
theorem lay_some {r r' : Row} {off : Nat} {vs : List CV} (h : r.lay off vs = some r') : off + vs.length ≤ r.n ∧ r'.kind = r.kind ∧ r'.n = r.n ∧ r'.elem = r.elem ∧ r'.size = r.size ∧ r'.d = r.d ∧
  ∀ j, r'.at j = if off ≤ j ∧ j < off + vs.length then vs.getD (j - off) .nilp else r.at j := by
 unfold Row.lay at h
 split at h
 ·rename_i h1 h2
  cases h
  refine ⟨Nat.le_of_ble_eq_true h1, rfl, rfl, rfl, rfl, rfl, fun j => ?_⟩
  rw [Row.at_eq, Row.at_eq]
  show (Tr.get (setAll vs r.tr off) j).getD r.d = _
  rw [at_set r vs j j off r.tr (Nat.le_of_ble_eq_true h2)]
  split
  ·rename_i hj
   have : j - off < vs.length := by omega
   rw [List.getElem?_eq_getElem this]
   simp [List.getD, List.getElem?_eq_getElem this]
  ·rfl
 ·cases h
structure RowC (e : Env) (id : Nat) (r : Row) (w : World) (b c : Nat) (arr : Array Value) (fr : Nat × Nat) : Prop where
 he : e id = some (b, c)
 hb : w.heap[b]? = some (.cells arr r.elem fr)
 sz : arr.size = c * r.size
 le : r.n ≤ arr.size
 fz : r.kind = .live → fr = (0, 0)
 cell : ∀ i, i < r.n → ∃ x, arr[i]? = some x ∧ (r.at i).rel e x
def RK.read : RK → Bool
 | .live => true
 | .ro => true
 | _ => false
structure RowOK (e : Env) (id : Nat) (r : Row) (w : World) : Prop where
 ex : ∃ b c, e id = some (b, c) ∧ b < w.heap.size
 row : r.kind.read = true → ∃ b c arr fr, RowC e id r w b c arr fr
structure Sim (e : Env) (h : H) (w : World) : Prop where
 row : ∀ id r, h.find id = some r → RowOK e id r w
 dom : ∀ id, h.find id = none → e id = none
 inj : ∀ i j ri rj b c c', h.find i = some ri → ri.kind.read = true → h.find j = some rj → rj.kind.read = true → e i = some (b, c) → e j = some (b, c') → i = j
structure Stp (lo hi : Nat) (W : List Nat) (e : Env) (w : World) (e' : Env) (w' : World) : Prop where
 ext : Ext e e'
 os : w'.os = w.os
 tape : w'.tape = w.tape
 output : w'.output = w.output
 size : w.heap.size ≤ w'.heap.size
 block : ∀ k, k < w.heap.size → (∀ id, id ∈ W ∨ (lo ≤ id ∧ id < hi) → ∀ c, e id ≠ some (k, c)) → w'.heap[k]? = w.heap[k]?
 new : ∀ id b c, e id = none → e' id = some (b, c) → w.heap.size ≤ b ∨ ∃ j, (j ∈ W ∨ (lo ≤ j ∧ j < hi)) ∧ ∃ c', e j = some (b, c')
theorem Stp.refl (lo hi : Nat) (W : List Nat) (e : Env) (w : World) : Stp lo hi W e w e w := ⟨.refl e, rfl, rfl, rfl, Nat.le_refl _, fun _ _ _ => rfl, fun _ _ _ h1 h2 => by rw [h1] at h2; cases h2⟩
theorem Stp.wide {lo hi lo' hi' : Nat} {W W' : List Nat} {e e' : Env} {w w' : World} (h : Stp lo hi W e w e' w') (k : ∀ id, id ∈ W ∨ (lo ≤ id ∧ id < hi) → id ∈ W' ∨ (lo' ≤ id ∧ id < hi')) : Stp lo' hi' W' e w e' w' :=
 ⟨h.ext, h.os, h.tape, h.output, h.size, fun i hi hn => h.block i hi fun id hid => hn id (k id hid), fun id b c h1 h2 => (h.new id b c h1 h2).imp (fun x => x) fun ⟨j, hj, r⟩ => ⟨j, k j hj, r⟩⟩
theorem Stp.trans {lo hi : Nat} {W : List Nat} {e e' e'' : Env} {w w' w'' : World} (h : Stp lo hi W e w e' w') (k : Stp lo hi W e' w' e'' w'') : Stp lo hi W e w e'' w'' := by
 refine ⟨h.ext.trans k.ext, k.os.trans h.os, k.tape.trans h.tape, k.output.trans h.output, Nat.le_trans h.size k.size, fun i hi hn => ?_, fun id b c h1 h2 => ?_⟩
 ·rw [k.block i (Nat.lt_of_lt_of_le hi h.size) (fun id hid c hc => ?_), h.block i hi hn]
  cases hid' : e id with
  | some x =>
   have := h.ext id x hid'
   rw [this] at hc
   exact hn id hid c (by rw [hid', hc])
  | none =>
   rcases h.new id i c hid' hc with h3 | ⟨j, hj, c', h3⟩
   ·omega
   ·exact hn j hj c' h3
 ·cases hid' : e' id with
  | some x =>
   obtain ⟨x1, x2⟩ := x
   have := k.ext id _ hid'
   rw [this] at h2
   cases h2
   exact h.new id b c h1 hid'
  | none =>
   rcases k.new id b c hid' h2 with h3 | ⟨j, hj, c', h3⟩
   ·exact .inl (Nat.le_trans h.size h3)
   ·cases hj' : e j with
    | some x =>
     have := h.ext j x hj'
     rw [this] at h3
     exact .inr ⟨j, hj, c', by rw [hj', h3]⟩
    | none => exact (h.new j b c' hj' h3).imp (fun x => x) fun x => x
theorem RowC.ext {e e' : Env} {id : Nat} {r : Row} {w w' : World} {b c : Nat} {arr : Array Value} {fr : Nat × Nat} (h : RowC e id r w b c arr fr) (he : Ext e e') (hb : w'.heap[b]? = w.heap[b]?) : RowC e' id r w' b c arr fr :=
 ⟨he _ _ h.he, hb.trans h.hb, h.sz, h.le, h.fz, fun i hi => let ⟨x, h1, h2⟩ := h.cell i hi; ⟨x, h1, h2.ext he⟩⟩
theorem blk_lt {w : World} {b : Nat} {o : Obj} (h : w.heap[b]? = some o) : b < w.heap.size := by
 rcases Nat.lt_or_ge b w.heap.size with h' | h'
 ·exact h'
 ·rw [Array.getElem?_eq_none h'] at h; cases h
theorem RowC.cells {e : Env} {id : Nat} {r : Row} {w : World} {b c : Nat} {arr : Array Value} {fr : Nat × Nat} (h : RowC e id r w b c arr fr) (n off : Nat) (hn : off + n ≤ r.n) :
  ∃ xs : List Value, All2 (CV.rel e) (r.cells n off) xs ∧ xs.length = n ∧ ∀ j v, xs[j]? = some v → w.cell? ⟨b, off + j, none⟩ = some v ∧ arr[off + j]? = some v := by
 refine ⟨((arr.toList.drop off).take n), ?_, ?_, fun j v hv => ?_⟩
 ·refine All2.of_get ?_ fun i a y ha hy => ?_
  ·rw [cells_length]; have := h.le; simp; omega
  ·rw [cells_get] at ha
   split at ha
   ·rename_i hi
    cases ha
    obtain ⟨x, h1, h2⟩ := h.cell (off + i) (by omega)
    rw [List.getElem?_take, if_pos hi, List.getElem?_drop] at hy
    rw [← Array.getElem?_toList] at h1
    rw [h1] at hy
    cases hy
    exact h2
   ·cases ha
 ·have := h.le; simp; omega
 ·have hj : j < n := by
   rcases Nat.lt_or_ge j n with h' | h'
   ·exact h'
   ·rw [List.getElem?_take, if_neg (by omega)] at hv; cases hv
  rw [List.getElem?_take, if_pos hj, List.getElem?_drop, Array.getElem?_toList] at hv
  exact ⟨by simp [World.cell?, h.hb, hv], hv⟩
def SM (P : Program) (lo hi : Nat) (e : Env) (h : H) (w : World) (m : M AV) (s : Sem Value) : Prop :=
 ∀ v h' l, m.run h = .ok v h' l → ∃ x w' e', s.run P w = .ok x w' ∧ Sim e' h' w' ∧ Stp lo hi l.w e w e' w' ∧ v.rel e' x
theorem SM.fail {P : Program} {lo hi : Nat} {e : Env} {h : H} {w : World} {s : Sem Value} : SM P lo hi e h w .fail s := fun _ _ _ hh => by cases hh
theorem SM.pure {P : Program} {lo hi : Nat} {e : Env} {h : H} {w : World} {s : Sem Value} {v : AV} {x : Value} (hs : Sim e h w) (hr : v.rel e x) (hrun : s.run P w = .ok x w) : SM P lo hi e h w (.pure v) s := fun _ _ _ hh => by
 cases hh
 exact ⟨x, w, e, hrun, hs, .refl _ _ _ _ _, hr⟩
theorem SM.one {P : Program} {lo hi : Nat} {e : Env} {h : H} {w : World} {s : Sem Value} {v : CV} {x : Value} (hs : Sim e h w) (hr : v.rel e x) (hrun : s.run P w = .ok x w) : SM P lo hi e h w (Ev.one v) s := SM.pure (v := .p (.one v)) hs hr hrun
theorem SM.get {P : Program} {lo hi : Nat} {e : Env} {h : H} {w : World} {s : Sem Value} {id : Nat} {k : Row → M AV} (hk : ∀ r, h.find id = some r → SM P lo hi e h w (k r) s) : SM P lo hi e h w (.get id k) s := by
 intro v h' l hh
 simp only [M.run] at hh
 split at hh
 ·rename_i r hr
  split at hh
  ·rename_i a h2 l2 e2
   cases hh
   obtain ⟨x, w', e', k1, k2, k3, k4⟩ := hk r hr _ _ _ e2
   exact ⟨x, w', e', k1, k2, k3, k4⟩
  ·cases hh
 ·cases hh
theorem SM.rd {P : Program} {lo hi : Nat} {e : Env} {h : H} {w : World} {s : Sem Value} {id : Nat} {k : Row → M AV} (hs : Sim e h w)
  (hk : ∀ r b c arr fr, h.find id = some r → r.kind.read = true → RowC e id r w b c arr fr → SM P lo hi e h w (k r) s) : SM P lo hi e h w (.get id fun r => Ev.rd r (k r)) s := by
 refine SM.get fun r hr => ?_
 unfold Ev.rd
 have := (hs.row id r hr).row
 split
 ·rename_i hkd
  have hrd : r.kind.read = true := by rw [hkd]; rfl
  obtain ⟨b, c, arr, fr, hc⟩ := this hrd
  exact hk r b c arr fr hr hrd hc
 ·rename_i hkd
  have hrd : r.kind.read = true := by rw [hkd]; rfl
  obtain ⟨b, c, arr, fr, hc⟩ := this hrd
  exact hk r b c arr fr hr hrd hc
 ·exact .fail
theorem SM.live {P : Program} {lo hi : Nat} {e : Env} {h : H} {w : World} {s : Sem Value} {r : Row} {k : M AV} (hk : r.kind = .live → SM P lo hi e h w k s) : SM P lo hi e h w (Ev.live r k) s := by
 unfold Ev.live
 split
 ·rename_i hkd; exact hk hkd
 ·exact .fail
theorem SM.put {P : Program} {lo hi : Nat} {e : Env} {h : H} {w w1 : World} {s : Sem Value} {id : Nat} {r : Row} {k : M AV} (h1 : Sim e (h.put id r) w1) (hst : Stp lo hi [id] e w e w1)
  (hk : ∀ v h' l, k.run (h.put id r) = .ok v h' l → ∃ x w' e', s.run P w = .ok x w' ∧ Sim e' h' w' ∧ Stp lo hi l.w e w1 e' w' ∧ v.rel e' x) : SM P lo hi e h w (.put id r k) s := by
 intro v h' l hh
 simp only [M.run] at hh
 split at hh
 ·split at hh
  ·rename_i a h2 l2 e2
   cases hh
   obtain ⟨x, w', e', k1, k2, k3, k4⟩ := hk _ _ _ e2
   refine ⟨x, w', e', k1, k2, ?_, k4⟩
   refine Stp.trans (hst.wide fun i hi => ?_) (k3.wide fun i hi => ?_)
   ·rcases hi with hi | hi
    ·exact .inl (by simp at hi; simp [hi])
    ·exact .inr hi
   ·rcases hi with hi | hi
    ·exact .inl (List.mem_cons_of_mem _ hi)
    ·exact .inr hi
  ·cases hh
 ·cases hh
theorem SM.new {P : Program} {lo hi : Nat} {e e1 : Env} {h : H} {w w1 : World} {s : Sem Value} {id : Nat} {r : Row} {k : M AV} (h1 : h.find id = none → Sim e1 (h.put id r) w1) (hst : h.find id = none → Stp lo hi [id] e w e1 w1)
  (hk : ∀ v h' l, h.find id = none → k.run (h.put id r) = .ok v h' l → ∃ x w' e', s.run P w = .ok x w' ∧ Sim e' h' w' ∧ Stp lo hi l.w e1 w1 e' w' ∧ v.rel e' x) : SM P lo hi e h w (.new id r k) s := by
 intro v h' l hh
 simp only [M.run] at hh
 split at hh
 ·cases hh
 ·rename_i hnone
  split at hh
  ·rename_i a h2 l2 e2
   cases hh
   obtain ⟨x, w', e', k1, k2, k3, k4⟩ := hk _ _ _ hnone e2
   refine ⟨x, w', e', k1, k2, ?_, k4⟩
   refine Stp.trans ((hst hnone).wide fun i hi => ?_) (k3.wide fun i hi => ?_)
   ·rcases hi with hi | hi
    ·exact .inl (by simp at hi; simp [hi])
    ·exact .inr hi
   ·rcases hi with hi | hi
    ·exact .inl (List.mem_cons_of_mem _ hi)
    ·exact .inr hi
  ·cases hh
def Env.set (e : Env) (id : Nat) (x : Nat × Nat) : Env := fun i => if i = id then some x else e i
theorem Env.set_same (e : Env) (id : Nat) (x : Nat × Nat) : e.set id x id = some x := if_pos rfl
theorem Env.set_ext {e : Env} {id : Nat} {x : Nat × Nat} (h : e id = none) : Ext e (e.set id x) := fun i y hy => by
 unfold Env.set
 by_cases hi : i = id
 ·subst hi; rw [h] at hy; cases hy
 ·rw [if_neg hi]; exact hy
theorem Sim.new {e : Env} {h : H} {w : World} (hs : Sim e h w) {id : Nat} (hid : h.find id = none) {r : Row} {c : Nat} {o : Obj} {k : World} (hk : k = { w with heap := w.heap.push o })
  (hr : r.kind.read = true → RowC (e.set id (w.heap.size, c)) id r k w.heap.size c (match o with | .cells arr _ _ => arr | _ => #[]) (match o with | .cells _ _ fr => fr | _ => (0, 0))) :
  Sim (e.set id (w.heap.size, c)) (h.put id r) k := by
 subst hk
 have hx := Env.set_ext (x := (w.heap.size, c)) (hs.dom id hid)
 refine ⟨fun i ri hi => ?_, fun i hi => ?_, fun i j ri rj b c1 c2 hi hl hj hl' h1 h2 => ?_⟩
 ·rw [find_put] at hi
  by_cases hii : i = id
  ·rw [if_pos hii] at hi
   cases hi
   subst hii
   exact ⟨⟨_, _, Env.set_same .., by simp⟩, fun hl => ⟨_, _, _, _, hr hl⟩⟩
  ·rw [if_neg hii] at hi
   have := hs.row i ri hi
   obtain ⟨b, c', hb, hlt⟩ := this.ex
   refine ⟨⟨b, c', hx _ _ hb, by simp; omega⟩, fun hl => ?_⟩
   obtain ⟨b, c, arr, fr, hc⟩ := this.row hl
   exact ⟨b, c, arr, fr, hc.ext hx (by
    have := blk_lt hc.hb
    show (w.heap.push o)[b]? = _
    rw [Array.getElem?_push, if_neg (by omega)])⟩
 ·rw [find_put] at hi
  by_cases hii : i = id
  ·rw [if_pos hii] at hi; cases hi
  ·rw [if_neg hii] at hi
   unfold Env.set
   rw [if_neg hii]
   exact hs.dom i hi
 ·rw [find_put] at hi hj
  unfold Env.set at h1 h2
  by_cases hii : i = id <;> by_cases hjj : j = id
  ·rw [hii, hjj]
  ·rw [if_pos hii] at h1; rw [if_neg hjj] at h2 hj
   cases h1
   obtain ⟨b, c', hb, hlt⟩ := (hs.row j rj hj).ex
   rw [hb] at h2; cases h2; omega
  ·rw [if_neg hii] at h1 hi; rw [if_pos hjj] at h2
   cases h2
   obtain ⟨b, c', hb, hlt⟩ := (hs.row i ri hi).ex
   rw [hb] at h1; cases h1; omega
  ·rw [if_neg hii] at h1 hi; rw [if_neg hjj] at h2 hj
   exact hs.inj i j ri rj b c1 c2 hi hl hj hl' h1 h2
theorem Stp.fresh {e : Env} {w : World} {id c : Nat} {lo hi : Nat} (o : Obj) (hid : e id = none) : Stp lo hi [id] e w (e.set id (w.heap.size, c)) { w with heap := w.heap.push o } :=
 ⟨Env.set_ext hid, rfl, rfl, rfl, by simp, fun k hk _ => by show (w.heap.push o)[k]? = _; rw [Array.getElem?_push, if_neg (by omega)], fun i b c' h1 h2 => by
  unfold Env.set at h2
  by_cases hi : i = id
  ·rw [if_pos hi] at h2; cases h2; exact .inl (Nat.le_refl _)
  ·rw [if_neg hi, h1] at h2; cases h2⟩
theorem All2.cell {e : Env} {cells : List CV} {xs : List Value} (h : All2 (CV.rel e) cells xs) {elem size : Nat} (hl : cells.length ≤ 1000000) (i : Nat) (hi : i < (rowOf cells elem size).n) : ∃ x, xs.toArray[i]? = some x ∧ ((rowOf cells elem size).at i).rel e x := by
 have := rowOf_at cells elem size hl i hi
 obtain ⟨x, h1, h2⟩ := h.get i _ this
 exact ⟨x, by simpa using h1, h2⟩
theorem SM.newRow {P : Program} {lo hi : Nat} {e : Env} {h : H} {w : World} {s : Sem Value} {id : Nat} {cells : List CV} {elem size : Nat} {v : CV} (hs : Sim e h w) (xs : List Value) (hxs : All2 (CV.rel e) cells xs) (c : Nat) (hc : cells.length = c * size) (x : Value)
  (hx : ∀ e1, e1 id = some (w.heap.size, c) → v.rel e1 x) (hrun : s.run P w = .ok x { w with heap := w.heap.push (.cells xs.toArray elem (0, 0)) }) : SM P lo hi e h w (newR id cells elem size v) s := by
 unfold newR
 split
 ·rename_i hb
  have hb := Nat.le_of_ble_eq_true hb
  refine SM.new (e1 := e.set id (w.heap.size, c)) (w1 := { w with heap := w.heap.push (.cells xs.toArray elem (0, 0)) }) (fun hid => hs.new hid rfl fun _ => ?_) (fun hid => Stp.fresh _ (hs.dom id hid)) fun v' h' l hid hh => ?_
  ·refine ⟨Env.set_same .., by show (w.heap.push _)[w.heap.size]? = _; simp [rowOf], ?_, ?_, fun _ => rfl, ?_⟩
   ·show xs.toArray.size = c * size; rw [← hc, hxs.length]; simp
   ·show cells.length ≤ xs.toArray.size; rw [hxs.length]; simp
   ·exact fun i hi => (hxs.mono fun _ _ => CV.rel.ext (Env.set_ext (hs.dom id hid))).cell hb i hi
  ·cases hh
   refine ⟨x, _, e.set id (w.heap.size, c), hrun, hs.new hid rfl fun _ => ?_, .refl _ _ _ _ _, hx _ (Env.set_same ..)⟩
   refine ⟨Env.set_same .., by show (w.heap.push _)[w.heap.size]? = _; simp [rowOf], ?_, ?_, fun _ => rfl, ?_⟩
   ·show xs.toArray.size = c * size; rw [← hc, hxs.length]; simp
   ·show cells.length ≤ xs.toArray.size; rw [hxs.length]; simp
   ·exact fun i hi => (hxs.mono fun _ _ => CV.rel.ext (Env.set_ext (hs.dom id hid))).cell hb i hi
 ·exact .fail
end Ev
end
section
namespace Ev
open Go
theorem addr_add (b o i : Nat) : (⟨b, o, none⟩ : Addr).add i = ⟨b, o + i, none⟩ := by
 unfold Addr.add
 split
 ·simp_all
 ·rfl
theorem setRow_ne (w : World) (g k : Nat) (cs : Array Value) (h : k ≠ g) : (w.setRow g cs).heap[k]? = w.heap[k]? := by
 simp [World.setRow, Array.getElem?_modify, Ne.symm h]
theorem Sim.turn {e : Env} {h : H} {w w1 : World} (hs : Sim e h w) {id : Nat} {r r' : Row} (hr : h.find id = some r) (hk : r.kind.read = true) {b c : Nat} (he : e id = some (b, c))
  (hne : ∀ k, k ≠ b → w1.heap[k]? = w.heap[k]?) (hsz : w.heap.size ≤ w1.heap.size) (hr' : r'.kind.read = true → ∃ arr fr, RowC e id r' w1 b c arr fr) : Sim e (h.put id r') w1 := by
 refine ⟨fun i ri hi => ?_, fun i hi => ?_, fun i j ri rj b' c1 c2 hi hl hj hl' h1 h2 => ?_⟩
 ·rw [find_put] at hi
  by_cases hii : i = id
  ·rw [if_pos hii] at hi
   cases hi
   subst hii
   refine ⟨⟨b, c, he, ?_⟩, fun hl => ?_⟩
   ·obtain ⟨b2, c2, h3, h4⟩ := (hs.row i r hr).ex
    rw [he] at h3; cases h3; omega
   ·obtain ⟨arr, fr, hc⟩ := hr' hl
    exact ⟨b, c, arr, fr, hc⟩
  ·rw [if_neg hii] at hi
   have := hs.row i ri hi
   obtain ⟨b2, c2, h3, h4⟩ := this.ex
   refine ⟨⟨b2, c2, h3, by omega⟩, fun hl => ?_⟩
   obtain ⟨b3, c3, arr, fr, hc⟩ := this.row hl
   refine ⟨b3, c3, arr, fr, hc.ext (.refl _) (hne _ fun hb => hii ?_)⟩
   subst hb
   exact hs.inj i id ri r b3 c3 c hi hl hr hk hc.he he
 ·rw [find_put] at hi
  by_cases hii : i = id
  ·rw [if_pos hii] at hi; cases hi
  ·rw [if_neg hii] at hi; exact hs.dom i hi
 ·rw [find_put] at hi hj
  have key : ∀ i ri, (if i = id then some r' else h.find i) = some ri → ri.kind.read = true → ∃ ri', h.find i = some ri' ∧ ri'.kind.read = true := by
   intro i ri hi hl
   by_cases hii : i = id
   ·subst hii; exact ⟨r, hr, hk⟩
   ·rw [if_neg hii] at hi; exact ⟨ri, hi, hl⟩
  obtain ⟨ri', k1, k2⟩ := key i ri hi hl
  obtain ⟨rj', k3, k4⟩ := key j rj hj hl'
  exact hs.inj i j ri' rj' b' c1 c2 k1 k2 k3 k4 h1 h2
theorem Stp.turn {e : Env} {w w1 : World} {id b c : Nat} {lo hi : Nat} (he : e id = some (b, c)) (ho : w1.os = w.os) (ht : w1.tape = w.tape) (hp : w1.output = w.output) (hne : ∀ k, k ≠ b → w1.heap[k]? = w.heap[k]?) (hsz : w.heap.size ≤ w1.heap.size) : Stp lo hi [id] e w e w1 :=
 ⟨.refl _, ho, ht, hp, hsz, fun k hk hn => hne k fun hb => hn id (.inl (List.mem_cons_self ..)) c (by rw [hb]; exact he), fun i b' c' h1 h2 => by rw [h1] at h2; cases h2⟩
theorem RowC.lay {e : Env} {id : Nat} {r r' : Row} {w : World} {b c : Nat} {arr : Array Value} {fr : Nat × Nat} (h : RowC e id r w b c arr fr) {off : Nat} {vs : List CV} {xs : List Value} (hx : All2 (CV.rel e) vs xs) (hl : r.lay off vs = some r') :
  RowC e id r' (w.setRow b (arr.toList.take off ++ xs ++ arr.toList.drop (off + xs.length)).toArray) b c (arr.toList.take off ++ xs ++ arr.toList.drop (off + xs.length)).toArray fr := by
 obtain ⟨h1, h2, h3, h4, h5, h6, h7⟩ := lay_some hl
 have hlen := hx.length
 have hle := h.le
 have hsize : (arr.toList.take off ++ xs ++ arr.toList.drop (off + xs.length)).toArray.size = arr.size := by
  simp only [List.size_toArray, List.length_append, List.length_take, List.length_drop, Array.length_toList]
  omega
 refine ⟨h.he, ?_, by rw [hsize, h5]; exact h.sz, by rw [hsize, h3]; exact hle, by rw [h2]; exact h.fz, fun i hi => ?_⟩
 ·rw [h4]; exact setRow_heap w b arr _ r.elem fr h.hb
 ·rw [h3] at hi
  rw [h7 i]
  have ht : (arr.toList.take off).length = off := by rw [List.length_take, Array.length_toList]; omega
  have hat : (arr.toList.take off ++ xs).length = off + xs.length := by rw [List.length_append, ht]
  rw [List.getElem?_toArray]
  by_cases hc : off ≤ i ∧ i < off + vs.length
  ·rw [if_pos hc, List.getElem?_append_left (by omega), List.getElem?_append_right (by omega), ht]
   have hv : vs[i - off]? = some (vs.getD (i - off) .nilp) := by
    have : i - off < vs.length := by omega
    simp [List.getD, List.getElem?_eq_getElem this]
   exact hx.get _ _ hv
  ·rw [if_neg hc]
   obtain ⟨x, hx1, hx2⟩ := h.cell i hi
   refine ⟨x, ?_, hx2⟩
   rw [← Array.getElem?_toList] at hx1
   by_cases hlt : i < off
   ·rw [List.getElem?_append_left (by omega), List.getElem?_append_left (by omega), List.getElem?_take, if_pos hlt, hx1]
   ·rw [List.getElem?_append_right (by omega), hat, List.getElem?_drop, show off + xs.length + (i - (off + xs.length)) = i by omega, hx1]
theorem SM.lay {P : Program} {lo hi : Nat} {e : Env} {h : H} {w : World} {s : Sem Value} {id : Nat} {r r' : Row} {b c : Nat} {arr : Array Value} {fr : Nat × Nat} (hs : Sim e h w) (hr : h.find id = some r) (hk : r.kind = .live) (hc : RowC e id r w b c arr fr)
  {off : Nat} {vs : List CV} {xs : List Value} (hx : All2 (CV.rel e) vs xs) (hl : r.lay off vs = some r') {v : AV} {x : Value} (hv : v.rel e x)
  (hrun : (storeCells ⟨b, off, none⟩ xs 0).run P w = .ok () (w.setRow b (arr.toList.take off ++ xs ++ arr.toList.drop (off + xs.length)).toArray) → s.run P w = .ok x (w.setRow b (arr.toList.take off ++ xs ++ arr.toList.drop (off + xs.length)).toArray)) :
  SM P lo hi e h w (.put id r' (.pure v)) s := by
 have hrd : r.kind.read = true := by rw [hk]; rfl
 have hl' := lay_some hl
 have hlen := hx.length
 have hle := hc.le
 have hst := run_storeCells_at (P := P) b off r.elem xs 0 arr w (by rw [← hc.fz hk]; exact hc.hb) (by omega) hx.oneCell
 rw [Nat.add_zero] at hst
 have hne : ∀ k, k ≠ b → (w.setRow b (arr.toList.take off ++ xs ++ arr.toList.drop (off + xs.length)).toArray).heap[k]? = w.heap[k]? := fun k hkb => setRow_ne _ _ _ _ hkb
 have hsz : w.heap.size ≤ (w.setRow b (arr.toList.take off ++ xs ++ arr.toList.drop (off + xs.length)).toArray).heap.size := by simp [World.setRow]
 have hsim : Sim e (h.put id r') (w.setRow b (arr.toList.take off ++ xs ++ arr.toList.drop (off + xs.length)).toArray) := hs.turn hr hrd hc.he hne hsz fun _ => ⟨_, _, hc.lay hx hl⟩
 refine SM.put hsim (Stp.turn hc.he rfl rfl rfl hne hsz) fun v' h' l hh => ?_
 cases hh
 exact ⟨x, _, e, hrun hst, hsim, .refl _ _ _ _ _, hv⟩
section
variable {P : Program} {ty : Nat → Option TI} (hty : ∀ t i, ty t = some i → tiOf P t = some i)
theorem cvOf_rel {e : Env} {v : Value} {c : CV} (h : cvOf v = some c) : c.rel e v := by
 unfold cvOf at h
 split at h <;> first
  | (cases h; done)
  | (cases h; simp [CV.rel])
theorem cvsOf_rel {e : Env} : ∀ {l : List Value} {cs : List CV}, cvsOf l = some cs → All2 (CV.rel e) cs l
 | [], cs, h => by cases h; trivial
 | v :: l, cs, h => by
  unfold cvsOf at h
  split at h
  ·rename_i c r h1 h2
   cases h
   exact ⟨cvOf_rel h1, cvsOf_rel h2⟩
  ·cases h
theorem avOf_rel {e : Env} {v : Value} {c : AV} (h : avOf v = some c) : c.rel e v := by
 have key : ∀ v : Value, (match cvOf v with | some c => some (AV.p (.one c)) | none => none) = some c → c.rel e v := by
  intro v h
  split at h
  ·rename_i hc; cases h; exact cvOf_rel hc
  ·cases h
 cases v with
 | agg cs =>
  simp only [avOf] at h
  split at h
  ·rename_i l hl; cases h; exact ⟨cs.toList, cvsOf_rel hl, by simp⟩
  ·cases h
 | tuple cs =>
  simp only [avOf] at h
  split at h
  ·rename_i hl
   cases h
   have : cs = #[] := by simpa using hl
   subst this
   exact ⟨[], trivial, rfl⟩
  ·cases h
 | _ => exact key _ h
structure TF (P : Program) (t : Nat) (i : TI) : Prop where
 ex : ∃ info z, P.info? t = some info ∧ info.zero = some z ∧ info.size = i.size ∧ info.bytes = i.bytes ∧ cvsOf z.cells.toList = some i.zero
 len : i.zero.length = i.size
 und : ∃ d, P.underlying t = some d ∧ i.kind = tkOf P d
 fok : ∀ d, P.underlying t = some d → fieldsOk P d = true
theorem TF.of {t : Nat} {i : TI} (h : tiOf P t = some i) : TF P t i := by
 unfold tiOf at h
 split at h
 ·rename_i info d h1 h2
  split at h
  ·rename_i z hz
   split at h
   ·rename_i l hl
    split at h
    ·rename_i hlen
     cases h
     exact ⟨⟨info, z, h1, hz, rfl, rfl, hl⟩, hlen.1, ⟨d, h2, rfl⟩, fun d' hd' => by rw [h2] at hd'; cases hd'; exact hlen.2⟩
    ·cases h
   ·cases h
  ·cases h
 ·cases h
theorem TF.sizeOf {t : Nat} {i : TI} (h : TF P t i) (w : World) : (Go.sizeOf t).run P w = .ok i.size w := by
 obtain ⟨info, z, h1, h2, h3, h4, h5⟩ := h.ex
 simp [Go.sizeOf, typeInfo, h1, h3]
theorem TF.typeInfo {t : Nat} {i : TI} (h : TF P t i) (w : World) : ∃ info, (Go.typeInfo t).run P w = .ok info w ∧ info.bytes = i.bytes ∧ info.size = i.size := by
 obtain ⟨info, z, h1, h2, h3, h4, h5⟩ := h.ex
 exact ⟨info, by simp [Go.typeInfo, h1], h4, h3⟩
theorem TF.zeroValue {t : Nat} {i : TI} (h : TF P t i) (w : World) : ∃ z, (Go.zeroValue t).run P w = .ok z w ∧ ∀ e, All2 (CV.rel e) i.zero z.cells.toList := by
 obtain ⟨info, z, h1, h2, h3, h4, h5⟩ := h.ex
 exact ⟨z, by simp [Go.zeroValue, Go.typeInfo, h1, h2], fun e => cvsOf_rel h5⟩
theorem TF.underlying {t : Nat} {i : TI} (h : TF P t i) : ∃ d, i.kind = tkOf P d ∧ ∀ w, (Go.underlying t).run P w = .ok d w := by
 obtain ⟨d, h1, h2⟩ := h.und
 exact ⟨d, h2, fun w => run_underlying h1 w⟩
theorem TF.isAgg {t : Nat} {i : TI} (h : TF P t i) (w : World) : (Go.isAgg t).run P w = .ok i.agg w := by
 obtain ⟨d, h1, h2⟩ := h.underlying
 simp only [Go.isAgg, Sem.run_bind, h2, Result.andThen_ok]
 unfold TI.agg
 rw [h1]
 cases d <;> rfl
def ORel (e : Env) (ρ : Operand → Option AV) (σ : Operand → Value) : Prop := ∀ x v, ρ x = some v → v.rel e (σ x)
variable {e : Env} {ρ : Operand → Option AV} {σ : Operand → Value} (ho : ORel e ρ σ)
include ho
theorem evP_rel {x : Operand} {v : PV} (h : evP ρ x = some v) : v.rel e (σ x) := by
 unfold evP at h
 split at h
 ·rename_i h'; cases h; exact ho _ _ h'
 ·cases h
theorem evC_rel {x : Operand} {v : CV} (h : evC ρ x = some v) : v.rel e (σ x) := by
 unfold evC at h
 split at h
 ·rename_i h'; cases h; exact ho _ _ h'
 ·cases h
theorem evI_rel {x : Operand} {n : Int} (h : evI ρ x = some n) : ∃ k, σ x = .int k n := by
 unfold evI at h
 split at h
 ·rename_i k n' h'; cases h; exact ⟨k, ho _ _ h'⟩
 ·cases h
theorem evPs_rel : ∀ {l : List Operand} {vs : List PV}, evPs ρ l = some vs → All2 (PV.rel e) vs (l.map σ)
 | [], vs, h => by cases h; trivial
 | x :: l, vs, h => by
  unfold evPs at h
  split at h
  ·rename_i h1 h2; cases h; exact ⟨evP_rel ho h1, evPs_rel h2⟩
  ·cases h
theorem parts_rel : ∀ {l : List (Nat × Operand)} {vs : List (Nat × PV)}, parts ρ l = some vs → All2 (fun a (b : Nat × Value) => a.1 = b.1 ∧ a.2.rel e b.2) vs (l.map fun (i, x) => (i, σ x))
 | [], vs, h => by cases h; trivial
 | x :: l, vs, h => by
  unfold parts at h
  split at h
  ·rename_i h1 h2; cases h; exact ⟨⟨rfl, evP_rel ho h1⟩, parts_rel h2⟩
  ·cases h
end
end Ev
end
