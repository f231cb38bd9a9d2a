/- A part of the proof that plaittop.CoreLanes returns true. -/
import Derived.Laws.Strings
import Derived.Laws.IdiomStrings
import Derived.Laws.AppendOwn
import Derived.Test.YtebpijlmeemfaaaGreatDoorB03
set_option linter.all false
set_option linter.unusedSectionVars false
set_option linter.unusedSimpArgs false
set_option linter.unusedVariables false
section
namespace Ev
open Go
section
variable {P : Program} {ty : Nat → Option TI} (hty : ∀ t i, ty t = some i → tiOf P t = some i) {e : Env} {h : H} {w : World} (hs : Sim e h w)
 {ρ : Operand → Option AV} {σ : Operand → Value} (ho : ORel e ρ σ) {lo hi : Nat}
theorem eqBytes_eq : ∀ l m : List UInt8, eqBytes l m = (l == m)
 | [], [] => rfl
 | [], b :: m => rfl
 | a :: l, [] => rfl
 | a :: l, b :: m => by
  have ih := eqBytes_eq l m
  simp only [eqBytes]
  cases h : Nat.beq a.toNat b.toNat
  ·have : a ≠ b := fun e => Nat.ne_of_beq_eq_false h (by rw [e])
   simp [this]
  ·have : a = b := UInt8.toNat_inj.1 (Nat.eq_of_beq_eq_true h)
   simp [this, ih]
theorem pv_of {e : Env} {ag : Bool} {cs : List CV} {v : PV} {xs : List Value} (h : PV.of ag cs = some v) (k : All2 (CV.rel e) cs xs) :
  (ag = true ∧ v = .agg cs) ∨ (ag = false ∧ ∃ c x, cs = [c] ∧ xs = [x] ∧ v = .one c ∧ c.rel e x) := by
 unfold PV.of at h
 split at h
 ·cases h; exact .inl ⟨rfl, rfl⟩
 ·split at h
  ·rename_i c
   cases h
   match xs, k with
   | [x], k => exact .inr ⟨rfl, c, x, rfl, rfl, rfl, k.1⟩
  ·cases h
theorem nil_rel {e : Env} {t : Nat} {d : TypeDesc} (hu : (underlying t).run P w = .ok d w) {a b : CV} {X Y : Value} (hx : a.rel e X) (hy : b.rel e Y) {r : Bool} (hr : nilEq (tkOf P d) a b = some r) :
    (binOp .eql t X Y).run P w = .ok (.bool r) w ∧ (binOp .neq t X Y).run P w = .ok (.bool !r) w := by
  have key : ∀ n, (Op.equalIn (n + 1) t X Y).run P w = .ok r w ∧ binOp .eql t X Y = (do pure (.bool (← Op.equal t X Y))) ∧ binOp .neq t X Y = (do pure (.bool (!(← Op.equal t X Y)))) := by
    intro n
    generalize hd : tkOf P d = K at hr
    unfold nilEq at hr
    split at hr <;> first
      | (cases hr; done)
      | (cases hr
         cases d <;> first | (cases hd; done) | skip
         first
           | obtain ⟨_, _, _, rfl⟩ := hx
           | obtain ⟨_, _, rfl⟩ := hx
           | cases hx
         first
           | obtain ⟨_, _, _, rfl⟩ := hy
           | obtain ⟨_, _, rfl⟩ := hy
           | cases hy
         exact ⟨by simp [Op.equalIn, hu], rfl, rfl⟩)
  obtain ⟨h1, h2, h3⟩ := key 9999
  have h1 : (Op.equal t X Y).run P w = .ok r w := h1
  rw [h2, h3]
  constructor <;> simp only [Sem.run_bind, h1, Result.andThen_ok, Sem.run_pure]
theorem run_loadVar {t : Nat} {i : TI} (ht : TF P t i) {b off : Nat} {cs : List CV} {xs : List Value} {v : PV} (hl : xs.length = i.size) (k : All2 (CV.rel e) cs xs)
  (hx : ∀ (j : Nat) (v : Value), xs[j]? = some v → w.cell? ⟨b, off + j, none⟩ = some v) (hv : PV.of i.agg cs = some v) : ∃ x, (loadVar t ⟨b, off, none⟩).run P w = .ok x w ∧ v.rel e x := by
 rcases pv_of hv k with ⟨h1, rfl⟩ | ⟨h1, c, x, rfl, rfl, rfl, h2⟩
 ·refine ⟨.agg xs.toArray, ?_, xs, k, rfl⟩
  have := run_loadCells_list (P := P) w ⟨b, off, none⟩ xs (fun j v hj => by rw [addr_add]; exact hx j v hj)
  rw [hl] at this
  simp only [loadVar, Sem.run_bind, ht.isAgg, Result.andThen_ok, h1, if_true, ht.sizeOf, this, Sem.run_pure]
 ·refine ⟨x, ?_, h2⟩
  have := hx 0 x rfl
  simp only [loadVar, Sem.run_bind, ht.isAgg, Result.andThen_ok, h1, run_load, Bool.false_eq_true, if_false]
  rw [Nat.add_zero] at this
  simp [this]
include hty hs ho
theorem sm_load (t : Nat) (a : Operand) : SM P lo hi e h w (evLoad ty ρ t a) (Instr.loadAt t (σ a)) := by
 unfold evLoad
 split
 ·rename_i i id off hi' ha
  have ht := TF.of (hty t i hi')
  obtain ⟨b, c, he, hxa⟩ := evC_rel ho ha
  refine SM.rd hs fun r b' c' arr fr hr hk hc => ?_
  have : b' = b := by have := hc.he; rw [he] at this; cases this; rfl
  subst this
  split
  ·rename_i cs hcut
   obtain ⟨h1, rfl⟩ := cut_some hcut
   obtain ⟨xs, k1, k2, k3⟩ := hc.cells _ _ h1
   unfold pvO
   split
   ·rename_i v hv
    obtain ⟨x, hrun, hrel⟩ := run_loadVar (P := P) (w := w) ht k2 k1 (fun j v hj => (k3 j v hj).1) hv
    exact SM.pure hs (v := .p v) hrel (by simp only [Instr.loadAt, hxa, Instr.sureAddr, Sem.run_bind, Sem.run_pure, Result.andThen_ok, hrun])
   ·exact .fail
  ·exact .fail
 ·exact .fail
theorem sm_store (t : Nat) (a x : Operand) : SM P lo hi e h w (evStore ty ρ t a x) (do Instr.storeAt t (σ a) (σ x); pure undef) := by
 unfold evStore
 split
 ·rename_i i id off v hi' ha hx
  have ht := TF.of (hty t i hi')
  obtain ⟨b, c, he, hxa⟩ := evC_rel ho ha
  have hv := (evP_rel ho hx).cells
  split
  ·rename_i hlen
   refine SM.get fun r hr => SM.live fun hk => ?_
   obtain ⟨b', c', arr, fr, hc⟩ := (hs.row id r hr).row (by rw [hk]; rfl)
   have : b' = b := by have := hc.he; rw [he] at this; cases this; rfl
   subst this
   split
   ·rename_i r' hl
    refine SM.lay hs hr hk hc hv hl (v := .tup []) (x := undef) ⟨[], trivial, rfl⟩ fun hst => ?_
    have hsz : (σ x).cells.size = i.size := by rw [← hlen, hv.length]; simp
    simp only [Instr.storeAt, hxa, Instr.sureAddr, Sem.run_bind, Sem.run_pure, Result.andThen_ok, storeVar, ht.sizeOf, hsz, ne_eq, not_true_eq_false, if_false, hst]
   ·exact .fail
  ·exact .fail
 ·exact .fail
omit ho in
theorem sm_alloc (t : Nat) : SM P lo hi e h w (match ty t with | some i => newR lo i.zero t i.size (.ptr lo 0) | none => .fail) (Instr.alloc t true (.tuple #[])) := by
 split
 ·rename_i i hi'
  have ht := TF.of (hty t i hi')
  obtain ⟨z, hz, hz2⟩ := ht.zeroValue w
  refine SM.newRow hs z.cells.toList (hz2 e) 1 (by rw [ht.len]; omega) (.pointer (some ⟨w.heap.size, 0, none⟩)) (fun e1 h1 => ⟨_, _, h1, rfl⟩) ?_
  simp [Instr.alloc, Sem.run_bind, hz, newVar, newRow, newObj, Sem.run]
 ·exact .fail
omit hty in
theorem sm_box (t : Nat) (x : Operand) : SM P lo hi e h w (match evP ρ x with | some v => newR lo v.cells t v.cells.length (.ptr lo 0) | none => .fail) (Instr.box t (σ x)) := by
 split
 ·rename_i v hx
  have hv := (evP_rel ho hx).cells
  refine SM.newRow hs (σ x).cells.toList hv 1 (by omega) (.pointer (some ⟨w.heap.size, 0, none⟩)) (fun e1 h1 => ⟨_, _, h1, rfl⟩) ?_
  simp [Instr.box, Sem.run_bind, newVar, newRow, newObj, Sem.run]
 ·exact .fail
omit hty in
theorem sm_bin (hty : ∀ t i, ty t = some i → tiOf P t = some i) (op : BinOp) (t : Nat) (x y : Operand) (u : Nat) : SM P lo hi e h w (match evC ρ x, evC ρ y with | some a, some b => oneO (evBin ty t op a b) | _, _ => .fail)
    (do eqGuard op t x y (σ x) (σ y); binOp op t (σ x) (σ y)) := by
  split
  · rename_i a b ha hb
    have hx := evC_rel ho ha
    have hy := evC_rel ho hb
    unfold oneO
    split
    · rename_i c hc
      have hg : (eqGuard op t x y (σ x) (σ y)).run P w = .ok () w := by
        unfold eqGuard
        generalize σ x = X at *
        generalize σ y = Y at *
        cases a with
        | ptr => obtain ⟨b, c, h1, rfl⟩ := hx; cases op <;> rfl
        | sl => obtain ⟨b, c, h1, rfl⟩ := hx; cases op <;> rfl
        | mp => obtain ⟨b, c, h1, rfl⟩ := hx; cases op <;> rfl
        | fn => obtain ⟨l, h1, rfl⟩ := hx; cases op <;> rfl
        | emp => obtain ⟨a, c, rfl⟩ := hx; cases op <;> rfl
        | fb F β i => obtain ⟨rfl, _⟩ := hx; cases op <;> rfl
        | any =>
          exfalso
          have hn : ∀ k, nilEq k .any b = none := fun k => by cases k <;> rfl
          unfold evBin at hc
          simp only [hn] at hc
          cases hti : ty t with
          | none => rw [hti] at hc; cases hc
          | some i => rw [hti] at hc; cases op <;> cases hc
        | _ => cases hx; cases op <;> rfl
      have hb2 : ∃ X, (binOp op t (σ x) (σ y)).run P w = .ok X w ∧ c.rel e X := by
        generalize σ x = X at *
        generalize σ y = Y at *
        unfold evBin at hc
        split at hc
        · rename_i k n k' m
          cases hx
          cases hy
          have hkk : ∀ c', (if k = k' then binInt op k n m else none) = some c' → op ≠ .shl → op ≠ .shr → ∃ X, (binOp op t (.int k n) (.int k' m)).run P w = .ok X w ∧ c'.rel e X := by
            intro c' h1 h2 h3
            split at h1
            · rename_i hk
              subst hk
              cases op <;> first
                | exact absurd rfl h2
                | exact absurd rfl h3
                | (simp only [binInt] at h1
                   first
                     | (split at h1
                        · cases h1
                        · rename_i hz
                          cases h1
                          exact ⟨_, by simp [binOp, Op.intDiv, hz], rfl⟩)
                     | (cases h1
                        exact ⟨_, by simp only [binOp, ne_eq, not_true_eq_false, if_false, Op.intArith, Op.intBits, Op.intCmp, Sem.run_pure], rfl⟩))
            · cases h1
          split at hc
          · split at hc
            · cases hc
            · rename_i hz
              cases hc
              exact ⟨_, by simp [binOp, Op.shift, hz], rfl⟩
          · split at hc
            · cases hc
            · rename_i hz
              cases hc
              exact ⟨_, by simp [binOp, Op.shift, hz], rfl⟩
          · rename_i h2 h3
            exact hkk c hc (fun e => h2 e) (fun e => h3 e)
        · rename_i l m
          cases hx
          cases hy
          have hbe := eqBytes_eq l m
          split at hc
          · cases hc
            exact ⟨.bool (eqBytes l m), by rw [hbe]; simp only [binOp, Op.stringOp, ByteArray.toList_eq, Sem.run_pure], rfl⟩
          · cases hc
            exact ⟨.bool (!eqBytes l m), by rw [hbe]; simp only [binOp, Op.stringOp, ByteArray.toList_eq, Sem.run_pure], rfl⟩
          · cases hc
        · split at hc
          · rename_i i hi'
            obtain ⟨d, hk, hu⟩ := (TF.of (hty t i hi')).underlying
            have key : ∀ r, nilEq i.kind a b = some r → (binOp .eql t X Y).run P w = .ok (.bool r) w ∧ (binOp .neq t X Y).run P w = .ok (.bool !r) w := by
              intro r hr
              rw [hk] at hr
              exact nil_rel (hu w) hx hy hr
            split at hc
            · rename_i r hr
              cases hc
              exact ⟨_, (key _ hr).1, rfl⟩
            · rename_i r hr
              cases hc
              exact ⟨_, (key _ hr).2, rfl⟩
            · cases hc
          · cases hc
      obtain ⟨X, h1, h2⟩ := hb2
      exact SM.one hs h2 (by simp only [Sem.run_bind, hg, Result.andThen_ok, h1])
    · exact .fail
  · exact .fail
end
end Ev
end
section
namespace Ev
open Go
section
variable {P : Program} {ty : Nat → Option TI} (hty : ∀ t i, ty t = some i → tiOf P t = some i) {e : Env} {h : H} {w : World} (hs : Sim e h w)
 {ρ : Operand → Option AV} {σ : Operand → Value} (ho : ORel e ρ σ) {lo hi : Nat}
theorem SM.oneO {s : Sem Value} {c : Option CV} (hs : Sim e h w) (k : ∀ v, c = some v → ∃ x, s.run P w = .ok x w ∧ v.rel e x) : SM P lo hi e h w (Ev.oneO c) s := by
 unfold Ev.oneO
 split
 ·rename_i c
  obtain ⟨x, h1, h2⟩ := k _ rfl
  exact SM.one hs h2 h1
 ·exact .fail
theorem SM.pvO {s : Sem Value} {c : Option PV} (hs : Sim e h w) (k : ∀ v, c = some v → ∃ x, s.run P w = .ok x w ∧ v.rel e x) : SM P lo hi e h w (Ev.pvO c) s := by
 unfold Ev.pvO
 split
 ·rename_i c
  obtain ⟨x, h1, h2⟩ := k _ rfl
  exact SM.pure hs (v := .p _) h2 h1
 ·exact .fail
theorem bytes_rel (e : Env) : ∀ s : List UInt8, All2 (CV.rel e) (bytesOf s) (s.map fun b => Value.int .u8 b.toNat)
 | [] => trivial
 | b :: s => ⟨rfl, bytes_rel e s⟩
theorem SM.newRo {w1 : World} {s : Sem Value} {id : Nat} {cells : List CV} {elem : Nat} {v : CV} (hs : Sim e h w) (xs : List Value) (rest : Array Value) (fr : Nat × Nat) (hxs : All2 (CV.rel e) cells xs) (c : Nat) (hc : (xs.toArray ++ rest).size = c) (x : Value)
  (hw : w1.heap = w.heap.push (.cells (xs.toArray ++ rest) elem fr)) (h2 : w1.os = w.os) (h3 : w1.tape = w.tape) (h4 : w1.output = w.output)
  (hx : ∀ e1, e1 id = some (w.heap.size, c) → v.rel e1 x) (hrun : s.run P w = .ok x w1) : SM P lo hi e h w (Ev.newRo id cells elem v) s := by
 unfold Ev.newRo
 split
 ·rename_i hb
  have hb := Nat.le_of_ble_eq_true hb
  have hlen := hxs.length
  have hrow : h.find id = none → RowC (e.set id (w.heap.size, c)) id { rowOf cells elem 1 with kind := .ro } { w with heap := w.heap.push (.cells (xs.toArray ++ rest) elem fr) } w.heap.size c (xs.toArray ++ rest) fr := by
   intro hid
   refine ⟨Env.set_same .., by show (w.heap.push _)[w.heap.size]? = _; simp [rowOf], by rw [hc]; exact (Nat.mul_one c).symm, by show cells.length ≤ _; simp; omega, (fun hh => by cases hh), fun i hi => ?_⟩
   have hi' : i < cells.length := hi
   obtain ⟨y, h1, h2⟩ := (hxs.mono fun _ _ => CV.rel.ext (Env.set_ext (x := (w.heap.size, c)) (hs.dom id hid))).cell (elem := elem) (size := 1) hb i hi
   refine ⟨y, ?_, h2⟩
   rw [Array.getElem?_append_left (by simp; omega)]
   exact h1
  have hsim0 : h.find id = none → Sim (e.set id (w.heap.size, c)) (h.put id { rowOf cells elem 1 with kind := .ro }) { w with heap := w.heap.push (.cells (xs.toArray ++ rest) elem fr) } := fun hid => hs.new hid rfl fun _ => hrow hid
  have hsim : h.find id = none → Sim (e.set id (w.heap.size, c)) (h.put id { rowOf cells elem 1 with kind := .ro }) w1 := fun hid =>
   ⟨fun i r hr => ⟨by rw [hw]; exact ((hsim0 hid).row i r hr).ex, fun hl => by
    obtain ⟨b, c', arr, fr', hc'⟩ := ((hsim0 hid).row i r hr).row hl
    exact ⟨b, c', arr, fr', hc'.ext (.refl _) (by rw [hw])⟩⟩, (hsim0 hid).dom, (hsim0 hid).inj⟩
  have hst : h.find id = none → Stp lo hi [id] e w (e.set id (w.heap.size, c)) w1 := fun hid => by
   have := Stp.fresh (lo := lo) (hi := hi) (c := c) (w := w) (.cells (xs.toArray ++ rest) elem fr) (hs.dom id hid)
   exact ⟨this.ext, h2, h3, h4, by rw [hw]; exact this.size, fun k hk hn => by rw [hw]; exact this.block k hk hn, this.new⟩
  refine SM.new (e1 := e.set id (w.heap.size, c)) (w1 := w1) hsim hst fun v' h' l hid hh => ?_
  cases hh
  exact ⟨x, w1, e.set id (w.heap.size, c), hrun, hsim hid, .refl _ _ _ _ _, hx _ (Env.set_same ..)⟩
 ·exact .fail
include hs ho in
theorem sm_un (op : UnOp) (x : Operand) : SM P lo hi e h w (match evC ρ x with | some a => Ev.oneO (evUn op a) | _ => .fail) (Op.unary op (σ x)) := by
  split
  · rename_i a ha
    have hx := evC_rel ho ha
    refine SM.oneO hs fun v hv => ?_
    unfold evUn at hv
    split at hv <;> first
      | (cases hv; done)
      | (cases hv
         rw [show σ x = _ from hx]
         exact ⟨_, by simp only [Op.unary, Op.intArith, Op.intBits, Sem.run_pure], rfl⟩)
  · exact .fail
include hty hs ho in
theorem sm_convert (src dst : Nat) (x : Operand) : SM P lo hi e h w (evConvert ty ρ lo src dst x) (convert src dst (σ x)) := by
 unfold evConvert
 split
 ·rename_i i0 i c h0 h1 hc
  obtain ⟨d0, hk0, hu0⟩ := (TF.of (hty _ _ h0)).underlying
  obtain ⟨d, hk, hu⟩ := (TF.of (hty _ _ h1)).underlying
  have hx := evC_rel ho hc
  split
  ·rename_i el s hki
   rw [hk] at hki
   cases d <;> first | (cases hki; done) | skip
   cases hki
   split
   ·rename_i hk0' h2
    obtain ⟨d0', hd0', hkk⟩ := (TF.of (hty _ _ h0)).und
    obtain ⟨d', hd', hkk'⟩ := (TF.of (hty _ _ h1)).und
    obtain ⟨d2, hd2, hkk2⟩ := (TF.of (hty _ _ h2)).und
    have e1 : d' = .slice el := by
     have := hu w
     rw [run_underlying hd'] at this
     cases this; rfl
    subst e1
    rw [hk0'] at hkk
    cases d0' <;> first | (cases hkk; done) | skip
    simp only at hkk2
    cases d2 <;> first | (cases hkk2; done) | skip
    cases hkk2
    rw [show σ x = _ from hx]
    have hrun := run_bytes_of_string (P := P) w src dst el ⟨s.toArray⟩ hd0' hd' hd2
    have hge := grownCap_ge w (ByteArray.mk s.toArray).size 0 el
    have hsz : (ByteArray.mk s.toArray).size = s.length := rfl
    refine SM.newRo (w1 := w.drew.alloc (.cells (bytesRow ⟨s.toArray⟩ (grownCap w s.length 0 el)) el ((bytesRow ⟨s.toArray⟩ (grownCap w s.length 0 el)).size, (bytesRow ⟨s.toArray⟩ (grownCap w s.length 0 el)).size + 1))) hs (s.map fun b => Value.int .u8 b.toNat) (Array.replicate (grownCap w s.length 0 el - s.length) (.int .u8 0)) ((bytesRow ⟨s.toArray⟩ (grownCap w s.length 0 el)).size, (bytesRow ⟨s.toArray⟩ (grownCap w s.length 0 el)).size + 1) (bytes_rel e s) (grownCap w s.length 0 el) (by simp; rw [hsz] at hge; omega) _ ?_ rfl rfl rfl (fun e1 h1 => ⟨_, _, h1, rfl⟩) hrun
    show (w.drew.alloc _).heap = _
    have : bytesRow ⟨s.toArray⟩ (grownCap w s.length 0 el) = (s.map fun b => Value.int .u8 b.toNat).toArray ++ Array.replicate (grownCap w s.length 0 el - s.length) (.int .u8 0) := by
     unfold bytesRow
     rw [hsz]
     simp
    rw [this]
    rfl
   ·exact .fail
  ·rename_i k k' n hki
   rw [hk] at hki
   cases d <;> first | (cases hki; done) | skip
   cases hki
   rw [show σ x = _ from hx]
   exact SM.one hs rfl (by simp [convert, hu0, hu, Conv.intToInt])
  ·rename_i s hki
   rw [hk] at hki
   cases d <;> first | (cases hki; done) | skip
   rw [show σ x = _ from hx]
   refine SM.one (v := .str s) hs rfl ?_
   cases d0 <;> simp [convert, hu0, hu]
  ·rename_i e' id off len cap hki
   rw [hk] at hki
   cases d <;> first | (cases hki; done) | skip
   cases hki
   split
   ·rename_i heq
    subst heq
    split
    ·rename_i h2
     obtain ⟨d2, hk2, hu2⟩ := (TF.of (hty _ _ h2)).underlying
     simp only at hk2
     cases d2 <;> first | (cases hk2; done) | skip
     cases hk2
     obtain ⟨b, c, he, hxx⟩ := hx
     refine SM.rd hs fun r b' c' arr fr hr hrd hc => ?_
     have : b' = b := by have := hc.he; rw [he] at this; cases this; rfl
     subst this
     have hd0 : d0 = .slice e' := by
      have a := hu0 w
      rw [hu w] at a
      cases a
      rfl
     subst hd0
     have hsh : w.shape? b' = some (r.elem, arr.size) := by simp [World.shape?, hc.hb]
     have hw1 : ∃ fr', ∃ w1 : World, w1 = { w with heap := w.heap.modify b' fun | .cells c elem (lo, hi) => .cells c elem (if lo == hi then (arr.size, arr.size + 1) else (min lo arr.size, max hi (arr.size + 1))) | o => o } ∧ w1.heap[b']? = some (.cells arr r.elem fr') := by
      obtain ⟨f1, f2⟩ := fr
      exact ⟨_, _, rfl, by simp [Array.getElem?_modify, hc.hb]; rfl⟩
     obtain ⟨fr', w1, hw1, hb1⟩ := hw1
     have hrun : (convert src src (σ x)).run P w = .ok (σ x) w1 := by
      rw [hxx]
      simp [convert, hu0, hu, hu2, markStringish, shape, freeze, Sem.run, hsh, World.freeze]
      rw [hw1]
      simp only [beq_iff_eq]
      first
       | rfl
       | (congr 2; funext o; cases o <;> first | rfl | simp)
     have hne : ∀ k, k ≠ b' → w1.heap[k]? = w.heap[k]? := fun k hk => by rw [hw1]; simp [Array.getElem?_modify, Ne.symm hk]
     have hsz : w.heap.size ≤ w1.heap.size := by rw [hw1]; simp
     have hsim : Sim e (h.put id { r with kind := .ro }) w1 := hs.turn hr hrd hc.he hne hsz fun _ => ⟨arr, fr', hc.he, hb1, hc.sz, hc.le, (fun hh => by cases hh), hc.cell⟩
     refine SM.put hsim (Stp.turn hc.he (by rw [hw1]) (by rw [hw1]) (by rw [hw1]) hne hsz) fun v' h' l hh => ?_
     cases hh
     exact ⟨σ x, w1, e, hrun, hsim, .refl _ _ _ _ _, b', c, he, hxx⟩
    ·exact .fail
   ·exact .fail
  ·exact .fail
 ·exact .fail
include hty hs ho in
theorem sm_fieldAddr (s : Nat) (x : Operand) (f : Nat) : SM P lo hi e h w (evFieldAddr ty ρ s x f) (Instr.fieldAt s (σ x) f) := by
 unfold evFieldAddr
 split
 ·rename_i fs _ id off h1 hx
  obtain ⟨d, hk, hu⟩ := (TF.of (hty _ _ h1)).underlying
  simp only at hk
  cases d <;> first | (cases hk; done) | skip
  rename_i fields
  cases hk
  obtain ⟨b, c, he, hxx⟩ := evC_rel ho hx
  split
  ·rename_i fo sz ag hf
   split
   ·exact .fail
   ·rename_i hsz
    rw [List.getElem?_map] at hf
    cases hfi : fields.toList[f]? with
    | none => rw [hfi] at hf; cases hf
    | some fl =>
     rw [hfi] at hf
     simp only [Option.map_some, Option.some.injEq, fieldTI, Prod.mk.injEq] at hf
     obtain ⟨rfl, rfl, rfl⟩ := hf
     have hfi' : fields[f]? = some fl := by rw [← hfi]; simp
     refine SM.one (x := .pointer (some ⟨b, off + fl.offset, none⟩)) hs ⟨b, c, he, rfl⟩ ?_
     have hinfo : ∃ i, P.info? fl.type = some i ∧ i.size ≠ 0 := by
      split at hsz
      ·unfold Program.cellsOf at hsz
       cases hi : P.info? fl.type with
       | none => rw [hi] at hsz; simp at hsz
       | some i => rw [hi] at hsz; exact ⟨i, rfl, by simpa using hsz⟩
      ·simp at hsz
     obtain ⟨i, hi1, hi2⟩ := hinfo
     rw [hxx]
     simp [Instr.fieldAt, hu, hfi', Instr.sureAddr, fieldPlace, Go.sizeOf, typeInfo, hi1, hi2, addr_add]
  ·exact .fail
 ·exact .fail
theorem part_run {t off sz : Nat} {cs : List CV} {xs : List Value} {v : PV} {ag : Bool} (hxs : All2 (CV.rel e) cs xs) (hag : (Go.isAgg t).run P w = .ok ag w) (hsz : (Go.sizeOf t).run P w = .ok sz w) (hv : PV.of ag ((cs.drop off).take sz) = some v) :
  ∃ x, (part t xs.toArray off).run P w = .ok x w ∧ v.rel e x := by
 rcases pv_of hv ((hxs.drop off).take sz) with ⟨rfl, rfl⟩ | ⟨rfl, c, x, h1, h2, rfl, h3⟩
 ·refine ⟨.agg (xs.toArray.extract off (off + sz)), by simp only [part, Sem.run_bind, hag, Result.andThen_ok, if_true, hsz, Sem.run_pure], (xs.drop off).take sz, (hxs.drop off).take sz, ?_⟩
  congr 1
  apply Array.ext'
  simp
 ·refine ⟨x, ?_, h3⟩
  have h4 : sz = 1 ∨ 1 < sz := by
   rcases Nat.lt_or_ge sz 1 with h' | h'
   ·have : sz = 0 := by omega
    subst this; simp at h2
   ·omega
  have h5 : xs[off]? = some x := by
   have : ((xs.drop off).take sz)[0]? = some x := by rw [h2]; rfl
   rw [List.getElem?_take, if_pos (by omega), List.getElem?_drop] at this
   simpa using this
  simp [part, Sem.run_bind, hag, h5]
include hty hs ho in
theorem sm_field (s : Nat) (x : Operand) (f : Nat) : SM P lo hi e h w (evField ty ρ s x f) (Instr.field s (σ x) f) := by
 unfold evField
 split
 ·rename_i fs _ cs h1 hx
  obtain ⟨d, hk, hu⟩ := (TF.of (hty _ _ h1)).underlying
  simp only at hk
  cases d <;> first | (cases hk; done) | skip
  rename_i fields
  cases hk
  obtain ⟨xs, hxs, hxx⟩ := evP_rel ho hx
  split
  ·rename_i fo sz ag hf
   split
   ·exact .fail
   ·rename_i hsz
    rw [List.getElem?_map] at hf
    cases hfi : fields.toList[f]? with
    | none => rw [hfi] at hf; cases hf
    | some fl =>
     rw [hfi] at hf
     simp only [Option.map_some, Option.some.injEq, fieldTI, Prod.mk.injEq] at hf
     obtain ⟨rfl, h2, h3⟩ := hf
     have hfi' : fields[f]? = some fl := by rw [← hfi]; simp
     refine SM.pvO hs fun v hv => ?_
     split at hv
     ·rename_i l hl
      unfold cut at hl
      split at hl
      ·cases hl
       have hinfo : (Go.isAgg fl.type).run P w = .ok ag w ∧ (Go.sizeOf fl.type).run P w = .ok sz w := by
        split at h2
        ·rename_i d hd
         constructor
         ·rw [← h3]
          unfold aggK
          rw [hd]
          simp only [Go.isAgg, Sem.run_bind, run_underlying hd, Result.andThen_ok]
          cases d <;> rfl
         ·unfold Program.cellsOf at h2
          cases hi : P.info? fl.type with
          | none => rw [hi] at h2; exact absurd h2.symm hsz
          | some i => rw [hi] at h2; simp [Go.sizeOf, typeInfo, hi]; simpa using h2
        ·exact absurd h2.symm hsz
       obtain ⟨y, k1, k2⟩ := part_run (P := P) (w := w) hxs hinfo.1 hinfo.2 hv
       refine ⟨y, ?_, k2⟩
       rw [hxx]
       simp [Instr.field, hu, hfi', asAgg, k1]
      ·cases hl
     ·cases hv
  ·exact .fail
 ·exact .fail
include hty hs ho in
theorem sm_indexAddr (t : Nat) (x ix : Operand) : SM P lo hi e h w (evIndexAddr ty ρ t x ix) (Instr.indexAt t (σ x) (σ ix)) := by
 unfold evIndexAddr
 split
 ·rename_i i c n h1 hx hi'
  obtain ⟨d, hk, hu⟩ := (TF.of (hty _ _ h1)).underlying
  obtain ⟨k, hix⟩ := evI_rel ho hi'
  have hxx := evC_rel ho hx
  split
  ·rename_i e' id off len cap hki
   rw [hk] at hki
   cases d <;> first | (cases hki; done) | skip
   cases hki
   split
   ·rename_i j hj
    split
    ·rename_i hn
     obtain ⟨b, c, he, hxx⟩ := hxx
     refine SM.one (x := .pointer (some ⟨b, off + n.toNat * j.size, none⟩)) hs ⟨b, c, he, rfl⟩ ?_
     rw [hxx, hix]
     simp [Instr.indexAt, asIntOf, hu, hn.1, hn.2, (TF.of (hty _ _ hj)).sizeOf, addr_add]
    ·exact .fail
   ·exact .fail
  ·rename_i len e' id off hki
   rw [hk] at hki
   cases d <;> first | (cases hki; done) | skip
   cases hki
   split
   ·rename_i j hj
    split
    ·rename_i hn
     obtain ⟨b, c, he, hxx⟩ := hxx
     refine SM.one (x := .pointer (some ⟨b, off + n.toNat * j.size, none⟩)) hs ⟨b, c, he, rfl⟩ ?_
     rw [hxx, hix]
     simp [Instr.indexAt, asIntOf, hu, hn.1, hn.2, Instr.sureAddr, (TF.of (hty _ _ hj)).sizeOf, addr_add]
    ·exact .fail
   ·exact .fail
  ·exact .fail
 ·exact .fail
include hty hs ho in
theorem sm_index (t : Nat) (x ix : Operand) : SM P lo hi e h w (evIndex ty ρ t x ix) (Instr.index t (σ x) (σ ix)) := by
 unfold evIndex
 split
 ·rename_i i v n h1 hx hi'
  obtain ⟨d, hk, hu⟩ := (TF.of (hty _ _ h1)).underlying
  obtain ⟨k, hix⟩ := evI_rel ho hi'
  have hxx := evP_rel ho hx
  split
  ·rename_i len e' cs hki
   rw [hk] at hki
   cases d <;> first | (cases hki; done) | skip
   cases hki
   split
   ·rename_i j hj
    have hj := TF.of (hty _ _ hj)
    split
    ·rename_i hn
     obtain ⟨xs, hxs, hxx⟩ := hxx
     refine SM.pvO hs fun v hv => ?_
     split at hv
     ·rename_i l hl
      unfold cut at hl
      split at hl
      ·cases hl
       obtain ⟨y, k1, k2⟩ := part_run (P := P) (w := w) hxs (hj.isAgg w) (hj.sizeOf w) hv
       refine ⟨y, ?_, k2⟩
       rw [hxx, hix]
       simp [Instr.index, asIntOf, hu, hn.1, hn.2, hj.sizeOf, k1]
      ·cases hl
     ·cases hv
    ·exact .fail
   ·exact .fail
  ·rename_i s hki
   rw [hk] at hki
   cases d <;> first | (cases hki; done) | skip
   split
   ·rename_i hn
    refine SM.oneO hs fun v hv => ?_
    split at hv
    ·rename_i b hb
     cases hv
     rw [show σ x = _ from hxx, hix]
     refine ⟨_, ?_, rfl⟩
     have : (ByteArray.mk s.toArray)[n.toNat]? = some b := by
      obtain ⟨hlt, hb⟩ := List.getElem?_eq_some_iff.1 hb
      have hlt' : n.toNat < (ByteArray.mk s.toArray).size := by simpa [ByteArray.size] using hlt
      rw [getElem?_pos (ByteArray.mk s.toArray) n.toNat hlt']
      simp [ByteArray.getElem_eq_getElem_data, hb]
     simp [Instr.index, asIntOf, hu, hn, this]
    ·cases hv
   ·exact .fail
  ·exact .fail
 ·exact .fail
include hs ho in
theorem sm_extract (x : Operand) (ix : Nat) : SM P lo hi e h w (match ρ x with | some (.tup l) => Ev.pvO l[ix]? | _ => .fail) (Instr.extract (σ x) ix) := by
 split
 ·rename_i l hx
  obtain ⟨xs, hxs, hxx⟩ := ho _ _ hx
  refine SM.pvO hs fun v hv => ?_
  obtain ⟨y, h1, h2⟩ := hxs.get _ _ hv
  refine ⟨y, ?_, h2⟩
  rw [hxx]
  simp [Instr.extract, h1]
 ·exact .fail
theorem map_list (a : Array Operand) (σ : Operand → Value) : a.map σ = (a.toList.map σ).toArray := by
 apply Array.ext'
 simp
theorem fnCaps_rel : ∀ {l : List PV} {cs : List (Nat × Nat)} {xs : List Value}, fnCaps l = some cs → All2 (PV.rel e) l xs → All2 (prel e) cs xs
 | [], cs, [], h, _ => by cases h; trivial
 | .one (.ptr a b) :: l, cs, x :: xs, h, k => by
  simp only [fnCaps] at h
  split at h
  ·rename_i r hr; cases h; exact ⟨k.1, fnCaps_rel hr k.2⟩
  ·cases h
include hs ho in
theorem sm_makeFunc (f : Nat) (first captured : Array Operand) : SM P lo hi e h w (match first.toList, evPs ρ captured.toList with | [], some l => Ev.oneO (match fnCaps l with | some cs => some (.fn f cs) | none => none) | _, _ => .fail)
  (Instr.makeFunc (.func f) (first.map σ) (captured.map σ)) := by
 split
 ·rename_i l h1 h2
  refine SM.oneO hs fun v hv => ?_
  split at hv
  ·rename_i cs hcs
   cases hv
   have hf : first = #[] := by simpa using h1
   subst hf
   exact ⟨_, rfl, captured.toList.map σ, fnCaps_rel hcs (evPs_rel ho h2), by rw [← map_list, Array.map_empty]⟩
  ·cases hv
 ·exact .fail
include hs in
theorem sm_makeMap (t : Nat) : SM P lo hi e h w (.new lo ⟨.map, 0, .nilp, .nil, 0, 0⟩ (one (.mp lo))) (Instr.makeMap t none) := by
 refine SM.new (e1 := e.set lo (w.heap.size, 0)) (w1 := { w with heap := w.heap.push (.map #[] 0) }) (fun hid => hs.new hid rfl fun hh => by cases hh) (fun hid => Stp.fresh _ (hs.dom lo hid)) fun v' h' l hid hh => ?_
 cases hh
 exact ⟨.map (some w.heap.size), _, e.set lo (w.heap.size, 0), by simp [Instr.makeMap, newObj, Sem.run], hs.new hid rfl fun hh => (by cases hh), .refl _ _ _ _ _, w.heap.size, 0, Env.set_same .., rfl⟩
end
end Ev
end
