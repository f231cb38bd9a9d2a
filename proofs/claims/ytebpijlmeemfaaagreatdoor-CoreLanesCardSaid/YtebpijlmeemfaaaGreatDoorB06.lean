/- A part of the proof that plaittop.CoreLanes returns true. -/
import Derived.Laws.AppendOwn
import Derived.Test.YtebpijlmeemfaaaGreatDoorB05
set_option linter.all false
set_option linter.unusedSectionVars false
set_option linter.unusedSimpArgs false
set_option linter.unusedVariables false
section
namespace Ev
open Go
theorem RowOK.heap {e : Env} {id : Nat} {r : Row} {w w' : World} (h : RowOK e id r w) (k : w'.heap = w.heap) : RowOK e id r w' := by
 refine ⟨by rw [k]; exact h.ex, fun hl => ?_⟩
 obtain ⟨b, c, arr, fr, hc⟩ := h.row hl
 exact ⟨b, c, arr, fr, hc.ext (.refl _) (by rw [k])⟩
theorem Sim.heap {e : Env} {h : H} {w w' : World} (hs : Sim e h w) (k : w'.heap = w.heap) : Sim e h w' := ⟨fun i r hr => (hs.row i r hr).heap k, hs.dom, hs.inj⟩
theorem Sim.same {e : Env} {h h' : H} {w : World} (hs : Sim e h w) (k : ∀ i, h'.find i = h.find i) : Sim e h' w :=
 ⟨fun i r hr => hs.row i r (by rw [← k]; exact hr), fun i hi => hs.dom i (by rw [← k]; exact hi), fun i j ri rj b c c' h1 h2 h3 h4 => hs.inj i j ri rj b c c' (by rw [← k]; exact h1) h2 (by rw [← k]; exact h3) h4⟩
theorem Stp.congr {lo hi : Nat} {W : List Nat} {e e' : Env} {w w1 w2 : World} (h : Stp lo hi W e w e' w1) (h1 : w2.heap = w1.heap) (h2 : w2.os = w1.os) (h3 : w2.tape = w1.tape) (h4 : w2.output = w1.output) : Stp lo hi W e w e' w2 :=
 ⟨h.ext, h2.trans h.os, h3.trans h.tape, h4.trans h.output, by rw [h1]; exact h.size, fun k hk hn => by rw [h1]; exact h.block k hk hn, h.new⟩
theorem SM.newPre {P : Program} {lo hi : Nat} {e : Env} {h : H} {w w1 : World} {s : Sem Value} {id : Nat} {cells : List CV} {elem size : Nat} {v : CV} (hs : Sim e h w) (xs : List Value) (rest : Array Value) (hxs : All2 (CV.rel e) cells xs) (c : Nat) (hc : (xs.toArray ++ rest).size = c * size) (x : Value)
  (hw : w1.heap = w.heap.push (.cells (xs.toArray ++ rest) elem (0, 0))) (h2 : w1.os = w.os) (h3 : w1.tape = w.tape) (h4 : w1.output = w.output)
  (hx : ∀ e1, e1 id = some (w.heap.size, c) → v.rel e1 x) (hrun : s.run P w = .ok x w1) : SM P lo hi e h w (newR id cells elem size v) s := by
 unfold newR
 split
 ·rename_i hb
  have hb := Nat.le_of_ble_eq_true hb
  have hlen := hxs.length
  have hrow : h.find id = none → RowC (e.set id (w.heap.size, c)) id (rowOf cells elem size) { w with heap := w.heap.push (.cells (xs.toArray ++ rest) elem (0, 0)) } w.heap.size c (xs.toArray ++ rest) (0, 0) := by
   intro hid
   refine ⟨Env.set_same .., by show (w.heap.push _)[w.heap.size]? = _; simp [rowOf], hc, by show cells.length ≤ _; simp; omega, fun _ => rfl, fun i hi => ?_⟩
   have hi' : i < cells.length := hi
   obtain ⟨y, h1, h2⟩ := (hxs.mono fun _ _ => CV.rel.ext (Env.set_ext (x := (w.heap.size, c)) (hs.dom id hid))).cell (elem := elem) (size := size) hb i hi
   refine ⟨y, ?_, h2⟩
   rw [Array.getElem?_append_left (by simp; omega)]
   exact h1
  have hsim : h.find id = none → Sim (e.set id (w.heap.size, c)) (h.put id (rowOf cells elem size)) w1 := fun hid => (hs.new hid rfl fun _ => hrow hid).heap hw
  refine SM.new (e1 := e.set id (w.heap.size, c)) (w1 := w1) hsim (fun hid => (Stp.fresh (.cells (xs.toArray ++ rest) elem (0, 0)) (hs.dom id hid)).congr hw h2 h3 h4) fun v' h' l hid hh => ?_
  cases hh
  exact ⟨x, w1, e.set id (w.heap.size, c), hrun, hsim hid, .refl _ _ _ _ _, hx _ (Env.set_same ..)⟩
 ·exact .fail
theorem RowC.same {e : Env} {id : Nat} {r r' : Row} {w : World} {b c : Nat} {arr : Array Value} {fr : Nat × Nat} (h : RowC e id r w b c arr fr) (h1 : r'.elem = r.elem) (h2 : r'.size = r.size) (h3 : r'.n = r.n) (h4 : r'.kind = .live → r.kind = .live) (h5 : ∀ i, i < r.n → r'.at i = r.at i) : RowC e id r' w b c arr fr :=
 ⟨h.he, by rw [h1]; exact h.hb, by rw [h2]; exact h.sz, by rw [h3]; exact h.le, fun k => h.fz (h4 k), fun i hi => by rw [h3] at hi; rw [h5 i hi]; exact h.cell i hi⟩
theorem more_at {r : Row} {m : Nat} {old news : List CV} {elem size : Nat} (hc : r.cut 0 m = some old) (hb : m + news.length ≤ 1000000) : (old ++ news).length = m + news.length ∧ ∀ i, i < (old ++ news).length → (more r m news elem size).at i = (rowOf (old ++ news) elem size).at i := by
 obtain ⟨h1, rfl⟩ := cut_some hc
 have hl : (r.cells m 0).length = m := by
  have := cells_get r m 0
  have h2 : ∀ j, j < m ↔ j < (r.cells m 0).length := fun j => by
   have := this j
   by_cases hj : j < m
   ·rw [if_pos hj] at this; exact ⟨fun _ => (List.getElem?_eq_some_iff.1 this).1, fun _ => hj⟩
   ·rw [if_neg hj] at this; exact ⟨fun h => absurd h hj, fun h => by rw [List.getElem?_eq_getElem h] at this; cases this⟩
  have h3 := h2 m
  have h4 := h2 (r.cells m 0).length
  omega
 have hL : (r.cells m 0 ++ news).length = m + news.length := by rw [List.length_append, hl]
 refine ⟨hL, fun i hi => ?_⟩
 have e1 := rowOf_at (r.cells m 0 ++ news) elem size (by omega) i hi
 have e2 : (more r m news elem size).at i = (Tr.get (setAll news r.tr m) i).getD r.d := Row.at_eq _ _
 rw [at_set r news 0 i m r.tr (by omega)] at e2
 by_cases hm : i < m
 ·rw [if_neg (by omega)] at e2
  rw [List.getElem?_append_left (by omega), cells_get, if_pos hm, Nat.zero_add] at e1
  rw [e2, ← Option.some.inj e1, Row.at_eq]
 ·rw [if_pos (by omega)] at e2
  rw [List.getElem?_append_right (by omega), hl] at e1
  rw [e2, e1]
  rfl
theorem Sim.same_row {e : Env} {h0 : H} {lo : Nat} {r r' : Row} {w : World} (hs : Sim e (h0.put lo r) w) (h1 : r'.elem = r.elem) (h2 : r'.size = r.size) (h3 : r'.n = r.n) (h4 : r'.kind = r.kind) (h5 : ∀ i, i < r.n → r'.at i = r.at i) : Sim e (h0.put lo r') w := by
 have key : ∀ i ri, (h0.put lo r').find i = some ri → ∃ ri0, (h0.put lo r).find i = some ri0 ∧ ri0.kind = ri.kind ∧ (RowOK e i ri0 w → RowOK e i ri w) := by
  intro i ri hi
  rw [find_put] at hi ⊢
  by_cases hil : i = lo
  ·rw [if_pos hil] at hi ⊢
   cases hi
   refine ⟨r, rfl, h4.symm, fun hr => ⟨hr.ex, fun hk => ?_⟩⟩
   rw [h4] at hk
   obtain ⟨b, c, arr, fr, hc⟩ := hr.row hk
   exact ⟨b, c, arr, fr, hc.same h1 h2 h3 (fun q => by rw [← h4]; exact q) h5⟩
  ·rw [if_neg hil] at hi ⊢
   exact ⟨ri, hi, rfl, fun q => q⟩
 refine ⟨fun i ri hi => ?_, fun i hi => hs.dom i ?_, fun i j ri rj b c c' hi hl hj hl' k1 k2 => ?_⟩
 ·obtain ⟨r0, q1, _, q3⟩ := key i ri hi
  exact q3 (hs.row i r0 q1)
 ·rw [find_put] at hi ⊢
  by_cases hil : i = lo
  ·rw [if_pos hil] at hi; cases hi
  ·rw [if_neg hil] at hi ⊢; exact hi
 ·obtain ⟨r0, q1, q2, _⟩ := key i ri hi
  obtain ⟨r1, p1, p2, _⟩ := key j rj hj
  exact hs.inj i j r0 r1 b c c' q1 (by rw [q2]; exact hl) p1 (by rw [p2]; exact hl') k1 k2
theorem sm_more {P : Program} {lo hi : Nat} {e : Env} {h : H} {w : World} {s : Sem Value} {id l0 : Nat} {r rd : Row} {m : Nat} {old news : List CV} {elem size : Nat} {v : CV} (hc : r.cut 0 m = some old)
  (H : SM P lo hi e h w (live r (.put id rd (newR l0 (old ++ news) elem size v))) s) : SM P lo hi e h w (live r (.put id rd (newMore l0 r m news elem size v))) s := by
 intro x h' l hh
 unfold live at hh H
 split at hh
 ·rename_i hk
  simp only [M.run] at hh
  split at hh
  ·rename_i ri hri
   split at hh
   ·rename_i a h1 l1 e1
    cases hh
    unfold newMore at e1
    split at e1
    ·rename_i hb
     have hb := Nat.le_of_ble_eq_true hb
     obtain ⟨q1, q2⟩ := more_at (elem := elem) (size := size) hc hb
     simp only [M.run, one] at e1
     split at e1
     ·cases e1
     ·rename_i hlo
      cases e1
      have hrun : (live r (M.put id rd (newR l0 (old ++ news) elem size v))).run h = .ok (.p (.one v)) ((h.put id rd).put l0 (rowOf (old ++ news) elem size)) ⟨[], [id, l0]⟩ := by
       unfold live
       rw [hk]
       simp only [M.run, hri]
       unfold newR
       rw [show Nat.ble (old ++ news).length 1000000 = true from Nat.ble_eq_true_of_le (by omega)]
       simp only [M.run, one, hlo]
      unfold live at hrun
      obtain ⟨y, w', e', k1, k2, k3, k4⟩ := H _ _ _ hrun
      exact ⟨y, w', e', k1, k2.same_row rfl rfl q1.symm rfl q2, k3, k4⟩
    ·cases e1
   ·cases hh
  ·cases hh
 ·cases hh
theorem Sim.move {e : Env} {h : H} {w w1 : World} (hs : Sim e h w) {id lo : Nat} {r r' rd : Row} (hr : h.find id = some r) (hk : r.kind.read = true) {b c : Nat} (he : e id = some (b, c)) (hlo : h.find lo = none) (hrd : rd.kind.read = false)
  (hne : ∀ k, k ≠ b → w1.heap[k]? = w.heap[k]?) (hsz : w.heap.size ≤ w1.heap.size) {arr : Array Value} {fr : Nat × Nat} (hr' : RowC (e.set lo (b, c)) lo r' w1 b c arr fr) : Sim (e.set lo (b, c)) ((h.put id rd).put lo r') w1 := by
 have hx := Env.set_ext (x := (b, c)) (hs.dom lo hlo)
 have hne' : lo ≠ id := fun hh => by rw [hh, hr] at hlo; cases hlo
 refine ⟨fun i ri hi => ?_, fun i hi => ?_, fun i j ri rj b' c1 c2 hi hl hj hl' h1 h2 => ?_⟩
 ·rw [find_put] at hi
  by_cases hil : i = lo
  ·rw [if_pos hil] at hi
   cases hi
   subst hil
   exact ⟨⟨b, c, Env.set_same .., blk_lt hr'.hb⟩, fun _ => ⟨_, _, _, _, hr'⟩⟩
  ·rw [if_neg hil, find_put] at hi
   by_cases hii : i = id
   ·rw [if_pos hii] at hi
    cases hi
    subst hii
    exact ⟨⟨b, c, hx _ _ he, blk_lt hr'.hb⟩, fun hh => by rw [hrd] at hh; cases hh⟩
   ·rw [if_neg hii] at hi
    have := hs.row i ri hi
    obtain ⟨b2, c2, h3, h4⟩ := this.ex
    refine ⟨⟨b2, c2, hx _ _ h3, by omega⟩, fun hl => ?_⟩
    obtain ⟨b3, c3, arr, fr, hc⟩ := this.row hl
    exact ⟨b3, c3, arr, fr, hc.ext hx (hne _ fun hb => hii (by subst hb; exact hs.inj i id ri r b3 c3 c hi hl hr hk hc.he he))⟩
 ·rw [find_put] at hi
  by_cases hil : i = lo
  ·rw [if_pos hil] at hi; cases hi
  ·rw [if_neg hil, find_put] at hi
   by_cases hii : i = id
   ·rw [if_pos hii] at hi; cases hi
   ·rw [if_neg hii] at hi
    unfold Env.set
    rw [if_neg hil]
    exact hs.dom i hi
 ·
  have key : ∀ i ri c1, ((h.put id rd).put lo r').find i = some ri → ri.kind.read = true → (e.set lo (b, c)) i = some (b', c1) → (i = lo ∧ b' = b) ∨ (i ≠ lo ∧ i ≠ id ∧ (∃ ri, h.find i = some ri ∧ ri.kind.read = true) ∧ e i = some (b', c1)) := by
   intro i ri c1 hi hl h1
   rw [find_put] at hi
   by_cases hil : i = lo
   ·subst hil
    rw [Env.set_same] at h1
    cases h1
    exact .inl ⟨rfl, rfl⟩
   ·rw [if_neg hil, find_put] at hi
    by_cases hii : i = id
    ·rw [if_pos hii] at hi
     cases hi
     rw [hrd] at hl; cases hl
    ·rw [if_neg hii] at hi
     unfold Env.set at h1
     rw [if_neg hil] at h1
     exact .inr ⟨hil, hii, ⟨ri, hi, hl⟩, h1⟩
  rcases key i ri c1 hi hl h1 with ⟨a1, a2⟩ | ⟨a1, a2, ⟨ri', a3, a3'⟩, a4⟩
  ·rcases key j rj c2 hj hl' h2 with ⟨k1, k2⟩ | ⟨k1, k2, ⟨rj', k3, k3'⟩, k4⟩
   ·rw [a1, k1]
   ·exact absurd (hs.inj j id rj' r b c2 c k3 k3' hr hk (by rw [← a2]; exact k4) he) k2
  ·rcases key j rj c2 hj hl' h2 with ⟨k1, k2⟩ | ⟨k1, k2, ⟨rj', k3, k3'⟩, k4⟩
   ·exact absurd (hs.inj i id ri' r b c1 c a3 a3' hr hk (by rw [← k2]; exact a4) he) a2
   ·exact hs.inj i j ri' rj' b' c1 c2 a3 a3' k3 k3' a4 k4
section
variable {P : Program} {ty : Nat → Option TI} (hty : ∀ t i, ty t = some i → tiOf P t = some i) {e : Env} {h : H} {w : World} {lo hi : Nat}
theorem sm_append (hs : Sim e h w) {t tx u el : Nat} {te : TI} {d : TypeDesc} (hu : P.underlying t = some (.slice el)) (hj : TF P el te) (hx : P.underlying tx = some d) {Y : Value} {n : Nat} {news : List Value} {cs : List CV}
  (hk : AppSrc P w el te d Y n news) (hnews : All2 (CV.rel e) cs news) (hlen : news.length = n * te.size) (hbt : te.bytes ≤ 100000000) {s : CV} {S : Value} (hS : s.rel e S) :
  SM P lo hi e h w (evAppend lo el te.size s n cs) (Builtin.append_ #[t, tx] u #[S, Y]) := by
 have hcl := hnews.length
 have grow : ∀ (base : Option Addr) (sLen sCap : Nat) (olds : List Value) (oldA : List CV), sCap < sLen + n → sLen + n ≤ 1000000 → (∀ W : World, W.heap = w.heap → (Builtin.firstCells te.size sLen (.slice base sLen sCap)).run P W = .ok olds.toArray W) →
   All2 (CV.rel e) oldA olds → olds.length = sLen * te.size → S = .slice base sLen sCap → ∀ (h0 : H), Sim e h0 w → SM P lo hi e h0 w (newR lo (oldA ++ cs) el te.size (.sl lo 0 (sLen + n) (.minus 0))) (Builtin.append_ #[t, tx] u #[S, Y]) := by
  intro base sLen sCap olds oldA hg hle ho hoA hol hSe h0 hs0
  obtain ⟨z, hz, hrun⟩ := app_grow (P := P) (w := w) (u := u) hu hj hx hk base sLen sCap hg hle hbt ho
  have hge := grownCap_ge w (sLen + n) sCap el
  subst hSe
  refine SM.newPre (v := .sl lo 0 (sLen + n) (.minus 0)) (w1 := w.drew.alloc (.cells (olds.toArray ++ news.toArray ++ Builtin.zeroCells z.cells (grownCap w (sLen + n) sCap el - (sLen + n))) el)) hs0 (olds ++ news) (Builtin.zeroCells z.cells (grownCap w (sLen + n) sCap el - (sLen + n))) (hoA.app hnews) (grownCap w (sLen + n) sCap el) ?_ (.slice (some ⟨w.heap.size, 0, none⟩) (sLen + n) (grownCap w (sLen + n) sCap el)) ?_ rfl rfl rfl (fun e1 h1 => ⟨_, _, h1, rfl⟩) hrun
  ·rw [Array.size_append, List.size_toArray, List.length_append, hol, hlen, size_zeroCells, hz, ← Nat.add_mul, ← Nat.add_mul]
   congr 1
   omega
  ·show (w.drew.alloc _).heap = _
   have : (olds ++ news).toArray = olds.toArray ++ news.toArray := by simp
   rw [this]
   rfl
 unfold evAppend
 split
 ·cases hS
  split
  ·rename_i hn0
   subst hn0
   refine SM.one (v := .snil) hs rfl ?_
   rw [app_room (u := u) hu hj hx hk none 0 0 (by omega)]
  ·split
   ·rename_i hn0 hn1
    have := grow none 0 0 [] [] (by omega) (by omega) (fun W _ => by simp [Builtin.firstCells]) trivial (by simp) rfl h hs
    simpa using this
   ·exact .fail
 ·rename_i id off len cap
  obtain ⟨b, c, he, rfl⟩ := hS
  refine SM.rd hs fun r b' c' arr fr hr hrd hrc => ?_
  have hbb : b' = b ∧ c' = c := by have := hrc.he; rw [he] at this; cases this; exact ⟨rfl, rfl⟩
  obtain ⟨rfl, rfl⟩ := hbb
  split
  ·exact .fail
  ·rename_i hmax
   have inp : ∀ C : Nat, cap.val c' = C → len + n ≤ C → SM P lo hi e h w (appOwn el te.size id off len n cap r cs) (Builtin.append_ #[t, tx] u #[.slice (some ⟨b', off, none⟩) len (cap.val c'), Y]) := by
    intro C hC hroom
    unfold appOwn
    refine SM.live fun hlive => ?_
    split
    ·rename_i r' hl
     refine SM.lay hs hr hlive hrc hnews hl (v := .p (.one (.sl id off (len + n) cap))) (x := .slice (some ⟨b', off, none⟩) (len + n) (cap.val c')) ⟨_, _, he, rfl⟩ fun hst => ?_
     rw [app_room (u := u) hu hj hx hk (some ⟨b', off, none⟩) len (cap.val c') (by omega)]
     show ((storeCells ((⟨b', off, none⟩ : Addr).add (len * te.size)) news).run P w).andThen _ = _
     rw [addr_add, hst]
     rfl
    ·exact .fail
   have olds : ∀ off' xs, r.cut off' (len * te.size) = some xs → off' = off → ∃ os : List Value, All2 (CV.rel e) xs os ∧ os.length = len * te.size ∧ ∀ C, ∀ W : World, W.heap = w.heap → (Builtin.firstCells te.size len (.slice (some ⟨b', off, none⟩) len C)).run P W = .ok os.toArray W := by
    intro off' xs hcut hoff
    subst hoff
    obtain ⟨h1, rfl⟩ := cut_some hcut
    obtain ⟨os, k1, k2, k3⟩ := hrc.cells _ _ h1
    refine ⟨os, k1, k2, fun C W hW => run_firstCells_some (P := P) W te.size len ⟨b', off', none⟩ len C os k2 fun j v hj => ?_⟩
    rw [addr_add]
    simpa [World.cell?, hW] using (k3 j v hj).1
   split
   ·rename_i c0
    split
    ·rename_i hroom
     exact inp c0 rfl hroom
    ·split
     ·rename_i old hcut
      obtain ⟨os, k1, k2, k3⟩ := olds _ _ hcut rfl
      exact grow (some ⟨b', off, none⟩) len c0 os old (by omega) (by omega) (k3 c0) k1 k2 rfl h hs
     ·exact .fail
   ·rename_i k
    split
    ·rename_i hok
     obtain ⟨ho1, ho2, ho3⟩ := hok
     have hsz := hrc.sz
     have hle := hrc.le
     split
     ·rename_i hfit
      refine inp (c' - k) rfl ?_
      have : (k + (len + n)) * te.size ≤ c' * te.size := by rw [Nat.add_mul, ← ho1]; rw [ho3] at hsz; omega
      have := Nat.le_of_mul_le_mul_right this ho2
      omega
     ·split
      ·rename_i hk0
       obtain ⟨hk0, hel⟩ := hk0
       subst hk0
       have hoff : off = 0 := by rw [ho1]; simp
       split
       ·rename_i old hcut
        refine sm_more hcut ?_
        obtain ⟨os, k1, k2, k3⟩ := olds _ _ hcut hoff.symm
        refine SM.live fun hlive => ?_
        have hdead : Sim e (h.put id { r with kind := .dead }) w := hs.turn hr hrd he (fun _ _ => rfl) (Nat.le_refl _) fun hh => by cases hh
        by_cases hroom : len + n ≤ c'
        ·
         intro v h' l hh
         simp only [M.run, hr] at hh
         unfold newR at hh
         split at hh
         ·rename_i v2 h2 l2 e2
          split at e2
          ·rename_i hble
           have hble := Nat.le_of_ble_eq_true hble
           simp only [M.run, one] at e2
           split at e2
           ·cases e2
           ·rename_i hlo
            cases e2
            cases hh
            have hlo' : h.find lo = none := by
             rw [find_put] at hlo
             split at hlo
             ·cases hlo
             ·exact hlo
            subst hoff
            have hfit2 : 0 + len * te.size + news.length ≤ arr.size := by
             rw [hlen, hsz, ho3, Nat.zero_add, ← Nat.add_mul]
             exact Nat.mul_le_mul_right _ hroom
            have hst := run_storeCells_at (P := P) b' (0 + len * te.size) r.elem news 0 arr w (by rw [← hrc.fz hlive]; exact hrc.hb) (by omega) hnews.oneCell
            rw [Nat.add_zero] at hst
            obtain ⟨hcut1, hcut2⟩ := cut_some hcut
            have hpre : arr.toList.take (0 + len * te.size) = os := by
             obtain ⟨os2, q1, q2, q3⟩ := hrc.cells (len * te.size) 0 hcut1
             have hos := k3 0 w rfl
             have hos2 := run_firstCells_some (P := P) w te.size len ⟨b', 0, none⟩ len 0 os2 q2 (fun j v hj => by rw [addr_add]; exact (q3 j v hj).1)
             rw [hos] at hos2
             cases hos2
             apply List.ext_getElem?
             intro j
             rw [List.getElem?_take]
             by_cases hj : j < 0 + len * te.size
             ·rw [if_pos hj]
              have hj' : j < os.length := by omega
              have := (q3 j os[j] (List.getElem?_eq_getElem hj')).2
              rw [Nat.zero_add, ← Array.getElem?_toList] at this
              rw [this, List.getElem?_eq_getElem hj']
             ·rw [if_neg hj, List.getElem?_eq_none (by omega)]
            have hw1 : ∀ X, (w.setRow b' X).heap.size = w.heap.size := by intro X; simp [World.setRow]
            have hrow : RowC (e.set lo (b', c')) lo (rowOf (old ++ cs) el te.size) (w.setRow b' (arr.toList.take (0 + len * te.size) ++ news ++ arr.toList.drop (0 + len * te.size + news.length)).toArray) b' c' (arr.toList.take (0 + len * te.size) ++ news ++ arr.toList.drop (0 + len * te.size + news.length)).toArray fr := by
             have hall := (k1.app hnews).mono fun _ _ => CV.rel.ext (Env.set_ext (x := (b', c')) (hs.dom lo hlo'))
             have hallen := hall.length
             refine ⟨Env.set_same .., ?_, ?_, ?_, fun _ => hrc.fz hlive, fun i hi => ?_⟩
             ·rw [← hel]; exact setRow_heap w b' arr _ r.elem fr hrc.hb
             ·simp only [List.size_toArray, List.length_append, List.length_take, List.length_drop, Array.length_toList]
              show _ = c' * te.size
              have : arr.size = c' * te.size := by rw [hsz, ho3]
              omega
             ·show (old ++ cs).length ≤ _
              rw [hallen, List.length_append, k2]
              simp only [List.size_toArray, List.length_append, List.length_take, List.length_drop, Array.length_toList]
              omega
             ·obtain ⟨y, h1, h2⟩ := hall.cell (elem := el) (size := te.size) hble i hi
              refine ⟨y, ?_, h2⟩
              have hi' : i < (old ++ cs).length := hi
              rw [List.getElem?_toArray, hpre, List.getElem?_append_left (by rw [← hallen]; exact hi')]
              simpa using h1
            refine ⟨.slice (some ⟨b', 0, none⟩) (len + n) c', _, e.set lo (b', c'), ?_, hs.move hr hrd he hlo' rfl (fun k hk => setRow_ne _ _ _ _ hk) (by rw [hw1]; exact Nat.le_refl _) hrow, ?_, b', c', Env.set_same .., rfl⟩
            ·show (Builtin.append_ #[t, tx] u #[.slice (some ⟨b', 0, none⟩) len c', Y]).run P w = _
             rw [app_room (u := u) hu hj hx hk (some ⟨b', 0, none⟩) len c' hroom]
             show ((storeCells ((⟨b', 0, none⟩ : Addr).add (len * te.size)) news).run P w).andThen _ = _
             rw [addr_add, hst]
             rfl
            ·refine ⟨Env.set_ext (hs.dom lo hlo'), rfl, rfl, rfl, by rw [hw1]; exact Nat.le_refl _, fun k hk hn => setRow_ne _ _ _ _ fun hb => hn id (.inl (List.mem_cons_self ..)) c' (by rw [hb]; exact he), fun i b2 c2 h1 h2 => ?_⟩
             unfold Env.set at h2
             by_cases hil : i = lo
             ·rw [if_pos hil] at h2
              cases h2
              exact .inr ⟨id, .inl (List.mem_cons_self ..), c', he⟩
             ·rw [if_neg hil, h1] at h2; cases h2
          ·cases e2
         ·cases hh
        ·
         refine SM.put hdead (.refl _ _ _ _ _) fun v h' l hh => ?_
         have := grow (some ⟨b', off, none⟩) len (c' - 0) os old (by omega) (by omega) (k3 _) k1 k2 rfl _ hdead
         exact this v h' l hh
       ·exact .fail
      ·exact .fail
    ·exact .fail
 ·exact .fail
end
end Ev
end
section
namespace Ev
open Go
section
variable {P : Program} {ty : Nat → Option TI} (hty : ∀ t i, ty t = some i → tiOf P t = some i) {e : Env} {h : H} {w : World} {lo hi : Nat}
include hty
theorem sm_copy (hs : Sim e h w) {dt st u : Nat} {a y : CV} {A Y : Value} (ha : a.rel e A) (hy : y.rel e Y) :
  SM P lo hi e h w (evCopy ty dt a y) (Builtin.copy_ #[dt, st] u #[A, Y]) := by
 unfold evCopy
 split
 ·rename_i el te h1
  obtain ⟨hu, hj⟩ := elemTI_some hty h1
  refine sm_elems (P := P) hs hy fun n cs xs hcs hlen hl hf => ?_
  split
  ·rename_i id off len cap
   obtain ⟨b, c, he, rfl⟩ := ha
   refine SM.get fun r hr => SM.live fun hk => ?_
   obtain ⟨b', c', arr, fr, hc⟩ := (hs.row id r hr).row (by rw [hk]; rfl)
   have : b' = b := by have := hc.he; rw [he] at this; cases this; rfl
   subst this
   split
   ·rename_i r' hlay
    have hfc := hf w rfl (min n len) (Nat.min_le_left ..)
    refine SM.lay hs hr hk hc (hcs.take (min n len * te.size)) hlay (v := .p (.one (.int .i64 (min n len : Nat)))) (x := .int .i64 ((min n len : Nat) : Int)) rfl fun hst => ?_
    have hmin : Nat.min n len = min n len := rfl
    simp only [Builtin.copy_, Sem.run_bind, run_underlying hu, Result.andThen_ok, List.getElem?_toArray, List.getElem?_cons_zero, List.getElem?_cons_succ, hl, hj.sizeOf, hmin, hfc, hst, Sem.run_pure, goInt]
   ·exact .fail
  ·cases ha
   refine SM.one (x := .int .i64 0) hs rfl ?_
   have hfc := hf w rfl 0 (Nat.zero_le _)
   have hmin : Nat.min n 0 = 0 := Nat.min_zero n
   simp only [Builtin.copy_, Sem.run_bind, run_underlying hu, Result.andThen_ok, List.getElem?_toArray, List.getElem?_cons_zero, List.getElem?_cons_succ, hl, hj.sizeOf, hmin, hfc, Sem.run_pure, goInt]
   rfl
  ·exact .fail
 ·exact .fail
theorem sm_appB (hs : Sim e h w) {t tx u : Nat} {a y : CV} {A Y : Value} (hA : a.rel e A) (hY : y.rel e Y) : SM P lo hi e h w (evAppB ty lo t tx a y) (Builtin.append_ #[t, tx] u #[A, Y]) := by
 unfold evAppB
 split
 ·rename_i el te tix h1 h2
  obtain ⟨hu, hj⟩ := elemTI_some hty h1
  obtain ⟨d, hd, hk⟩ := (TF.of (hty _ _ h2)).und
  split
  ·rename_i hbt
   have hbt := Nat.le_of_ble_eq_true hbt
   split
   ·rename_i k k' n hki
    split
    ·rename_i hn
     obtain ⟨z, hz, hz2⟩ : ∃ z, (∀ W, (zeroValue el).run P W = .ok z W) ∧ ∀ e, All2 (CV.rel e) te.zero z.cells.toList := by
      obtain ⟨i2, z2, q1, q2, q3, q4, q5⟩ := hj.ex
      exact ⟨z2, fun W => by simp [Go.zeroValue, Go.typeInfo, q1, q2], fun e => cvsOf_rel q5⟩
     have hzs : z.cells.size = te.size := by have := (hz2 e).length; rw [hj.len] at this; simpa using this.symm
     have hzr := zeros_rel (e := e) (hz2 e) n.toNat
     have hYv : Y = .int k' ((n.toNat : Nat) : Int) := by rw [show Y = _ from hY]; congr 1; omega
     rw [hki] at hk
     cases d <;> first | (cases hk; done) | skip
     refine sm_append (news := (Builtin.zeroCells z.cells n.toNat).toList) hs hu hj hd (.inr ⟨⟨_, rfl⟩, ⟨_, hYv⟩, by omega, hbt, z, hz, hzs, by simp⟩) hzr ?_ hbt hA
     simp [Builtin.zeroCells, hzs]
    ·exact .fail
   ·exact .fail
   ·rename_i hni1 hni2
    refine sm_elems (P := P) hs hY fun n cs xs hcs hlen hl hf => ?_
    refine sm_append (news := xs) hs hu hj hd (.inl ⟨fun k hk' => ?_, hl, fun W hW => ?_⟩) hcs hlen hbt hA
    ·subst hk'
     exact (by assumption : ∀ k, tix.kind = .int k → False) k hk
    ·have := hf W hW n (Nat.le_refl _)
     rwa [List.take_of_length_le (by omega)] at this
  ·exact .fail
 ·exact .fail
theorem sm_builtin (hs : Sim e h w) {b : Builtin} {ts : Array Nat} {u : Nat} {consts : Array Bool} {args : List PV} {xs : List Value} (hx : All2 (PV.rel e) args xs) :
  ∀ v h' l, (evBuiltin ty lo b ts.toList args).run h = .ok v h' l → ∃ x w' e', (builtin b ts u consts xs.toArray).run P w = .ok (.value x) w' ∧ Sim e' h' w' ∧ Stp lo hi l.w e w e' w' ∧ v.rel e' x := by
 have key : ∀ {m : M AV} {s : Sem Value}, SM P lo hi e h w m s → ∀ v h' l, m.run h = .ok v h' l → ∃ x w' e', (do pure (Next.value (← s)) : Sem Next).run P w = .ok (.value x) w' ∧ Sim e' h' w' ∧ Stp lo hi l.w e w e' w' ∧ v.rel e' x := by
  intro m s hm v h' l hh
  obtain ⟨x, w', e', k1, k2, k3, k4⟩ := hm v h' l hh
  exact ⟨x, w', e', by simp only [Sem.run_bind, k1, Result.andThen_ok, Sem.run_pure], k2, k3, k4⟩
 intro v h' l hh
 unfold evBuiltin at hh
 split at hh
 ·rename_i t x hts
  match xs, hx with
  | [X], hx =>
   have : ts = #[t] := by apply Array.ext'; exact hts
   subst this
   exact key (sm_len hty hs hx.1) v h' l hh
 ·rename_i t x hts
  match xs, hx with
  | [X], hx =>
   have : ts = #[t] := by apply Array.ext'; exact hts
   subst this
   exact key (sm_cap hty hs hx.1) v h' l hh
 ·rename_i t tx a y hts
  match xs, hx with
  | [A, Y], hx =>
   have : ts = #[t, tx] := by apply Array.ext'; exact hts
   subst this
   exact key (sm_appB hty hs hx.1 hx.2.1) v h' l hh
 ·rename_i t tx a y hts
  match xs, hx with
  | [A, Y], hx =>
   have : ts = #[t, tx] := by apply Array.ext'; exact hts
   subst this
   exact key (sm_copy (st := tx) (u := u) hty hs hx.1 hx.2.1) v h' l hh
 ·rename_i k x k' y
  match xs, hx with
  | [A, Y], hx =>
   rw [show A = _ from hx.1, show Y = _ from hx.2.1]
   exact key (sm_max (u := u) (k' := k') (ts := ts) hs) v h' l hh
 ·rename_i k x k' y
  match xs, hx with
  | [A, Y], hx =>
   rw [show A = _ from hx.1, show Y = _ from hx.2.1]
   exact key (sm_min (u := u) (k' := k') (ts := ts) hs) v h' l hh
 ·cases hh
end
end Ev
end
section
namespace Ev
open Go
section
variable {P : Program} {ty : Nat → Option TI} (hty : ∀ t i, ty t = some i → tiOf P t = some i) {e : Env} {h : H} {w : World} {lo hi : Nat}
 {ρ : Operand → Option AV} {σ : Operand → Value}
def OpDoes (P : Program) (lo hi : Nat) (e : Env) (w : World) (o : Oper) (σ : Operand → Value) (v : AV) (h' : H) (l : Log) : Prop :=
 ∃ x w' e', ((execOp σ o).run P w = .ok (.value x) w' ∨ ((execOp σ o).run P w = .ok .skip w' ∧ x = undef)) ∧ Sim e' h' w' ∧ Stp lo hi l.w e w e' w' ∧ v.rel e' x
theorem OpDoes.of {m : M AV} {s : Sem Value} {o : Oper} {v : AV} {h' : H} {l : Log} (hm : SM P lo hi e h w m s) (hh : m.run h = .ok v h' l) (he : execOp σ o = do pure (Next.value (← s))) : OpDoes P lo hi e w o σ v h' l := by
 obtain ⟨x, w', e', k1, k2, k3, k4⟩ := hm v h' l hh
 exact ⟨x, w', e', .inl (by rw [he]; simp only [Sem.run_bind, k1, Result.andThen_ok, Sem.run_pure]), k2, k3, k4⟩
include hty
theorem op_does (hs : Sim e h w) (ho : ORel e ρ σ) (o : Oper) {v : AV} {h' : H} {l : Log} (hh : (opM ty ρ lo o.op).run h = .ok v h' l) : OpDoes P lo hi e w o σ v h' l := by
 obtain ⟨dst, op, tp, pos, aft, gd⟩ := o
 simp only at hh
 cases op with
 | move x =>
  simp only [opM] at hh
  split at hh
  ·rename_i v0 hx
   exact OpDoes.of (s := pure (σ x)) (SM.pure hs (ho _ _ hx) rfl) hh rfl
  ·cases hh
 | assign x =>
  simp only [opM] at hh
  split at hh
  ·rename_i v0 hx
   exact OpDoes.of (s := pure (σ x)) (SM.pure hs (ho _ _ hx) rfl) hh rfl
  ·cases hh
 | pick c a b =>
  simp only [opM] at hh
  split at hh
  ·rename_i hc
   have hc := evC_rel ho hc
   split at hh
   ·rename_i v0 v1 ha hb
    refine OpDoes.of (s := do pure (if ← asBool (σ c) then σ a else σ b)) (SM.pure hs (ho _ _ ha) ?_) hh ?_
    ·rw [show σ c = _ from hc]; simp [asBool]
    ·simp [execOp]
   ·cases hh
  ·rename_i hc
   have hc := evC_rel ho hc
   split at hh
   ·rename_i v0 v1 ha hb
    refine OpDoes.of (s := do pure (if ← asBool (σ c) then σ a else σ b)) (SM.pure hs (ho _ _ hb) ?_) hh ?_
    ·rw [show σ c = _ from hc]; simp [asBool]
    ·simp [execOp]
   ·cases hh
  ·cases hh
 | alloc t => exact OpDoes.of (sm_alloc hty hs t) hh rfl
 | box t x => exact OpDoes.of (sm_box hs ho t x) hh rfl
 | build t ps => exact OpDoes.of (sm_build hty hs ho t ps) hh rfl
 | buildSlice t n ps => exact OpDoes.of (sm_buildSlice hty hs ho t n ps) hh rfl
 | load t a => exact OpDoes.of (sm_load hty hs ho t a) hh rfl
 | store t a x =>
  obtain ⟨y, w', e', k1, k2, k3, k4⟩ := sm_store (lo := lo) (hi := hi) hty hs ho t a x v h' l hh
  refine ⟨y, w', e', .inr ?_, k2, k3, k4⟩
  simp only [Sem.run_bind] at k1
  cases hr : (Instr.storeAt t (σ a) (σ x)).run P w with
  | ok u w2 =>
   rw [hr] at k1
   simp only [Result.andThen_ok, Sem.run_pure] at k1
   cases k1
   exact ⟨by simp [execOp, hr], rfl⟩
  | halt u w2 => rw [hr] at k1; cases k1
 | nilCheck x =>
  simp only [opM] at hh
  split at hh
  ·rename_i id off hx
   obtain ⟨b, c, he, hxx⟩ := evC_rel ho hx
   exact OpDoes.of (s := pure (.pointer (some ⟨b, off, none⟩))) (SM.one (v := .ptr id off) hs ⟨b, c, he, rfl⟩ rfl) hh (by simp [execOp, hxx])
  ·rename_i f cs hx
   obtain ⟨xs, h1, hxx⟩ := evC_rel ho hx
   exact OpDoes.of (s := pure (.func (.func f) #[] xs.toArray)) (SM.one (v := .fn f cs) hs ⟨xs, h1, rfl⟩ rfl) hh (by simp [execOp, hxx])
  ·cases hh
 | binOp op t x y u => exact OpDoes.of (sm_bin hs ho hty op t x y u) hh rfl
 | unOp op t x => exact OpDoes.of (sm_un hs ho op x) hh rfl
 | convert s d x => exact OpDoes.of (sm_convert hty hs ho s d x) hh rfl
 | makeFunc f first captured =>
  cases f with
  | func f => exact OpDoes.of (sm_makeFunc hs ho f first captured) hh rfl
  | _ => cases hh
 | makeMap t r =>
  cases r with
  | none => exact OpDoes.of (sm_makeMap hs t) hh rfl
  | some r => cases hh
 | makeSlice t l c => exact OpDoes.of (sm_makeSlice hty hs ho t l c) hh rfl
 | slice t x l hh' m => exact OpDoes.of (sm_slice hty hs ho t x l hh' m) hh rfl
 | fieldAddr s x f => exact OpDoes.of (sm_fieldAddr hty hs ho s x f) hh rfl
 | field s x f => exact OpDoes.of (sm_field hty hs ho s x f) hh rfl
 | indexAddr t x i => exact OpDoes.of (sm_indexAddr hty hs ho t x i) hh rfl
 | index t x i => exact OpDoes.of (sm_index hty hs ho t x i) hh rfl
 | extract x i => exact OpDoes.of (sm_extract hs ho x i) hh rfl
 | call c =>
  obtain ⟨callee, args, ts⟩ := c
  cases callee with
  | builtin b =>
   simp only [opM] at hh
   split at hh
   ·rename_i vs hvs
    obtain ⟨x, w', e', k1, k2, k3, k4⟩ := sm_builtin (u := tp) (consts := args.map fun | .const _ => true | _ => false) hty hs (evPs_rel ho hvs) v h' l hh
    refine ⟨x, w', e', .inl ?_, k2, k3, k4⟩
    rw [show (List.map σ args.toList).toArray = args.map σ by apply Array.ext'; simp] at k1
    exact k1
   ·cases hh
  | _ => cases hh
 | _ => cases hh
omit hty in
theorem evPs_congr {ρ ρ' : Operand → Option AV} : ∀ {l : List Operand}, (∀ x ∈ l, ρ x = ρ' x) → evPs ρ l = evPs ρ' l
 | [], _ => rfl
 | x :: l, h => by
  simp only [evPs, evP, h x (List.mem_cons_self ..), evPs_congr (fun y hy => h y (List.mem_cons_of_mem _ hy))]
omit hty in
theorem parts_congr {ρ ρ' : Operand → Option AV} : ∀ {l : List (Nat × Operand)}, (∀ x ∈ l.map (·.2), ρ x = ρ' x) → parts ρ l = parts ρ' l
 | [], _ => rfl
 | (i, x) :: l, h => by
  simp only [parts, evP, h x (List.mem_cons_self ..), parts_congr (l := l) (fun y hy => h y (List.mem_cons_of_mem _ hy))]
omit hty in
theorem evOI_congr {ρ ρ' : Operand → Option AV} {x : Option Operand} (h : ∀ y ∈ x.toList, ρ y = ρ' y) : evOI ρ x = evOI ρ' x := by
 cases x with
 | none => rfl
 | some x => simp only [evOI, evI, h x (by simp)]
omit hty in
theorem opM_congr {ρ ρ' : Operand → Option AV} (o : Op) (h : ∀ x ∈ o.operands, ρ x = ρ' x) : opM ty ρ lo o = opM ty ρ' lo o := by
 cases o with
 | buildSlice t n ps =>
  have : parts ρ ps.toList = parts ρ' ps.toList := parts_congr fun x hx => h x (by simpa [Op.operands] using hx)
  simp only [opM, evBuildSlice, this]
 | build t ps =>
  have : parts ρ ps.toList = parts ρ' ps.toList := parts_congr fun x hx => h x (by simpa [Op.operands] using hx)
  simp only [opM, evBuild, this]
 | makeFunc f first captured =>
  have : evPs ρ captured.toList = evPs ρ' captured.toList := evPs_congr fun x hx => h x (by simp only [Op.operands, Array.mem_append]; exact .inr (by simpa using hx))
  cases f <;> simp only [opM, this]
 | slice t x l hh m =>
  have h1 : evOI ρ l = evOI ρ' l := evOI_congr fun y hy => h y (by cases l <;> simp_all [Op.operands])
  have h2 : evOI ρ hh = evOI ρ' hh := evOI_congr fun y hy => h y (by cases hh <;> simp_all [Op.operands])
  have h3 : evOI ρ m = evOI ρ' m := evOI_congr fun y hy => h y (by cases m <;> simp_all [Op.operands])
  have h4 := h x (by simp [Op.operands])
  simp only [opM, evSliceOp, evC, h1, h2, h3, h4]
 | call c =>
  obtain ⟨callee, args, ts⟩ := c
  cases callee with
  | builtin b =>
   have : evPs ρ args.toList = evPs ρ' args.toList := evPs_congr fun x hx => h x (by simp only [Op.operands, Call.operands, Array.mem_append]; exact .inr (by simpa using hx))
   simp only [opM, this]
  | _ => rfl
 | makeMap t r => cases r <;> rfl
 | _ =>
  simp [Op.operands] at h
  first
   | rfl
   | simp only [opM, evC, evP, evI, evLoad, evStore, evConvert, evMakeSlice, evField, evFieldAddr, evIndexAddr, evIndex, h]
end
structure CallOK (P : Program) (S : Nat) (call : CallF) : Prop where
 fr : ∀ f args lo, Fr lo (lo + S) (call f args lo)
 sim : ∀ f args lo h v h' l, call f args lo h = .ok v h' l → ∀ (e : Env) (w : World) (xs : List Value), Sim e h w → All2 (PV.rel e) args xs →
  Calls P f xs.toArray w fun en w' => ∃ x e', en = .returned x ∧ Sim e' h' w' ∧ Stp lo (lo + S) l.w e w e' w' ∧ v.rel e' x
section
variable {P : Program} {ty : Nat → Option TI} {call : CallF} {S : Nat} (hc : CallOK P S call)
include hc in
theorem evOp_fr (ρ : Operand → Option AV) (lo : Nat) (o : Op) : Fr lo (lo + S) (evOp ty call ρ lo o) := by
 unfold evOp
 split
 ·split
  ·exact hc.fr _ _ _
  ·exact Fr.no _ _
 ·exact Fr.run _ _ _
theorem evOp_congr {ρ ρ' : Operand → Option AV} (lo : Nat) (o : Op) (h : ∀ x ∈ o.operands, ρ x = ρ' x) (k : H) : evOp ty call ρ lo o k = evOp ty call ρ' lo o k := by
 unfold evOp
 split
 ·rename_i f args ts
  have h1 : ρ f = ρ' f := h f (by simp [Op.operands, Call.operands])
  have h2 : evPs ρ args.toList = evPs ρ' args.toList := evPs_congr fun x hx => h x (by simp only [Op.operands, Call.operands, Array.mem_append]; exact .inr (by simpa using hx))
  simp only [evC, h1, h2]
 ·rw [opM_congr o h]
theorem capArgs_rel {e : Env} : ∀ {cs : List (Nat × Nat)} {xs : List Value}, All2 (prel e) cs xs → All2 (PV.rel e) (capArgs cs) xs
 | [], [], _ => trivial
 | (a, b) :: cs, x :: xs, h => ⟨h.1, capArgs_rel h.2⟩
include hc in
theorem evOp_wp (hty : ∀ t i, ty t = some i → tiOf P t = some i) (hfn : ∀ f, (∀ args lo h, call f args lo h = .no) ∨ ∃ fn, P.funcs[f]? = some fn ∧ fn.body.isSome = true ∧ fn.name ≠ "runtime.NumGoroutine") {e : Env} {h : H} {w : World} {ρ : Operand → Option AV} {a : Act} {lo : Nat}
  (hs : Sim e h w) (ho : ORel e ρ a.eval) (o : Oper) {v : AV} {h' : H} {l : Log} (hh : evOp ty call ρ lo o.op h = .ok v h' l) {K : Act → World → Prop} {Q : Exit → Act → World → Prop}
  (hK : ∀ x w' e', Sim e' h' w' → Stp lo (lo + S) l.w e w e' w' → v.rel e' x → K (a.put o.dst x) w') : o.wp P a w K Q := by
 unfold evOp at hh
 split at hh
 ·rename_i f args ts hop
  split at hh
  ·rename_i g cs vs hf hvs
   obtain ⟨ys, h1, h2⟩ := evC_rel ho hf
   have hargs := (evPs_rel ho hvs).app (capArgs_rel h1)
   have hcall := hc.sim g _ lo h v h' l hh e w _ hs hargs
   rcases hfn g with hno | ⟨fn, hf1, hf2, hf3⟩
   ·rw [hno] at hh; cases hh
   have hrun : (execOp a.eval o).run P w = .ok (.enter g (List.map a.eval args.toList ++ ys).toArray) w := by
    have hbody : fn.body.isNone = false := by cases hb : fn.body <;> simp_all
    simp only [execOp, hop, resolve, Sem.run_bind, h2, Deferred.ofValue, Sem.run_pure, Result.andThen_ok, invoke, callFunc, program, Sem.run, hf1, hbody, hf3]
    simp [hf3]
   unfold Oper.wp
   rw [hrun]
   refine Calls.mono hcall fun en w' hen => ?_
   obtain ⟨x, e', rfl, k1, k2, k3⟩ := hen
   exact hK x w' e' k1 k2 k3
  ·cases hh
 ·obtain ⟨x, w', e', k1, k2, k3, k4⟩ := op_does (lo := lo) (hi := lo + S) hty hs ho o hh
  unfold Oper.wp
  rcases k1 with k1 | ⟨k1, rfl⟩ <;> rw [k1] <;> exact hK _ w' e' k2 k3 k4
end
end Ev
end
