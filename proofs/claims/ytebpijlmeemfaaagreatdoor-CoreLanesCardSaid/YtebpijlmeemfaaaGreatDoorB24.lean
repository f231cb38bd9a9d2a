/- A part of the proof that plaittop.CoreLanes returns true. -/
import Derived.Test.YtebpijlmeemfaaaGreatDoorB09
import Derived.Test.YtebpijlmeemfaaaGreatDoorB15
import Derived.Test.YtebpijlmeemfaaaGreatDoorB22
import Derived.Test.YtebpijlmeemfaaaGreatDoorB23
set_option linter.all false
set_option linter.unusedSectionVars false
set_option linter.unusedSimpArgs false
set_option linter.unusedVariables false
section
set_option maxRecDepth 100000
namespace Ev
open Go Go.Proofs
theorem Tr.vals_mem {α : Type} : ∀ (t : Tr α) (k : Nat) (x : α), Tr.get t k = some x → x ∈ Tr.vals t
 | .nil, k, x, h => by rw [Tr.get_nil] at h; cases h
 | .node v a b, k, x, h => by
  rw [Tr.get_node] at h
  unfold Tr.vals
  by_cases h0 : k = 0
  ·rw [if_pos h0] at h
   rw [h]
   simp
  ·rw [if_neg h0] at h
   by_cases h1 : k % 2 = 1
   ·rw [if_pos h1] at h
    exact List.mem_append_left _ (List.mem_append_right _ (Tr.vals_mem a _ x h))
   ·rw [if_neg h1] at h
    exact List.mem_append_right _ (Tr.vals_mem b _ x h)
theorem isPt_spec {c : CV} (h : isPt c = true) : c = .ptr (idP c) 0 := by
 unfold isPt at h
 split at h
 ·rfl
 ·cases h
theorem isSl_spec {n : Nat} {c : CV} (h : isSl n c = true) : c = .sl (idS c) 0 n (.minus 0) := by
 unfold isSl at h
 split at h
 ·rw [Nat.eq_of_beq_eq_true h]; rfl
 ·cases h
theorem isSk_spec {n k : Nat} {c : CV} (h : isSk n k c = true) : c = .sl (idS c) 0 n (.known k) := by
 unfold isSk at h
 split at h
 ·rw [Bool.and_eq_true] at h
  rw [Nat.eq_of_beq_eq_true h.1, Nat.eq_of_beq_eq_true h.2]; rfl
 ·cases h
theorem isF_spec {c : CV} (h : isF c = true) : c = .bool false := by
 unfold isF at h
 split at h
 ·rfl
 ·cases h
theorem isN_spec {c : CV} (h : isN c = true) : c = .snil := by
 unfold isN at h
 split at h
 ·rfl
 ·cases h
theorem isM1_spec {c : CV} (h : isM1 c = true) : c = .int .i64 (.negSucc 0) := by
 unfold isM1 at h
 split at h
 ·rfl
 ·cases h
theorem isU_spec {n : Nat} {c : CV} (h : isU n c = true) : c = .int .u64 (.ofNat n) := by
 unfold isU at h
 split at h
 ·rw [Nat.eq_of_beq_eq_true h]
 ·cases h
theorem cellsOK_spec {r : Row} : ∀ {l : List Ln.C} {j : Nat}, cellsOK r l j = true → ∀ (i : Nat) (c : Ln.C), l[i]? = some c → r.at (j + i * 3) = .int .i64 (.ofNat c.1) ∧ r.at (j + i * 3 + 1) = .int .i64 (.ofNat c.2.1) ∧ r.at (j + i * 3 + 2) = .int .u64 (.ofNat c.2.2)
 | [], j, h, i, c, hi => by simp at hi
 | d :: l, j, h, i, c, hi => by
  simp only [cellsOK, Bool.and_eq_true] at h
  cases i with
  | zero =>
   simp at hi
   subst hi
   exact ⟨isJ_spec h.1.1.1, isJ_spec h.1.1.2, isU_spec h.1.2⟩
  | succ i =>
   have := cellsOK_spec h.2 i c (by simpa using hi)
   rwa [show j + 3 + i * 3 = j + (i + 1) * 3 by omega] at this
theorem pre_of {e : Env} {w : World} {id b c el s : Nat} {r : Row} {arr : Array Value} {fr : Nat × Nat} (hc : RowC e id r w b c arr fr) (hk : r.kind = .live) (he : r.elem = el) (hs : r.size = s) {l : List (Option Value)} (hl : l.length ≤ r.n)
  (h : ∀ (i : Nat) (y : Value), l[i]? = some (some y) → ∀ x, (r.at i).rel e x → x = y) : Pre w b el (c * s) l := by
 have fz := hc.fz hk
 subst fz
 have hsz : arr.size = c * s := hs ▸ hc.sz
 refine ⟨arr, he ▸ hc.hb, hsz, hsz ▸ Nat.le_trans hl hc.le, fun i o hi => ?_⟩
 have hlt : i < l.length := (List.getElem?_eq_some_iff.1 hi).1
 obtain ⟨x, x1, x2⟩ := hc.cell i (by omega)
 exact ⟨x, x1, CV.rel.one x2, fun y hy => h i y (hy ▸ hi) x x2⟩
theorem lies_of {e : Env} {w : World} {id b c : Nat} {r : Row} {arr : Array Value} {fr : Nat × Nat} (hc : RowC e id r w b c arr fr) {l : List Ln.C} (hn : l.length * 3 ≤ r.n) (h : cellsOK r l 0 = true) : Lies w b l := fun j d hj => by
 have hlt : j < l.length := (List.getElem?_eq_some_iff.1 hj).1
 obtain ⟨q0, q1, q2⟩ := cellsOK_spec h j d hj
 rw [Nat.zero_add] at q0 q1 q2
 obtain ⟨x0, a0, b0⟩ := hc.cell (j * 3) (by omega)
 obtain ⟨x1, a1, b1⟩ := hc.cell (j * 3 + 1) (by omega)
 obtain ⟨x2, a2, b2⟩ := hc.cell (j * 3 + 2) (by omega)
 rw [q0] at b0
 rw [q1] at b1
 rw [q2] at b2
 have b0 : x0 = _ := b0
 have b1 : x1 = _ := b1
 have b2 : x2 = _ := b2
 subst b0 b1 b2
 intro i v hi
 simp only [World.cell?, hc.hb]
 match i, hi with
 | 0, hi => cases hi; exact a0
 | 1, hi => cases hi; exact a1
 | 2, hi => cases hi; exact a2
end Ev
end
section
set_option maxRecDepth 100000
namespace Ev
open Go Go.Proofs
theorem okN_spec {r : Row} {el sz n : Nat} (q : okN r el sz n = true) : r.kind = .live ∧ r.elem = el ∧ r.size = sz ∧ n ≤ r.n := by
 unfold okN at q
 rw [Bool.and_eq_true] at q
 obtain ⟨k1, k2, k3⟩ := okRow_spec q.1
 exact ⟨k1, k2, k3, Nat.le_of_ble_eq_true q.2⟩
theorem isByt_rel {c : CV} (h : isByt c = true) {e : Env} {x : Value} (hx : c.rel e x) : x = .int .u8 ((valC c : Nat) : Int) ∧ valC c < 256 := by
 unfold isByt at h
 split at h
 ·exact hx
 ·rw [Nat.eq_of_beq_eq_true h] at hx ⊢
  exact ⟨hx, by decide⟩
 ·cases h
structure Ready (k : Nat) (f : FB) (T cT X cX H cH : Nat) (β : Nat → Nat) (w : World) : Prop where
 N : Pre w f.N 100 (f.cN * 7) [some (.int .i64 (-1)), some (.int .i64 ((0 : Nat) : Int)), some (.int .i64 ((0 : Nat) : Int)), some (.int .i64 ((0 : Nat) : Int)), some (.int .i64 ((Ln.cellsOf k).2 : Int)), some (.slice (some ⟨X, 0, none⟩) ((allC k).length + 1) cX)]
 M : Pre w f.M 127 (f.cM * 16) (mP T cT f.N f.cN f.S H)
 S : Pre w f.S 109 (f.cS * 16) (pS ++ [some (.pointer (some ⟨f.m, 0, none⟩))])
 m : Pre w f.m 123 (f.cm * 2) [some (.slice (some ⟨f.q, 0, none⟩) 65536 65536), some (.int .i64 ((1 : Nat) : Int))]
 T : Pre w T 39 (cT * 2) [some (.slice none 0 0), none]
 H : Pre w H 137 (cH * 3) []
 bt : Bt w f.q f.cq β
 lt : ∀ i, β i < 256
 xs : ∃ arr c, w.heap[X]? = some (.cells arr 133 (0, 0)) ∧ arr.size = c * 3
 cs : Lies w X (allC k ++ [(15, 0, 0)])
theorem okN_row {r : Row} {el sz n : Nat} (q : okN r el sz n = true) {h : H} {i : Nat} (hr : h.find i = some r) {e : Env} {w : World} (hs : Sim e h w) : ∃ b c arr, e i = some (b, c) ∧ RowC e i r w b c arr (0, 0) := by
 obtain ⟨h2, h3, h4, h5⟩ := okN_spec q
 obtain ⟨b, c, arr, fr, hc⟩ := (hs.row i _ hr).row (by rw [h2]; rfl)
 have := hc.fz h2
 subst this
 exact ⟨b, c, arr, hc.he, hc⟩
theorem chkQ_spec {rQ : Row} (h : chkQ rQ = true) (i : Nat) : isByt (rQ.at i) = true := by
 unfold chkQ at h
 simp only [Bool.and_eq_true] at h
 rw [Row.at_eq]
 cases hg : Tr.get rQ.tr i with
 | none => exact h.1.2
 | some x => exact List.all_eq_true.1 h.2 x (Tr.vals_mem _ _ _ hg)
theorem fin_spec {k : Nat} {h : H} {iM : Nat} {rM rT rH rN rX rS rm rQ : Row} (gM : h.find iM = some rM) (gT : h.find (idS (rM.at 0)) = some rT) (gH : h.find (idP (rM.at 3)) = some rH) (gN : h.find (idS (rM.at 1)) = some rN) (gX : h.find (idS (rN.at 5)) = some rX) (gS : h.find (idP (rM.at 2)) = some rS) (gm : h.find (idP (rS.at 15)) = some rm) (gQ : h.find (idS (rm.at 0)) = some rQ)
  (hfM : chkM rM rT rH rS rm = true) (hfN : chkN k rN rX = true) (hfQ : chkQ rQ = true) {e : Env} {w : World} (hs : Sim e h w) :
  ∃ (f : FB) (T cT X cX H cH : Nat) (β : Nat → Nat), e iM = some (f.M, f.cM) ∧ e (idP (rM.at 2)) = some (f.S, f.cS) ∧ e (idP (rS.at 15)) = some (f.m, f.cm) ∧ e (idS (rm.at 0)) = some (f.q, f.cq) ∧ (∀ i, i < 65536 → β i = valC (rQ.at i)) ∧ Ready k f T cT X cX H cH β w := by
 unfold chkM at hfM
 simp only [Bool.and_eq_true] at hfM
 obtain ⟨⟨⟨⟨⟨⟨⟨⟨⟨⟨⟨⟨⟨hM, m0⟩, m1⟩, m2⟩, m3⟩, m15⟩, hT⟩, t0⟩, hH⟩, hS⟩, s15⟩, hm⟩, q0⟩, q1⟩ := hfM
 unfold chkN at hfN
 simp only [Bool.and_eq_true] at hfN
 obtain ⟨⟨⟨⟨⟨⟨⟨⟨hN, n0⟩, n1⟩, n2⟩, n3⟩, n4⟩, n5⟩, hX⟩, hcs⟩ := hfN
 have hby := chkQ_spec hfQ
 unfold chkQ at hfQ
 simp only [Bool.and_eq_true] at hfQ
 have hQ := hfQ.1.1.1
 have m0 := isSl_spec m0
 have m1 := isSl_spec m1
 have m2 := isPt_spec m2
 have m3 := isPt_spec m3
 have m15 := isF_spec m15
 have t0 := isN_spec t0
 have n0 := isM1_spec n0
 have n1 := isJ_spec n1
 have n2 := isJ_spec n2
 have n3 := isJ_spec n3
 have n4 := isJ_spec n4
 have n5 := isSl_spec n5
 have s15 := isPt_spec s15
 have q0 := isSk_spec q0
 have q1 := isJ_spec q1
 obtain ⟨bM, cM, aM, eM, rM'⟩ := okN_row hM gM hs
 obtain ⟨bT, cT, aT, eT, rT'⟩ := okN_row hT gT hs
 obtain ⟨bH, cH, aH, eH, rH'⟩ := okN_row hH gH hs
 obtain ⟨bN, cN, aN, eN, rN'⟩ := okN_row hN gN hs
 obtain ⟨bX, cX, aX, eX, rX'⟩ := okN_row hX gX hs
 obtain ⟨bS, cS, aS, eS, rS'⟩ := okN_row hS gS hs
 obtain ⟨bm, cm, am, em, rm'⟩ := okN_row hm gm hs
 obtain ⟨bQ, cQ, aQ, eQ, rQ'⟩ := okN_row hQ gQ hs
 obtain ⟨kM, lM, zM, uM⟩ := okN_spec hM
 obtain ⟨kT, lT, zT, uT⟩ := okN_spec hT
 obtain ⟨kH, lH, zH, uH⟩ := okN_spec hH
 obtain ⟨kN, lN, zN, uN⟩ := okN_spec hN
 obtain ⟨kX, lX, zX, uX⟩ := okN_spec hX
 obtain ⟨kS, lS, zS, uS⟩ := okN_spec hS
 obtain ⟨km, lm, zm, um⟩ := okN_spec hm
 obtain ⟨kQ, lQ, zQ, uQ⟩ := okN_spec hQ
 have sl : ∀ {i n b c : Nat} {x : Value}, e i = some (b, c) → CV.rel e (.sl i 0 n (.minus 0)) x → x = .slice (some ⟨b, 0, none⟩) n c := by
  rintro i n b c x he ⟨b', c', h1, rfl⟩
  rw [he] at h1
  cases h1
  rfl
 have pt : ∀ {i b c : Nat} {x : Value}, e i = some (b, c) → CV.rel e (.ptr i 0) x → x = .pointer (some ⟨b, 0, none⟩) := by
  rintro i b c x he ⟨b', c', h1, rfl⟩
  rw [he] at h1
  cases h1
  rfl
 have hcell : ∀ i, i < 65536 → aQ[i]? = some (.int .u8 ((valC (rQ.at i) : Nat) : Int)) ∧ valC (rQ.at i) < 256 := fun i hi => by
  obtain ⟨x, x1, x2⟩ := rQ'.cell i (by omega)
  obtain ⟨y1, y2⟩ := isByt_rel (hby i) x2
  exact ⟨by rw [x1, y1], y2⟩
 refine ⟨⟨0, 0, 0, bN, bM, bS, bm, bQ, cQ, cN, cM, cS, cm⟩, bT, cT, bX, cX, bH, cH, fun i => if i < 65536 then valC (rQ.at i) else 0, eM, eS, em, eQ, fun i hi => if_pos hi, ?_, ?_, ?_, ?_, ?_, ?_, ⟨aQ, lQ ▸ rQ'.hb, by have := rQ'.sz; rwa [zQ, Nat.mul_one] at this, by show 65536 ≤ cQ; have := rQ'.le; have := rQ'.sz; rw [zQ, Nat.mul_one] at this; omega, fun i hi => by show aQ[i]? = some (.int .u8 ((if i < 65536 then valC (rQ.at i) else 0 : Nat) : Int)); rw [if_pos hi]; exact (hcell i hi).1⟩, fun i => ?_, ⟨aX, cX, lX ▸ rX'.hb, by have := rX'.sz; rwa [zX] at this⟩, ?_⟩
 ·refine pre_of rN' kN lN zN uN fun i y hi x hx => ?_
  match i, hi with
  | 0, hi => cases hi; rw [n0] at hx; exact hx
  | 1, hi => cases hi; rw [n1] at hx; exact hx
  | 2, hi => cases hi; rw [n2] at hx; exact hx
  | 3, hi => cases hi; rw [n3] at hx; exact hx
  | 4, hi => cases hi; rw [n4] at hx; exact hx
  | 5, hi => cases hi; rw [n5] at hx; exact sl eX hx
 ·refine pre_of rM' kM lM zM uM fun i y hi x hx => ?_
  match i, hi with
  | 0, hi => cases hi; rw [m0] at hx; exact sl eT hx
  | 1, hi => cases hi; rw [m1] at hx; exact sl eN hx
  | 2, hi => cases hi; rw [m2] at hx; exact pt eS hx
  | 3, hi => cases hi; rw [m3] at hx; exact pt eH hx
  | 4, hi => cases hi
  | 5, hi => cases hi
  | 6, hi => cases hi
  | 7, hi => cases hi
  | 8, hi => cases hi
  | 9, hi => cases hi
  | 10, hi => cases hi
  | 11, hi => cases hi
  | 12, hi => cases hi
  | 13, hi => cases hi
  | 14, hi => cases hi
  | 15, hi => cases hi; rw [m15] at hx; exact hx
 ·refine pre_of rS' kS lS zS uS fun i y hi x hx => ?_
  match i, hi with
  | 0, hi => cases hi
  | 1, hi => cases hi
  | 2, hi => cases hi
  | 3, hi => cases hi
  | 4, hi => cases hi
  | 5, hi => cases hi
  | 6, hi => cases hi
  | 7, hi => cases hi
  | 8, hi => cases hi
  | 9, hi => cases hi
  | 10, hi => cases hi
  | 11, hi => cases hi
  | 12, hi => cases hi
  | 13, hi => cases hi
  | 14, hi => cases hi
  | 15, hi => cases hi; rw [s15] at hx; exact pt em hx
 ·refine pre_of rm' km lm zm um fun i y hi x hx => ?_
  match i, hi with
  | 0, hi =>
   cases hi
   rw [q0] at hx
   obtain ⟨b', c', h1, rfl⟩ := hx
   rw [eQ] at h1
   cases h1
   rfl
  | 1, hi => cases hi; rw [q1] at hx; exact hx
 ·refine pre_of rT' kT lT zT uT fun i y hi x hx => ?_
  match i, hi with
  | 0, hi => cases hi; rw [t0] at hx; exact hx
  | 1, hi => cases hi
 ·exact pre_of rH' kH lH zH uH fun i y hi x hx => by simp at hi
 ·show (if i < 65536 then valC (rQ.at i) else 0) < 256
  by_cases hi : i < 65536
  ·rw [if_pos hi]; exact (hcell i hi).2
  ·rw [if_neg hi]; decide
 ·exact lies_of rX' (by rw [List.length_append]; exact uX) hcs
end Ev
end
section
set_option maxRecDepth 100000
namespace Ev
open Go Go.Proofs
theorem runB_lt {k : Nat} {β : Nat → Nat} (h : ∀ i, β i < 256) : ∀ i, runB k β i < 256 := stB_lt (stB_lt h _ _) _ _
theorem runB_0 {k : Nat} {β : Nat → Nat} (h : ∀ i, β i < 256) : hN (runB k β) 67 = rB k β 0 := (hN_two h _ _).1
theorem runB_1 {k : Nat} {β : Nat → Nat} (h : ∀ i, β i < 256) : hN (runB k β) 75 = rB k β 1 := (hN_two h _ _).2
theorem lane_go {f : FB} {w : World} {k X cX T c H cH : Nat} {β : Nat → Nat} (hk : k ∈ kA) (R : Ready k f T c X cX H cH β w) :
  Calls Tryz.prog 13 #[.pointer (some ⟨f.M, 0, none⟩), .int .i64 ((0 : Nat) : Int), .slice none 0 0, .int .i64 ((50 : Nat) : Int)] w fun en w' => (∃ v, One v ∧ en = .returned (.agg #[.int .i64 ((0 : Nat) : Int), .int .u32 ((0 : Nat) : Int), v, .int .i64 ((43 : Nat) : Int)])) ∧ Bt w' f.q f.cq (runB k β) ∧ (∀ k, k < w.heap.size → k ≠ f.q → w'.heap[k]? = w.heap[k]?) ∧ w.heap.size ≤ w'.heap.size ∧ w'.os = w.os ∧ w'.tape = w.tape ∧ w'.output = w.output := by
 obtain ⟨hm, L', hl, tr⟩ := whole_tr hk R.lt
 have hlen := List.all_eq_true.1 lenC k hk
 rw [Nat.blt_eq] at hlen
 exact (run_k hm R.N R.M R.S (R.m.weak ⟨rfl, trivial⟩) R.T R.H R.bt rfl hlen R.xs R.cs tr rfl rfl (by show L'.length ∈ mS; rw [hl]; exact hm)).mono fun en w' hh => hh
theorem Sim.turnG {e : Env} {h : H} {w w1 : World} (hs : Sim e h w) {id : Nat} {r r' : Row} (hr : h.find id = some r) (hk : r.kind.read = true) {b c : Nat} (he : e id = some (b, c))
  (hne : ∀ k, k < w.heap.size → k ≠ b → w1.heap[k]? = w.heap[k]?) (hsz : w.heap.size ≤ w1.heap.size) (hr' : r'.kind.read = true → ∃ arr fr, RowC e id r' w1 b c arr fr) : Sim e (h.put id r') w1 := by
 refine ⟨fun i ri hi => ?_, fun i hi => ?_, fun i j ri rj b' c1 c2 hi hl hj hl' h1 h2 => ?_⟩
 ·rw [find_put] at hi
  by_cases hii : i = id
  ·rw [if_pos hii] at hi
   cases hi
   subst hii
   refine ⟨⟨b, c, he, ?_⟩, fun hl => ?_⟩
   ·obtain ⟨b2, c2, h3, h4⟩ := (hs.row i r hr).ex
    rw [he] at h3; cases h3; omega
   ·obtain ⟨arr, fr, hc⟩ := hr' hl
    exact ⟨b, c, arr, fr, hc⟩
  ·rw [if_neg hii] at hi
   have := hs.row i ri hi
   obtain ⟨b2, c2, h3, h4⟩ := this.ex
   refine ⟨⟨b2, c2, h3, by omega⟩, fun hl => ?_⟩
   obtain ⟨b3, c3, arr, fr, hc⟩ := this.row hl
   refine ⟨b3, c3, arr, fr, hc.ext (.refl _) (hne _ (blk_lt hc.hb) fun hb => hii ?_)⟩
   subst hb
   exact hs.inj i id ri r b3 c3 c hi hl hr hk hc.he he
 ·rw [find_put] at hi
  by_cases hii : i = id
  ·rw [if_pos hii] at hi; cases hi
  ·rw [if_neg hii] at hi; exact hs.dom i hi
 ·rw [find_put] at hi hj
  have key : ∀ i ri, (if i = id then some r' else h.find i) = some ri → ri.kind.read = true → ∃ ri', h.find i = some ri' ∧ ri'.kind.read = true := by
   intro i ri hi hl
   by_cases hii : i = id
   ·subst hii; exact ⟨r, hr, hk⟩
   ·rw [if_neg hii] at hi; exact ⟨ri, hi, hl⟩
  obtain ⟨ri', k1, k2⟩ := key i ri hi hl
  obtain ⟨rj', k3, k4⟩ := key j rj hj hl'
  exact hs.inj i j ri' rj' b' c1 c2 k1 k2 k3 k4 h1 h2
theorem put_run {id : Nat} {r : Row} {k : M AV} {h h' : H} {v : AV} {l : Log} (q : (M.put id r k).run h = .ok v h' l) : ∃ r0 l', h.find id = some r0 ∧ k.run (h.put id r) = .ok v h' l' ∧ l.w = id :: l'.w := by
 simp only [M.run] at q
 split at q
 ·rename_i r0 hr
  split at q
  ·rename_i a h2 l2 e2
   cases q
   exact ⟨r0, l2, hr, e2, rfl⟩
  ·cases q
 ·cases q
theorem range_get (k : Nat) (β : Nat → Nat) (j : Nat) (h : j < 16) : ((List.range 16).map fun i => CV.fb (runB k) β (67 + i))[j]? = some (.fb (runB k) β (67 + j)) := by
 rw [List.getElem?_map, List.getElem?_range h]
 rfl
theorem runRow_at (k : Nat) (rQ : Row) (i : Nat) : (runRow k rQ).at i = if 67 ≤ i ∧ i < 83 then .fb (runB k) (fun j => valC (rQ.at j)) i else rQ.at i := by
 rw [Row.at_eq, Row.at_eq]
 show (Tr.get (setAll ((List.range 16).map fun i => CV.fb (runB k) (fun j => valC (rQ.at j)) (67 + i)) rQ.tr 67) i).getD rQ.d = _
 rw [at_set rQ _ 0 i 67 rQ.tr (by simp)]
 simp only [List.length_map, List.length_range]
 by_cases h : 67 ≤ i ∧ i < 67 + 16
 ·rw [if_pos h, if_pos (by omega), range_get _ _ _ (by omega), show 67 + (i - 67) = i by omega]
  rfl
 ·rw [if_neg h, if_neg (by omega)]
theorem stB_far {β : Nat → Nat} {a : Nat} {x : B64} {i : Nat} (h : ¬ (a ≤ i ∧ i < a + 8)) : stB β a x i = β i := by unfold stB; rw [if_neg h]
theorem runB_far {k : Nat} {β : Nat → Nat} {i : Nat} (h : ¬ (67 ≤ i ∧ i < 83)) : runB k β i = β i := by
 unfold runB
 rw [stB_far (by omega), stB_far (by omega)]
theorem rB_ext {k : Nat} {β γ : Nat → Nat} (h : ∀ i, i < 65536 → β i = γ i) (j : Nat) : rB k β j = rB k γ j := by
 unfold rB
 have hx : ∀ a, a + 8 ≤ 65536 → hN β a = hN γ a := fun a ha => by
  unfold hN
  have : ∀ n, n ≤ 8 → ldB (fun i => β (a + i)) n = ldB (fun i => γ (a + i)) n := by
   intro n
   induction n with
   | zero => intro _; rfl
   | succ n ih => intro hn; unfold ldB; rw [ih (by omega), h (a + n) (by omega)]
  exact this 8 (Nat.le_refl _)
 rw [hx 5 (by omega), hx 13 (by omega), hx 25 (by omega), hx 33 (by omega)]
theorem runB_ext {k : Nat} {β γ : Nat → Nat} (h : ∀ i, i < 65536 → β i = γ i) {i : Nat} (hi : i < 65536) : runB k β i = runB k γ i := by
 unfold runB
 rw [rB_ext h, rB_ext h]
 unfold stB
 split
 ·rfl
 ·split
  ·rfl
  ·exact h i hi
theorem fns2_of {f : Nat} {c : Code} {rs : List ResultVar} (h : fns f = some (c, rs)) : ∃ c rs, fns2 f = some (c, rs) := by
 unfold fns2
 split
 ·rename_i fn hf
  have hm := get_fold fnL2 f fn hf
  have h2 := List.all_eq_true.1 (by kernel_rfl : fnL2.all (fun x => x.2.body.isSome) = true) (f, fn) hm
  simp only at h2
  cases hb : fn.body with
  | none => rw [hb] at h2; cases h2
  | some c => exact ⟨c, fn.results.toList, rfl⟩
 ·exact ⟨c, rs, h⟩
theorem runTab_ok {k : Nat} (hk : k ∈ kA) : TabOK Tryz.prog ty2 fns2 (runExt k) := by
 refine ⟨ty_ok2, mixed_ok, fns_ok2, fun f args g hg => ?_, fun f args g hg lo h v h' l hr e w xs hs hx => ?_⟩
 ·unfold runExt at hg
  split at hg
  ·obtain ⟨c, rs, hc⟩ := (sqTab_ok sq_ok).extf _ _ _ hg
   exact fns2_of hc
  ·rename_i hf
   rw [Nat.eq_of_beq_eq_true hf]
   exact ⟨_, _, (by kernel_rfl : fns2 13 = some ((Tryz.f13.body.getD .skip), Tryz.f13.results.toList))⟩
 ·unfold runExt at hg
  split at hg
  ·exact (sqTab_ok sq_ok).exts _ _ _ hg lo h v h' l hr e w xs hs hx
  ·rename_i hf
   have hf := Nat.eq_of_beq_eq_true hf
   subst hf
   split at hg
   ·rename_i iM z n
    split at hg
    ·rename_i hzn
     cases hg
     rw [Bool.and_eq_true] at hzn
     have hz := Nat.eq_of_beq_eq_true hzn.1
     have hn := Nat.eq_of_beq_eq_true hzn.2
     subst hz hn
     unfold runM at hr
     obtain ⟨rM, l1, gM, hr, w1⟩ := get_run hr
     obtain ⟨rT, l2, gT, hr, w2⟩ := get_run hr
     obtain ⟨rH, l3, gH, hr, w3⟩ := get_run hr
     obtain ⟨rN, l4, gN, hr, w4⟩ := get_run hr
     obtain ⟨rX, l5, gX, hr, w5⟩ := get_run hr
     obtain ⟨rS, l6, gS, hr, w6⟩ := get_run hr
     obtain ⟨rm, l7, gm, hr, w7⟩ := get_run hr
     obtain ⟨rQ, l8, gQ, hr, w8⟩ := get_run hr
     obtain ⟨hb, hr⟩ := ifM_run hr
     obtain ⟨r0, l9, g9, hr, w9⟩ := put_run hr
     cases hr
     simp only [Bool.and_eq_true] at hb
     have hQ := hb.2
     obtain ⟨f, T, cT, X, cX, H', cH, β, eM, eS, em, eQ, hβ, R⟩ := fin_spec gM gT gH gN gX gS gm gQ hb.1.1 hb.1.2 hb.2 hs
     have hW : idS (rm.at 0) ∈ l.w := by rw [← w1, ← w2, ← w3, ← w4, ← w5, ← w6, ← w7, ← w8, w9]; exact List.mem_cons_self ..
     match xs, hx with
     | [x0, x1, x2, x3], hx =>
      obtain ⟨b0, c0, he0, rfl⟩ := hx.1
      rw [eM] at he0
      cases he0
      have hx1 : x1 = _ := hx.2.1
      have hx2 : x2 = _ := hx.2.2.1
      have hx3 : x3 = _ := hx.2.2.2.1
      subst hx1 hx2 hx3
      refine Calls.mono (lane_go hk R) fun en w' hen => ?_
      obtain ⟨⟨v, hv, rfl⟩, hB, hkeep, hsz, hos, htape, hout⟩ := hen
      have hby := chkQ_spec hQ
      unfold chkQ at hQ
      simp only [Bool.and_eq_true] at hQ
      obtain ⟨⟨⟨q1, q2⟩, q3⟩, q4⟩ := hQ
      have q2 := Nat.le_of_ble_eq_true q2
      obtain ⟨kQ, lQ, zQ, uQ⟩ := okN_spec q1
      obtain ⟨arr, b1, b2, b3, b4⟩ := hB
      refine ⟨_, e, rfl, Sim.turnG hs gQ (by rw [kQ]; rfl) eQ hkeep hsz (fun _ => ⟨arr, (0, 0), eQ, ?_, ?_, ?_, fun _ => rfl, fun i hi => ?_⟩), ⟨.refl _, hos, htape, hout, hsz, fun j hj hn => hkeep j hj fun hq => hn _ (.inl hW) f.cq (by rw [eQ, hq]), fun _ _ _ h1 h2 => by rw [h1] at h2; cases h2⟩, ⟨[.int .i64 ((0 : Nat) : Int), .int .u32 ((0 : Nat) : Int), v, .int .i64 ((43 : Nat) : Int)], ⟨rfl, rfl, hv, rfl, trivial⟩, rfl⟩⟩
      ·show w'.heap[f.q]? = some (.cells arr rQ.elem (0, 0))
       rw [lQ]; exact b1
      ·show arr.size = f.cq * rQ.size
       rw [zQ, Nat.mul_one]; exact b2
      ·show rQ.n ≤ arr.size
       omega
      ·have hi : i < rQ.n := hi
       have hi6 : i < 65536 := by omega
       refine ⟨_, b4 i hi6, ?_⟩
       rw [runRow_at]
       have hlt := runB_lt (k := k) R.lt i
       by_cases h1 : 67 ≤ i ∧ i < 83
       ·rw [if_pos h1]
        have := runB_ext (k := k) hβ hi6
        refine ⟨?_, by rw [← this]; exact hlt⟩
        rw [this]
       ·rw [if_neg h1, runB_far h1, hβ i hi6]
        obtain ⟨b5, c5, arr5, fr5, hc5⟩ := (hs.row _ _ gQ).row (by rw [kQ]; rfl)
        obtain ⟨x, x1, x2⟩ := hc5.cell i hi
        rw [← (isByt_rel (hby i) x2).1]
        exact x2
    ·cases hg
   ·cases hg
end Ev
end
section
set_option maxRecDepth 100000
namespace Ev
open Go Go.Proofs
noncomputable def tbL : List (Nat × Nat × Nat) := [(257, 0, 0), (66, 0, 1), (32, 0, 1), (33, 1, 0), (124, 2, 1), (131, 2, 1), (133, 2, 1)]
noncomputable def tbOk (x : Nat × Nat × Nat) : Bool := match evCall ty fns noExt 5000 4 223 [.one (.int .i64 (.ofNat x.1))] 0 .nil with
 | .ok (.tup [.one c, .one d]) _ _ => isJ c x.2.1 && isJ d x.2.2
 | _ => false
noncomputable def tbAt (op : Nat) (l : List (Nat × Nat × Nat)) : Option (Nat × Nat × Nat) := List.rec (motive := fun _ => Option (Nat × Nat × Nat)) none (fun x _ ih => Bool.rec (motive := fun _ => Option (Nat × Nat × Nat)) ih (some x) (Nat.beq x.1 op)) l
noncomputable def mkExt (f : Nat) (args : List PV) : Option (Nat → M AV) :=
 match Nat.beq f 223 with
 | true => (match args with
  | [.one (.int .i64 (.ofNat op))] => (match tbAt op tbL with
   | some x => some (fun _ => .pure (.tup [.one (i64c x.2.1), .one (i64c x.2.2)]))
   | none => none)
  | _ => none)
 | false => sqExt f args
noncomputable def mk4 : Option Bool := match evCall ty2 fns2 mkExt 5000 17 4 [] 1000 .nil with | .ok (.p (.one (.bool b))) _ _ => some b | .ok _ _ _ => some false | .no => none
theorem tb_all : tbL.all tbOk = true := by kernel_rfl
theorem tbAt_mem {op : Nat} {x : Nat × Nat × Nat} : ∀ {l : List (Nat × Nat × Nat)}, tbAt op l = some x → x ∈ l ∧ x.1 = op
 | [], h => by cases h
 | y :: l, h => by
  have e : tbAt op (y :: l) = Bool.rec (motive := fun _ => Option (Nat × Nat × Nat)) (tbAt op l) (some y) (Nat.beq y.1 op) := rfl
  rw [e, bool_beq] at h
  split at h
  ·rename_i q
   cases h
   exact ⟨List.mem_cons_self .., q⟩
  ·obtain ⟨h1, h2⟩ := tbAt_mem h
   exact ⟨List.mem_cons_of_mem _ h1, h2⟩
theorem tb_calls (x : Nat × Nat × Nat) (h : tbOk x = true) (w : World) : Calls Tryz.prog 223 #[.int .i64 (x.1 : Int)] w fun en w' => en = .returned (.tuple #[.int .i64 (x.2.1 : Int), .int .i64 (x.2.2 : Int)]) ∧ w'.os = w.os ∧ w'.tape = w.tape ∧ w'.output = w.output ∧ w.heap.size ≤ w'.heap.size ∧ ∀ i, i < w.heap.size → w'.heap[i]? = w.heap[i]? := by
 unfold tbOk at h
 split at h
 ·rename_i c d hh l hev
  rw [Bool.and_eq_true] at h
  have h1 := h.1
  have h2 := h.2
  have := (evCall_ok noTab 5000 4).sim 223 _ 0 .nil _ _ _ hev (fun _ => none) w [.int .i64 (x.1 : Int)] (sim_nil w) ⟨rfl, trivial⟩
  refine Calls.mono this fun en w' hen => ?_
  obtain ⟨y, e', rfl, k1, k2, k3⟩ := hen
  obtain ⟨m, hm, rfl⟩ := k3
  match m, hm with
  | [y0, y1], hm =>
   have q0 : c.rel e' y0 := hm.1
   have q1 : d.rel e' y1 := hm.2.1
   rw [isJ_spec h1] at q0
   rw [isJ_spec h2] at q1
   have q0 : y0 = _ := q0
   have q1 : y1 = _ := q1
   subst q0 q1
   exact ⟨rfl, k2.os, k2.tape, k2.output, k2.size, fun i hi => k2.block i hi fun _ _ _ hh => by cases hh⟩
 ·cases h
theorem mkTab_ok : TabOK Tryz.prog ty2 fns2 mkExt := by
 refine ⟨ty_ok2, mixed_ok, fns_ok2, fun f args g hg => ?_, fun f args g hg lo h v h' l hr e w xs hs hx => ?_⟩
 ·unfold mkExt at hg
  split at hg
  ·rename_i hf
   rw [Nat.eq_of_beq_eq_true hf]
   exact ⟨_, _, (by kernel_rfl : fns2 223 = some ((Tryz.f223.body.getD .skip), Tryz.f223.results.toList))⟩
  ·obtain ⟨c, rs, hc⟩ := (sqTab_ok sq_ok).extf _ _ _ hg
   exact fns2_of hc
 ·unfold mkExt at hg
  split at hg
  ·rename_i hf
   have hf := Nat.eq_of_beq_eq_true hf
   subst hf
   split at hg
   ·rename_i op
    split at hg
    ·rename_i x hm
     cases hg
     cases hr
     obtain ⟨hm, hop⟩ := tbAt_mem hm
     match xs, hx with
     | [y], hx =>
      rw [show y = _ from hx.1, ← hop]
      refine Calls.mono (tb_calls x (List.all_eq_true.1 tb_all x hm) w) fun en w' hen => ?_
      obtain ⟨rfl, ho, ht, hp, hsz, hbl⟩ := hen
      exact ⟨_, e, rfl, hs.keep hsz hbl, ⟨.refl _, ho, ht, hp, hsz, (fun b hb _ => hbl b hb), (fun _ _ _ h1 h2 => by rw [h1] at h2; cases h2)⟩, ⟨[.int .i64 (x.2.1 : Int), .int .i64 (x.2.2 : Int)], ⟨rfl, rfl, trivial⟩, rfl⟩⟩
    ·cases hg
   ·cases hg
  ·exact (sqTab_ok sq_ok).exts _ _ _ hg lo h v h' l hr e w xs hs hx
theorem mk4_ok : mk4 = some true := by kernel_rfl
theorem makes_calls (w : World) : Calls Tryz.prog 4 #[] w fun en w' => en = .returned (.bool true) ∧ w'.os = w.os ∧ w'.tape = w.tape ∧ w'.output = w.output ∧ w.heap.size ≤ w'.heap.size ∧ ∀ i, i < w.heap.size → w'.heap[i]? = w.heap[i]? := by
 have h := mk4_ok
 unfold mk4 at h
 split at h
 ·rename_i b hh l hev
  cases h
  have := (evCall_ok mkTab_ok 5000 17).sim 4 _ 1000 .nil _ _ _ hev (fun _ => none) w [] (sim_nil w) trivial
  refine Calls.mono this fun en w' hen => ?_
  obtain ⟨y, e', rfl, k1, k2, k3⟩ := hen
  exact ⟨congrArg _ k3, k2.os, k2.tape, k2.output, k2.size, fun i hi => k2.block i hi fun _ _ _ hh => by cases hh⟩
 ·cases h
 ·cases h
end Ev
end
section
set_option maxRecDepth 100000
namespace Ev
open Go Go.Proofs
def bAB (a b : Nat → Nat) (i : Nat) : Nat := if 5 ≤ i ∧ i < 21 then a (i - 5) else if 25 ≤ i ∧ i < 41 then b (i - 25) else 0
theorem posB_lo {j : Nat} (h : j < 16) : posB j = 5 + j := by
 unfold posB
 rw [show Nat.blt j 16 = true by rw [Nat.blt_eq]; exact h]
theorem posB_hi {j : Nat} (h : ¬ j < 16) : posB j = 9 + j := by
 unfold posB
 cases hb : Nat.blt j 16 with
 | true => rw [Nat.blt_eq] at hb; omega
 | false => rfl
theorem hN_ext {β γ : Nat → Nat} {c : Nat} (h : ∀ i, i < 8 → β (c + i) = γ (c + i)) : hN β c = hN γ c := by
 unfold hN
 have : ∀ n, n ≤ 8 → ldB (fun i => β (c + i)) n = ldB (fun i => γ (c + i)) n := by
  intro n
  induction n with
  | zero => intro _; rfl
  | succ n ih => intro hn; unfold ldB; rw [ih (by omega), h n (by omega)]
 exact this 8 (Nat.le_refl _)
theorem rB_abs {k : Nat} {β γ : Nat → Nat} (h : ∀ j, j < 32 → β (posB j) = γ (posB j)) (j : Nat) : rB k β j = rB k γ j := by
 have lo : ∀ i, i < 16 → β (5 + i) = γ (5 + i) := fun i hi => by have := h i (by omega); rwa [posB_lo hi] at this
 have hi : ∀ i, i < 16 → β (25 + i) = γ (25 + i) := fun i hi => by
  have := h (16 + i) (by omega)
  rwa [posB_hi (by omega), show 9 + (16 + i) = 25 + i by omega] at this
 have e5 : hN β 5 = hN γ 5 := hN_ext fun i q => lo i (by omega)
 have e13 : hN β 13 = hN γ 13 := hN_ext fun i q => by have := lo (8 + i) (by omega); rwa [show 5 + (8 + i) = 13 + i by omega] at this
 have e25 : hN β 25 = hN γ 25 := hN_ext fun i q => hi i (by omega)
 have e33 : hN β 33 = hN γ 33 := hN_ext fun i q => by have := hi (8 + i) (by omega); rwa [show 25 + (8 + i) = 33 + i by omega] at this
 unfold rB
 rw [e5, e13, e25, e33]
theorem runB_abs {k : Nat} {β γ : Nat → Nat} (h : ∀ j, j < 32 → β (posB j) = γ (posB j)) {i : Nat} (hi : 67 ≤ i ∧ i < 83) : runB k β i = runB k γ i := by
 unfold runB
 rw [rB_abs h, rB_abs h]
 unfold stB
 by_cases h1 : 67 ≤ i ∧ i < 67 + 8
 ·rw [if_pos h1, if_pos h1]
 ·rw [if_neg h1, if_neg h1, if_pos (by omega), if_pos (by omega)]
theorem bAB_lt {a b : Nat → Nat} (ha : ∀ i, i < 16 → a i < 256) (hb : ∀ i, i < 16 → b i < 256) (i : Nat) : bAB a b i < 256 := by
 unfold bAB
 split
 ·exact ha _ (by omega)
 ·split
  ·exact hb _ (by omega)
  ·decide
theorem isFb_spec {n : Nat} {c : CV} (h : isFb n c = true) : valC c = fF c (fB c) n := by
 unfold isFb at h
 split at h
 ·rw [← Nat.eq_of_beq_eq_true h]; rfl
 ·cases h
theorem fbAll_spec {rQ : Row} : ∀ {n i : Nat}, fbAll rQ n i = true → ∀ j, j < n → isFb (i + j) (rQ.at (i + j)) = true
 | 0, i, h, j, hj => by omega
 | n + 1, i, h, j, hj => by
  simp only [fbAll, Bool.and_eq_true] at h
  cases j with
  | zero => exact h.1
  | succ j =>
   have := fbAll_spec h.2 j (by omega)
   rwa [show i + 1 + j = i + (j + 1) by omega] at this
theorem ab_get (a b : Nat → Nat) (j : Nat) (hj : j < 32) : ((List.range 16).map a ++ (List.range 16).map b)[j]? = some (bAB a b (posB j)) := by
 unfold bAB
 by_cases h : j < 16
 ·rw [List.getElem?_append_left (by simp; omega), List.getElem?_map, List.getElem?_range h, posB_lo h, if_pos (by omega), show 5 + j - 5 = j by omega]
  rfl
 ·rw [List.getElem?_append_right (by simp; omega), List.getElem?_map, List.getElem?_range (by simp; omega), posB_hi h, if_neg (by omega), if_pos (by omega)]
  simp only [List.length_map, List.length_range, Option.map_some]
  congr 2
  omega
theorem seen_val {k : Nat} {a b : Nat → Nat} {rQ : Row} (h1 : fbAll rQ 16 67 = true) (h2 : (rQ.cells 16 67).map seen = List.replicate 16 (runB k, (List.range 16).map a ++ (List.range 16).map b)) (i : Nat) (hi : i < 16) : valC (rQ.at (67 + i)) = runB k (bAB a b) (67 + i) := by
 have hs : seen (rQ.at (67 + i)) = (runB k, (List.range 16).map a ++ (List.range 16).map b) := by
  have e : ((rQ.cells 16 67).map seen)[i]? = some (runB k, (List.range 16).map a ++ (List.range 16).map b) := by rw [h2, List.getElem?_replicate, if_pos hi]
  rw [List.getElem?_map, cells_get, if_pos hi] at e
  exact Option.some.inj e
 rw [isFb_spec (fbAll_spec h1 i hi)]
 have hF : fF (rQ.at (67 + i)) = runB k := congrArg Prod.fst hs
 have hL : ((List.range 32).map fun j => fB (rQ.at (67 + i)) (posB j)) = (List.range 16).map a ++ (List.range 16).map b := congrArg Prod.snd hs
 rw [hF]
 refine runB_abs (fun j hj => ?_) (by omega)
 have e : ((List.range 32).map fun j => fB (rQ.at (67 + i)) (posB j))[j]? = some (bAB a b (posB j)) := by rw [hL, ab_get a b j hj]
 rw [List.getElem?_map, List.getElem?_range hj] at e
 exact Option.some.inj e
structure Mid (k : Nat) (a b : Nat → Nat) (w : World) (ba bb bw : Nat) (S m q cq O : Nat) (β : Nat → Nat) (A' : Act) (w' : World) : Prop where
 t9 : A'.tmps[9]? = some (.slice (some ⟨bw, 0, none⟩) 2 2)
 t16 : A'.tmps[16]? = some (.pointer (some ⟨S, 0, none⟩))
 t18 : A'.tmps[18]? = some (.pointer (some ⟨O, 0, none⟩))
 S : ∃ c, Pre w' S 109 (c * 16) (pS ++ [some (.pointer (some ⟨m, 0, none⟩))])
 m : ∃ c, Pre w' m 123 (c * 2) [some (.slice (some ⟨q, 0, none⟩) 65536 65536), some (.int .i64 ((1 : Nat) : Int))]
 O : ∃ c, Pre w' O 68 (c * 4) [some (.int .i64 ((0 : Nat) : Int)), none, none, some (.int .i64 ((43 : Nat) : Int))]
 bt : Bt w' q cq β
 lt : ∀ i, β i < 256
 lo : hN β 67 = rB k (bAB a b) 0
 hi : hN β 75 = rB k (bAB a b) 1
 keep : ∀ j, j < w.heap.size → j ≠ ba → j ≠ bb → w'.heap[j]? = w.heap[j]?
 size : w.heap.size ≤ w'.heap.size
 os : w'.os = w.os
 tape : w'.tape = w.tape
 output : w'.output = w.output
theorem okmid : mid3.all (okCode 144) = true := by kernel_rfl
def Vb (w : World) (g : Nat) (a : Nat → Nat) : Prop := ∃ arr, w.heap[g]? = some (.cells arr 23 (0, 0)) ∧ arr.size = 16 ∧ ∀ i, i < 16 → arr[i]? = some (.int .u8 ((a i : Nat) : Int))
theorem bytesF_get (a : Nat → Nat) (i : Nat) (c : CV) (h : (bytesF a)[i]? = some c) : i < 16 ∧ c = .fb idF a i := by
 unfold bytesF at h
 rw [List.getElem?_map] at h
 by_cases hi : i < 16
 ·rw [List.getElem?_range hi] at h
  exact ⟨hi, (Option.some.inj h).symm⟩
 ·rw [List.getElem?_eq_none (by simp; omega)] at h
  cases h
theorem list_wp2 {P : Program} {ty : Nat → Option TI} {call : CallF} {S nt : Nat} (X : OpCtx P ty call S) (hS : 0 < S) (hm : P.follows .mixedOrders = true) (hnt : nt ≤ 1000000) {lo hi f : Nat} {K : Code} {Q : Exit → Act → World → Prop} {KK : Act → World → Prop}
  (c : Code) (cs : List Code) (hKK : ∀ a w, (cs.foldr Code.seq K).wp P Q a w → KK a w) (t : T) (n : Nat) (h : H) (t' : T) (n' : Nat) (h' : H) (l : Log) (hn : lo ≤ n) (he : evList ty call S lo hi f (c :: cs) t n h = .ok ⟨.normal, t', n'⟩ h' l) (hok : ∀ d ∈ c :: cs, okCode nt d = true) (e : Env) (w : World) (a : Act) (hs : Sim e h w) (ht : TRel e t a) (hsz : nt ≤ a.tmps.size)
  (hK : ∀ e' w' a', Sim e' h' w' → TRel e' t' a' → Stp lo hi l.w e w e' w' → a'.tmps.size = a.tmps.size → a'.defers = a.defers → K.wp P Q a' w') : c.wp P (Exit.then KK Q) a w := by
 simp only [evList] at he
 unfold seqR at he
 split at he
 ·cases he
 ·rename_i s1 h1 l1 e1
  have hn1 := evCode_n _ _ _ _ _ _ _ _ e1
  obtain ⟨se, st, sn⟩ := s1
  refine (code_wp (nt := nt) X hS hm hnt f).1 c t n h _ h1 l1 hn e1 (hok c (List.mem_cons_self ..)) e w a hs ht hsz _ fun e' w' a' k1 k2 k3 k4 k5 => ?_
  cases se with
  | normal =>
   simp only at he
   split at he
   ·rename_i s2 h2 l2 e2
    cases he
    show KK a' w'
    refine hKK a' w' (list_wp X hS hm hnt cs st sn h1 t' n' h' l2 (Nat.le_trans hn hn1) e2 (fun d hd => hok d (List.mem_cons_of_mem _ hd)) e' w' a' k1 k2 (by omega) fun e2 w2 a2 q1 q2 q3 q4 q5 => ?_)
    refine hK e2 w2 a2 q1 q2 ?_ (by omega) (by rw [q5, k5])
    refine Stp.trans (k3.wide fun i hi => ?_) (q3.wide fun i hi => ?_)
    ·exact hi.imp (fun x => mem_union.2 (.inr x)) (fun x => x)
    ·exact hi.imp (fun x => mem_union.2 (.inl x)) (fun x => x)
   ·cases he
  | ret => cases he
  | exit j => cases he
theorem mid_wp {k : Nat} (hk : k ∈ kA) {a b : Nat → Nat} (ha : ∀ i, i < 16 → a i < 256) (hb : ∀ i, i < 16 → b i < 256) (hev : outA (evA k a b) = expA k a b) {ba bb bw : Nat} {A : Act} {w : World} (hA : Vb w ba a) (hB : Vb w bb b) (hne : ba ≠ bb) (hbw : bw < w.heap.size) (sz : A.tmps.size = 144)
  (t0 : A.tmps[0]? = some (.int .i64 ((64768 + k : Nat) : Int))) (t4 : A.tmps[4]? = some (.pointer (some ⟨ba, 0, none⟩))) (t5 : A.tmps[5]? = some (.pointer (some ⟨bb, 0, none⟩))) (t9 : A.tmps[9]? = some (.slice (some ⟨bw, 0, none⟩) 2 2)) {c9 c10 : Code} {Q : Exit → Act → World → Prop} {KK : Act → World → Prop} (h9 : c9 = headC (tail c3 7)) (h10 : c10 = (mid3.drop 1).foldr Code.seq (tail c3 17)) (hKK : ∀ a w, c10.wp Tryz.prog Q a w → KK a w)
  (hQ : ∀ (S m q cq O : Nat) (β : Nat → Nat) (A' : Act) (w' : World), A'.tmps.size = 144 → A'.defers = A.defers → Mid k a b w ba bb bw S m q cq O β A' w' → (tail c3 17).wp Tryz.prog Q A' w') : c9.wp Tryz.prog (Exit.then KK Q) A w := by
 subst h9 h10
 unfold outA expA at hev
 split at hev
 ·rename_i t n h rd ws hev1
  split at hev
  ·rename_i c9 iS iO g9 g16 g18
   split at hev
   ·rename_i rS rO gS gO
    split at hev
    ·rename_i rm gm
     split at hev
     ·rename_i rQ gQ
      obtain ⟨hB1, hL⟩ := Prod.mk.inj (Option.some.inj hev)
      simp only [Bool.and_eq_true] at hB1
      obtain ⟨⟨⟨⟨⟨⟨⟨⟨⟨⟨⟨⟨b0, b1⟩, b2⟩, b3⟩, b4⟩, b5⟩, b6⟩, b7⟩, b8⟩, b9⟩, b10⟩, b11⟩, b12⟩ := hB1
      have n3 : 3 ∉ ws := fun hm => by
       rw [(memB_iff 3 ws).2 hm] at b0
       cases b0
      have c9e := isSk_spec b1
      rw [Nat.eq_of_beq_eq_true b2] at c9e
      have o0 := isJ_spec b4
      have o3 := isJ_spec b5
      have s15 := isPt_spec b7
      have m0 := isSk_spec b9
      have m1 := isJ_spec b10
      let e0 : Env := fun n => if n = 1 then some (ba, 1) else if n = 2 then some (bb, 1) else if n = 3 then some (bw, 1) else none
      have e0n : ∀ id, id ≠ 1 → id ≠ 2 → id ≠ 3 → e0 id = none := fun id q1 q2 q3 => by show (if id = 1 then _ else if id = 2 then _ else if id = 3 then _ else none) = none; rw [if_neg q1, if_neg q2, if_neg q3]
      have vrow : ∀ (id g : Nat) (f : Nat → Nat), e0 id = some (g, 1) → Vb w g f → (∀ i, i < 16 → f i < 256) → RowOK e0 id (rowOf (bytesF f) 23 16) w := by
       intro id g f he ⟨arr, x1, x2, x3⟩ hf
       refine rowOf_ok (b := g) (c := 1) he x1 (by rw [x2]) (by rw [x2]; simp [bytesF]) (by simp [bytesF]) fun i c hc => ?_
       obtain ⟨hi, rfl⟩ := bytesF_get f i c hc
       exact ⟨_, x3 i hi, rfl, hf i hi⟩
      have hrow : ∀ x ∈ rm7 a b, RowOK e0 x.1 x.2 w := fun x hx => by
       unfold rm7 at hx
       simp only [List.mem_cons, List.not_mem_nil, or_false] at hx
       rcases hx with rfl | rfl | rfl
       ·exact vrow 1 ba a rfl hA ha
       ·exact vrow 2 bb b rfl hB hb
       ·exact ⟨⟨bw, 1, rfl, hbw⟩, fun hq => by cases hq⟩
      have hsim : Sim e0 (hOf (rm7 a b)) w := by
       refine sim_list _ (fun id hid => ?_) hrow ?_
       ·exact e0n id (fun q => hid _ (List.mem_cons_self ..) q.symm) (fun q => hid _ (List.mem_cons_of_mem _ (List.mem_cons_self ..)) q.symm) (fun q => hid _ (List.mem_cons_of_mem _ (List.mem_cons_of_mem _ (List.mem_cons_self ..))) q.symm)
       ·intro x hx y hy kx ky B c c' q1 q2
        unfold rm7 at hx hy
        simp only [List.mem_cons, List.not_mem_nil, or_false] at hx hy
        rcases hx with rfl | rfl | rfl
        ·rcases hy with rfl | rfl | rfl
         ·rfl
         ·exfalso
          have q1 : some (ba, 1) = some (B, c) := q1
          have q2 : some (bb, 1) = some (B, c') := q2
          cases q1
          cases q2
          exact hne rfl
         ·cases ky
        ·rcases hy with rfl | rfl | rfl
         ·exfalso
          have q1 : some (bb, 1) = some (B, c) := q1
          have q2 : some (ba, 1) = some (B, c') := q2
          cases q1
          cases q2
          exact hne rfl
         ·rfl
         ·cases ky
        ·cases kx
      have htr : TRel e0 (tm7 k) A := by
       refine ⟨fun j v hv => ?_⟩
       unfold tm7 at hv
       rcases Tr.get_set_some _ _ _ _ _ hv with ⟨rfl, rfl⟩ | ⟨_, hv⟩
       ·exact ⟨_, t9, bw, 1, rfl, rfl⟩
       rcases Tr.get_set_some _ _ _ _ _ hv with ⟨rfl, rfl⟩ | ⟨_, hv⟩
       ·exact ⟨_, t5, bb, 1, rfl, rfl⟩
       rcases Tr.get_set_some _ _ _ _ _ hv with ⟨rfl, rfl⟩ | ⟨_, hv⟩
       ·exact ⟨_, t4, ba, 1, rfl, rfl⟩
       rcases Tr.get_set_some _ _ _ _ _ hv with ⟨rfl, rfl⟩ | ⟨_, hv⟩
       ·exact ⟨_, t0, rfl⟩
       ·cases hv
      refine list_wp2 (nt := 144) (opctx (runTab_ok hk) 5000 17) (pow_pos 17) mixed_ok (by omega) (headC (tail c3 7)) (mid3.drop 1) hKK (tm7 k) 1000 (hOf (rm7 a b)) _ _ h _ (Nat.le_refl _) hev1 (fun c hc => List.all_eq_true.1 okmid c hc) e0 w A hsim htr (by omega) fun e' w' A' s1 s2 s3 s4 s5 => ?_
      obtain ⟨v9, v9a, v9b⟩ := s2.tmp 9 _ g9
      obtain ⟨v16, v16a, v16b⟩ := s2.tmp 16 _ g16
      obtain ⟨v18, v18a, v18b⟩ := s2.tmp 18 _ g18
      obtain ⟨bS, cS, aS, eS, kS⟩ := okN_row b6 gS s1
      obtain ⟨bO, cO, aO, eO, kO⟩ := okN_row b3 gO s1
      obtain ⟨bm, cm, am, em, km⟩ := okN_row b8 gm s1
      have hQ0 := b11
      unfold chkQ at hQ0
      simp only [Bool.and_eq_true] at hQ0
      obtain ⟨bQ, cQ, aQ, eQ, kQ⟩ := okN_row hQ0.1.1.1 gQ s1
      obtain ⟨lS1, lS2, lS3, lS4⟩ := okN_spec b6
      obtain ⟨lO1, lO2, lO3, lO4⟩ := okN_spec b3
      obtain ⟨lm1, lm2, lm3, lm4⟩ := okN_spec b8
      obtain ⟨lQ1, lQ2, lQ3, lQ4⟩ := okN_spec hQ0.1.1.1
      have e3 : e' 3 = some (bw, 1) := s3.ext 3 _ rfl
      have hby := chkQ_spec b11
      have hcell : ∀ i, i < 65536 → aQ[i]? = some (.int .u8 ((valC (rQ.at i) : Nat) : Int)) ∧ valC (rQ.at i) < 256 := fun i hi => by
       obtain ⟨x, x1, x2⟩ := kQ.cell i (by omega)
       obtain ⟨y1, y2⟩ := isByt_rel (hby i) x2
       exact ⟨by rw [x1, y1], y2⟩
      have hval := seen_val b12 hL
      refine hQ bS bm bQ cQ bO (fun i => if i < 65536 then valC (rQ.at i) else 0) A' w' (by omega) s5 ⟨?_, ?_, ?_, ⟨cS, ?_⟩, ⟨cm, ?_⟩, ⟨cO, ?_⟩, ⟨aQ, lQ2 ▸ kQ.hb, by have := kQ.sz; rwa [lQ3, Nat.mul_one] at this, by show 65536 ≤ cQ; have := kQ.le; have := kQ.sz; rw [lQ3, Nat.mul_one] at this; omega, fun i hi => by show aQ[i]? = some (.int .u8 ((if i < 65536 then valC (rQ.at i) else 0 : Nat) : Int)); rw [if_pos hi]; exact (hcell i hi).1⟩, fun i => ?_, ?_, ?_, fun j hj ja jb => ?_, s3.size, s3.os, s3.tape, s3.output⟩
      ·rw [v9a]
       rw [c9e] at v9b
       obtain ⟨B, c, q1, rfl⟩ := v9b
       rw [e3] at q1
       cases q1
       rfl
      ·rw [v16a]
       obtain ⟨B, c, q1, rfl⟩ := v16b
       rw [eS] at q1
       cases q1
       rfl
      ·rw [v18a]
       obtain ⟨B, c, q1, rfl⟩ := v18b
       rw [eO] at q1
       cases q1
       rfl
      ·refine pre_of kS lS1 lS2 lS3 lS4 fun i y hi x hx => ?_
       match i, hi with
       | 0, hi => cases hi
       | 1, hi => cases hi
       | 2, hi => cases hi
       | 3, hi => cases hi
       | 4, hi => cases hi
       | 5, hi => cases hi
       | 6, hi => cases hi
       | 7, hi => cases hi
       | 8, hi => cases hi
       | 9, hi => cases hi
       | 10, hi => cases hi
       | 11, hi => cases hi
       | 12, hi => cases hi
       | 13, hi => cases hi
       | 14, hi => cases hi
       | 15, hi =>
        cases hi
        rw [s15] at hx
        obtain ⟨B, c, q1, rfl⟩ := hx
        rw [em] at q1
        cases q1
        rfl
      ·refine pre_of km lm1 lm2 lm3 lm4 fun i y hi x hx => ?_
       match i, hi with
       | 0, hi =>
        cases hi
        rw [m0] at hx
        obtain ⟨B, c, q1, rfl⟩ := hx
        rw [eQ] at q1
        cases q1
        rfl
       | 1, hi => cases hi; rw [m1] at hx; exact hx
      ·refine pre_of kO lO1 lO2 lO3 lO4 fun i y hi x hx => ?_
       match i, hi with
       | 0, hi => cases hi; rw [o0] at hx; exact hx
       | 1, hi => cases hi
       | 2, hi => cases hi
       | 3, hi => cases hi; rw [o3] at hx; exact hx
      ·show (if i < 65536 then valC (rQ.at i) else 0) < 256
       by_cases hi : i < 65536
       ·rw [if_pos hi]; exact (hcell i hi).2
       ·rw [if_neg hi]; decide
      ·rw [hN_ext (γ := runB k (bAB a b)) fun i hi => by show (if 67 + i < 65536 then valC (rQ.at (67 + i)) else 0) = _; rw [if_pos (by omega)]; exact hval i (by omega)]
       exact runB_0 (bAB_lt ha hb)
      ·rw [hN_ext (γ := runB k (bAB a b)) fun i hi => by
        show (if 75 + i < 65536 then valC (rQ.at (75 + i)) else 0) = _
        rw [if_pos (by omega)]
        have := hval (8 + i) (by omega)
        rwa [show 67 + (8 + i) = 75 + i by omega] at this]
       exact runB_1 (bAB_lt ha hb)
      ·refine s3.block j hj fun id hid c hc => ?_
       by_cases i1 : id = 1
       ·subst i1
        have hc : some (ba, 1) = some (j, c) := hc
        cases hc
        exact ja rfl
       by_cases i2 : id = 2
       ·subst i2
        have hc : some (bb, 1) = some (j, c) := hc
        cases hc
        exact jb rfl
       by_cases i3 : id = 3
       ·subst i3
        rcases hid with hid | hid
        ·exact n3 hid
        ·omega
       ·rw [e0n id i1 i2 i3] at hc; cases hc
     ·cases hev
    ·cases hev
   ·cases hev
  ·cases hev
 ·cases hev
end Ev
end
