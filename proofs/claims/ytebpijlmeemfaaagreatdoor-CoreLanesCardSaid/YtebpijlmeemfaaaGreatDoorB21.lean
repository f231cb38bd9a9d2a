/- A part of the proof that plaittop.CoreLanes returns true. -/
import Derived.Deep.MidRow
import Derived.Great.Frames
import Derived.Test.YtebpijlmeemfaaaGreatDoorA01
import Derived.Test.YtebpijlmeemfaaaGreatDoorB20
set_option linter.all false
set_option linter.unusedSectionVars false
set_option linter.unusedSimpArgs false
set_option linter.unusedVariables false
section
set_option maxRecDepth 100000
namespace Ev
open Go Go.Proofs
noncomputable def c43 : Code := Tryz.f43.body.getD .skip
noncomputable def h7 (m : Nat) : H := hOf [(2, rowOf [] 140 5), (3, rowOf [.any, .any, .any, .any, i64c m] 100 7)]
noncomputable def z7 (c : CV) : Bool := match c with | .int .u64 (.ofNat 0) => true | _ => false
noncomputable def allZ (l : List CV) : Bool := List.rec (motive := fun _ => Bool) true (fun x _ ih => Bool.rec (motive := fun _ => Bool) false ih (z7 x)) l
theorem opctx {P : Program} {ty : Nat → Option TI} {fns : Nat → Option (Code × List ResultVar)} {ext : Nat → List PV → Option (Nat → M AV)} (T0 : TabOK P ty fns ext) (fuel d : Nat) : OpCtx P ty (evCall ty fns ext fuel d) (2 ^ (24 * d)) := by
 refine ⟨evCall_ok T0 fuel d, T0.hty, fun f => ?_⟩
 cases hf : fns f with
 | none =>
  left
  intro args lo h
  cases d with
  | zero => rfl
  | succ d =>
   simp only [evCall]
   cases he : ext f args with
   | some g =>
    obtain ⟨c, rs, h1⟩ := T0.extf f args g he
    rw [hf] at h1; cases h1
   | none => simp only [hf]
 | some y =>
  right
  obtain ⟨c, rs⟩ := y
  obtain ⟨fn, h1, h2, h3, h4, h5, h6⟩ := T0.fn f c rs hf
  exact ⟨fn, h1, by rw [h2]; rfl, h6⟩
theorem allZ_spec : ∀ {l : List CV}, allZ l = true → ∀ c ∈ l, c = .int .u64 (.ofNat 0)
 | [], _, c, hc => by cases hc
 | x :: l, h, c, hc => by
  have e : allZ (x :: l) = Bool.rec (motive := fun _ => Bool) false (allZ l) (z7 x) := rfl
  rw [e] at h
  cases hz : z7 x with
  | false => rw [hz] at h; cases h
  | true =>
   rw [hz] at h
   rcases List.mem_cons.1 hc with rfl | hc
   ·unfold z7 at hz
    split at hz
    ·rfl
    ·cases hz
   ·exact allZ_spec h c hc
end Ev
end
section
set_option maxRecDepth 100000
namespace Ev
open Go Go.Proofs
theorem list_wp {P : Program} {ty : Nat → Option TI} {call : CallF} {S nt : Nat} (X : OpCtx P ty call S) (hS : 0 < S) (hm : P.follows .mixedOrders = true) (hnt : nt ≤ 1000000) {lo hi f : Nat} {K : Code} {Q : Exit → Act → World → Prop} :
  ∀ (cs : List Code) (t : T) (n : Nat) (h : H) (t' : T) (n' : Nat) (h' : H) (l : Log), lo ≤ n → evList ty call S lo hi f cs t n h = .ok ⟨.normal, t', n'⟩ h' l → (∀ c ∈ cs, okCode nt c = true) → ∀ (e : Env) (w : World) (a : Act), Sim e h w → TRel e t a → nt ≤ a.tmps.size →
  (∀ e' w' a', Sim e' h' w' → TRel e' t' a' → Stp lo hi l.w e w e' w' → a'.tmps.size = a.tmps.size → a'.defers = a.defers → K.wp P Q a' w') → (cs.foldr Code.seq K).wp P Q a w
 | [], t, n, h, t', n', h', l, hn, he, hok, e, w, a, hs, ht, hsz, hK => by
  cases he
  exact hK e w a hs ht (.refl _ _ _ _ _) rfl rfl
 | c :: cs, t, n, h, t', n', h', l, hn, he, hok, e, w, a, hs, ht, hsz, hK => by
  simp only [evList] at he
  unfold seqR at he
  split at he
  ·cases he
  ·rename_i s1 h1 l1 e1
   have hn1 := evCode_n _ _ _ _ _ _ _ _ e1
   obtain ⟨se, st, sn⟩ := s1
   refine wp_seq ((code_wp (nt := nt) X hS hm hnt f).1 c t n h _ h1 l1 hn e1 (hok c (List.mem_cons_self ..)) e w a hs ht hsz _ fun e' w' a' k1 k2 k3 k4 k5 => ?_)
   cases se with
   | normal =>
    simp only at he
    split at he
    ·rename_i s2 h2 l2 e2
     cases he
     refine list_wp X hS hm hnt cs st sn h1 t' n' h' l2 (Nat.le_trans hn hn1) e2 (fun c hc => hok c (List.mem_cons_of_mem _ hc)) e' w' a' k1 k2 (by omega) fun e2 w2 a2 q1 q2 q3 q4 q5 => ?_
     refine hK e2 w2 a2 q1 q2 ?_ (by omega) (by rw [q5, k5])
     refine Stp.trans (k3.wide fun i hi => ?_) (q3.wide fun i hi => ?_)
     ·exact hi.imp (fun x => mem_union.2 (.inr x)) (fun x => x)
     ·exact hi.imp (fun x => mem_union.2 (.inl x)) (fun x => x)
    ·cases he
   | ret => cases he
   | exit j => cases he
noncomputable def pre43 : List Code := (List.range 6).map fun i => headC (tail c43 i)
theorem c43_eq : c43 = pre43.foldr Code.seq (tail c43 6) := by kernel_rfl
theorem pre43_ok : pre43.all (okCode 101) = true := by kernel_rfl
noncomputable def t8 : T := Tr.set (Tr.set (Tr.set .nil 0 (.p (.one (.ptr 2 0)))) 1 (.p (.one (i64c 0)))) 2 (.p (.one .snil))
noncomputable def rows8 (m : Nat) : List (Nat × Row) := [(2, rowOf [.ptr 6 0, i64c 50, i64c 0, i64c 0, i64c 0] 140 5), (3, rowOf [.int .i64 (.negSucc 0), .any, .any, .any, i64c m] 100 7), (6, rowOf [.any, .sl 3 0 1 (.minus 0)] 127 16)]
noncomputable def ev8 (m : Nat) : R CSt := evList ty2 (evCall ty2 fns2 rnExt 5000 4) (2 ^ 96) 1000 (2 ^ 200) 50 pre43 t8 1000 (hOf (rows8 m))
noncomputable def ok8 (m : Nat) : Bool :=
 match ev8 m with
 | .ok ⟨.normal, t, _⟩ h ⟨_, [2]⟩ => (match Tr.get t 0, Tr.get t 7, Tr.get t 8, h.find 2 with
  | some (.p (.one p0)), some (.p (.one p7)), some (.p (.one (.ptr i 0))), some r2 => (match h.find i with
   | some r1 => (match r1.at 3, r1.at 4 with
    | .snil, .sl j 0 n (.minus 0) => (match h.find j with
     | some r5 => isP p0 2 && isP p7 3 && okRow r1 242 5 && Nat.beq r1.n 5 && isP (r1.at 0) 2 && isP (r1.at 1) 3 && isJ (r1.at 2) 0 && Nat.beq n m && okRow r5 26 1 && Nat.beq r5.n m && allZ (r5.cells m 0) && Nat.ble 1000 i && Nat.ble 1000 j && okRow r2 140 5 && Nat.beq r2.n 5 && isP (r2.at 0) 6 && isJ (r2.at 1) 50 && isJ (r2.at 2) 0 && isJ (r2.at 3) 1 && isJ (r2.at 4) 0
     | none => false)
    | _, _ => false)
   | none => false)
  | _, _, _, _ => false)
 | _ => false
theorem ok8_all : mS.all ok8 = true := by kernel_rfl
theorem RowC.cells5 {e : Env} {id : Nat} {r : Row} {w : World} {b c : Nat} {arr : Array Value} {fr : Nat × Nat} (hc : RowC e id r w b c arr fr) (hn : r.n = 5) : ∀ k, k < 5 → ∃ x, arr[k]? = some x ∧ (r.at k).rel e x := fun k hk => hc.cell k (by rw [hn]; exact hk)
theorem pre_wp {f : FB} {m X N cX cf : Nat} (hm : m ∈ mS) {a : Act} {w : World} (hsz : a.tmps.size = 101) (h0 : a.tmps[0]? = some (.pointer (some ⟨f.R, 0, none⟩))) (h1 : a.tmps[1]? = some (.int .i64 ((0 : Nat) : Int))) (h2 : a.tmps[2]? = some (.slice none 0 0))
  (hN : Pre w f.N 100 (f.cN * 7) [some (.int .i64 (-1)), none, none, some (.int .i64 0), some (.int .i64 (m : Int)), some (.slice (some ⟨X, 0, none⟩) N cX)]) (hM : Pre w f.M 127 (f.cM * 16) [none, some (.slice (some ⟨f.N, 0, none⟩) 1 f.cN), some (.pointer (some ⟨f.S, 0, none⟩))])
  (hR : w.heap[f.R]? = some (.cells #[.pointer (some ⟨f.M, 0, none⟩), .int .i64 ((50 : Nat) : Int), .int .i64 ((0 : Nat) : Int), .int .i64 ((0 : Nat) : Int), .int .i64 ((0 : Nat) : Int)] 140 (0, 0))) {K : Code} {Q : Exit → Act → World → Prop}
  (hQ : ∀ (a' : Act) (w' : World) (F cF bl cl : Nat), a'.tmps.size = 101 → a'.defers = a.defers → a'.tmps[0]? = some (.pointer (some ⟨f.R, 0, none⟩)) → a'.tmps[7]? = some (.pointer (some ⟨f.N, 0, none⟩)) → a'.tmps[8]? = some (.pointer (some ⟨F, 0, none⟩)) →
   Fr5 w' F cF (.pointer (some ⟨f.R, 0, none⟩)) (.pointer (some ⟨f.N, 0, none⟩)) (.int .i64 ((0 : Nat) : Int)) (.slice none 0 0) (.slice (some ⟨bl, 0, none⟩) m cl) → Rw w' bl cl (zeros m) → w.heap.size ≤ F → w.heap.size ≤ bl →
   w'.heap[f.R]? = some (.cells #[.pointer (some ⟨f.M, 0, none⟩), .int .i64 ((50 : Nat) : Int), .int .i64 ((0 : Nat) : Int), .int .i64 ((1 : Nat) : Int), .int .i64 ((0 : Nat) : Int)] 140 (0, 0)) →
   (∀ k, k < w.heap.size → k ≠ f.R → w'.heap[k]? = w.heap[k]?) → w.heap.size ≤ w'.heap.size → w'.os = w.os → w'.tape = w.tape → w'.output = w.output → K.wp Tryz.prog Q a' w') : (pre43.foldr Code.seq K).wp Tryz.prog Q a w := by
 have hok := List.all_eq_true.1 ok8_all m hm
 unfold ok8 at hok
 split at hok
 ·rename_i t n h r hev
  split at hok
  ·rename_i p0 p7 i r2 g0 g7 g8 hr2
   split at hok
   ·rename_i r1 hr1
    split at hok
    ·rename_i j n2 q3 q4
     split at hok
     ·rename_i r5 hr5
      simp only [Bool.and_eq_true] at hok
      obtain ⟨⟨⟨⟨⟨⟨⟨⟨⟨⟨⟨⟨⟨⟨⟨⟨⟨⟨⟨b1, b2⟩, b3⟩, b4⟩, b5⟩, b6⟩, b7⟩, b8⟩, b9⟩, b10⟩, b11⟩, b12⟩, b13⟩, d1⟩, d2⟩, d3⟩, d4⟩, d5⟩, d6⟩, d7⟩ := hok
      rw [isP_spec b1] at g0
      rw [isP_spec b2] at g7
      have k1 := okRow_spec b3
      have n1 := Nat.eq_of_beq_eq_true b4
      have a0 := isP_spec b5
      have a1 := isP_spec b6
      have a2 := isJ_spec b7
      have hn2 := Nat.eq_of_beq_eq_true b8
      have k5 := okRow_spec b9
      have n5 := Nat.eq_of_beq_eq_true b10
      have hz := allZ_spec b11
      have hi := Nat.le_of_ble_eq_true b12
      have hj := Nat.le_of_ble_eq_true b13
      have kr := okRow_spec d1
      have nr := Nat.eq_of_beq_eq_true d2
      have c0 := isP_spec d3
      have c1' := isJ_spec d4
      have c2 := isJ_spec d5
      have c3 := isJ_spec d6
      have c4 := isJ_spec d7
      let e0 : Env := fun n => if n = 2 then some (f.R, 1) else if n = 3 then some (f.N, f.cN) else if n = 6 then some (f.M, f.cM) else none
      have e0n : ∀ id, id ≠ 2 → id ≠ 3 → id ≠ 6 → e0 id = none := fun id q1 q2 q3 => by show (if id = 2 then _ else if id = 3 then _ else if id = 6 then _ else none) = none; rw [if_neg q1, if_neg q2, if_neg q3]
      have hrow : ∀ x ∈ rows8 m, RowOK e0 x.1 x.2 w := fun x hx => by
       unfold rows8 at hx
       simp only [List.mem_cons, List.not_mem_nil, or_false] at hx
       rcases hx with rfl | rfl | rfl
       ·refine rowOf_ok (b := f.R) (c := 1) rfl hR rfl (by simp) (by simp) fun i c hc => ?_
        match i, hc with
        | 0, hc => cases hc; exact ⟨_, rfl, f.M, f.cM, rfl, rfl⟩
        | 1, hc => cases hc; exact ⟨_, rfl, rfl⟩
        | 2, hc => cases hc; exact ⟨_, rfl, rfl⟩
        | 3, hc => cases hc; exact ⟨_, rfl, rfl⟩
        | 4, hc => cases hc; exact ⟨_, rfl, rfl⟩
       ·obtain ⟨arr, x1, x2, x3, x4⟩ := hN
        refine rowOf_ok (b := f.N) (c := f.cN) rfl x1 (by rw [x2]) (by rw [x2]; exact Nat.le_trans (by simp) x3) (by simp) fun i c hc => ?_
        match i, hc with
        | 0, hc => cases hc; obtain ⟨y, y1, y2, y3⟩ := x4 0 _ rfl; exact ⟨y, y1, y3 _ rfl⟩
        | 1, hc => cases hc; obtain ⟨y, y1, y2, y3⟩ := x4 1 _ rfl; exact ⟨y, y1, y2⟩
        | 2, hc => cases hc; obtain ⟨y, y1, y2, y3⟩ := x4 2 _ rfl; exact ⟨y, y1, y2⟩
        | 3, hc => cases hc; obtain ⟨y, y1, y2, y3⟩ := x4 3 _ rfl; exact ⟨y, y1, y2⟩
        | 4, hc => cases hc; obtain ⟨y, y1, y2, y3⟩ := x4 4 _ rfl; exact ⟨y, y1, y3 _ rfl⟩
       ·obtain ⟨arr, x1, x2, x3, x4⟩ := hM
        refine rowOf_ok (b := f.M) (c := f.cM) rfl x1 (by rw [x2]) (by rw [x2]; exact Nat.le_trans (by simp) x3) (by simp) fun i c hc => ?_
        match i, hc with
        | 0, hc => cases hc; obtain ⟨y, y1, y2, y3⟩ := x4 0 _ rfl; exact ⟨y, y1, y2⟩
        | 1, hc => cases hc; obtain ⟨y, y1, y2, y3⟩ := x4 1 _ rfl; exact ⟨y, y1, f.N, f.cN, rfl, y3 _ rfl⟩
      have hsim : Sim e0 (hOf (rows8 m)) w := by
       refine sim_list _ (fun id hid => ?_) hrow ?_
       ·exact e0n id (fun q => hid _ (List.mem_cons_self ..) q.symm) (fun q => hid _ (List.mem_cons_of_mem _ (List.mem_cons_self ..)) q.symm) (fun q => hid _ (List.mem_cons_of_mem _ (List.mem_cons_of_mem _ (List.mem_cons_self ..))) q.symm)
       ·intro x hx y hy hkx hky b c c' q1 q2
        obtain ⟨A1, f1, z1⟩ := rowC_elem (hrow x hx) hkx q1
        obtain ⟨A2, f2, z2⟩ := rowC_elem (hrow y hy) hky q2
        have hel : x.2.elem = y.2.elem := by rw [z1] at z2; injection (Option.some.inj z2)
        unfold rows8 at hx hy
        simp only [List.mem_cons, List.not_mem_nil, or_false] at hx hy
        rcases hx with rfl | rfl | rfl <;> rcases hy with rfl | rfl | rfl <;> first | rfl | (simp [rowOf] at hel)
      have htr : TRel e0 t8 a := by
       refine ⟨fun k v hv => ?_⟩
       unfold t8 at hv
       rcases Tr.get_set_some _ _ _ _ _ hv with ⟨rfl, rfl⟩ | ⟨_, hv⟩
       ·exact ⟨_, h2, rfl⟩
       rcases Tr.get_set_some _ _ _ _ _ hv with ⟨rfl, rfl⟩ | ⟨_, hv⟩
       ·exact ⟨_, h1, rfl⟩
       rcases Tr.get_set_some _ _ _ _ _ hv with ⟨rfl, rfl⟩ | ⟨_, hv⟩
       ·exact ⟨_, h0, f.R, 1, rfl, rfl⟩
       ·cases hv
      refine list_wp (nt := 101) (opctx rnTab_ok 5000 4) (pow_pos 4) mixed_ok (by omega) pre43 t8 1000 (hOf (rows8 m)) _ _ h _ (Nat.le_refl _) hev (fun c hc => List.all_eq_true.1 pre43_ok c hc) e0 w a hsim htr (by omega) fun e' w' a' s1 s2 s3 s4 s5 => ?_
      obtain ⟨v0, v0a, v0b⟩ := s2.tmp 0 _ g0
      obtain ⟨v7, v7a, v7b⟩ := s2.tmp 7 _ g7
      obtain ⟨v8, v8a, v8b⟩ := s2.tmp 8 _ g8
      have e2 : e' 2 = some (f.R, 1) := s3.ext 2 _ rfl
      have e3 : e' 3 = some (f.N, f.cN) := s3.ext 3 _ rfl
      have e6 : e' 6 = some (f.M, f.cM) := s3.ext 6 _ rfl
      obtain ⟨_, _, z0, rfl⟩ := v0b
      rw [e2] at z0; cases z0
      obtain ⟨_, _, z7, rfl⟩ := v7b
      rw [e3] at z7; cases z7
      obtain ⟨F, c1, z8, rfl⟩ := v8b
      obtain ⟨b1', _, arr1, fr1, hc1⟩ := (s1.row i r1 hr1).row (by rw [k1.1]; rfl)
      obtain ⟨b5', c5', arr5', fr5, hc5⟩ := (s1.row j r5 hr5).row (by rw [k5.1]; rfl)
      obtain ⟨b2', _, arr2, fr2, hc2⟩ := (s1.row 2 r2 hr2).row (by rw [kr.1]; rfl)
      have y1 := hc1.he; rw [z8] at y1; cases y1
      have y2 := hc2.he; rw [e2] at y2; cases y2
      have fz1 := hc1.fz k1.1; subst fz1
      have fz5 := hc5.fz k5.1; subst fz5
      have fz2 := hc2.fz kr.1; subst fz2
      have hsz1 := hc1.sz; rw [k1.2.2] at hsz1
      have hsz5 := hc5.sz; rw [k5.2.2, Nat.mul_one] at hsz5
      have hsz2 := hc2.sz; rw [kr.2.2, Nat.one_mul] at hsz2
      have hb1 := hc1.hb; rw [k1.2.1] at hb1
      have hb5 := hc5.hb; rw [k5.2.1] at hb5
      have hb2 := hc2.hb; rw [kr.2.1] at hb2
      have new : ∀ id b c, 1000 ≤ id → e' id = some (b, c) → b ≠ f.R → w.heap.size ≤ b := fun id b c hid he hbR => by
       rcases s3.new id b c (e0n id (by omega) (by omega) (by omega)) he with q | ⟨k, hk, c3, q⟩
       ·exact q
       ·rcases hk with hk | hk
        ·have : k = 2 := List.mem_singleton.1 hk
         subst this
         have q : some (f.R, 1) = some (b, c3) := q
         cases q
         exact absurd rfl hbR
        ·rw [e0n k (by omega) (by omega) (by omega)] at q; cases q
      have stay : ∀ k, k < w.heap.size → k ≠ f.R → w'.heap[k]? = w.heap[k]? := fun k hk hkR => s3.block k hk fun id hid c hh => by
       rcases hid with hid | hid
       ·have : id = 2 := List.mem_singleton.1 hid
        subst this
        have hh : some (f.R, 1) = some (k, c) := hh
        cases hh
        exact hkR rfl
       ·rw [e0n id (by omega) (by omega) (by omega)] at hh; cases hh
      obtain ⟨x0, x0a, x0b⟩ := hc1.cells5 n1 0 (by omega)
      obtain ⟨x1, x1a, x1b⟩ := hc1.cells5 n1 1 (by omega)
      obtain ⟨x2, x2a, x2b⟩ := hc1.cells5 n1 2 (by omega)
      obtain ⟨x3, x3a, x3b⟩ := hc1.cells5 n1 3 (by omega)
      obtain ⟨x4, x4a, x4b⟩ := hc1.cells5 n1 4 (by omega)
      obtain ⟨w0, w0a, w0b⟩ := hc2.cells5 nr 0 (by omega)
      obtain ⟨w1, w1a, w1b⟩ := hc2.cells5 nr 1 (by omega)
      obtain ⟨w2, w2a, w2b⟩ := hc2.cells5 nr 2 (by omega)
      obtain ⟨w3, w3a, w3b⟩ := hc2.cells5 nr 3 (by omega)
      obtain ⟨w4, w4a, w4b⟩ := hc2.cells5 nr 4 (by omega)
      rw [a0] at x0b
      rw [a1] at x1b
      rw [a2] at x2b
      rw [q3] at x3b
      rw [q4] at x4b
      rw [c0] at w0b
      rw [c1'] at w1b
      rw [c2] at w2b
      rw [c3] at w3b
      rw [c4] at w4b
      obtain ⟨_, _, p0', rfl⟩ := x0b
      rw [e2] at p0'; cases p0'
      obtain ⟨_, _, p1', rfl⟩ := x1b
      rw [e3] at p1'; cases p1'
      obtain ⟨_, _, p6', rfl⟩ := w0b
      rw [e6] at p6'; cases p6'
      have x2b : x2 = _ := x2b
      have x3b : x3 = _ := x3b
      have w1b : w1 = _ := w1b
      have w2b : w2 = _ := w2b
      have w3b : w3 = _ := w3b
      have w4b : w4 = _ := w4b
      subst x2b x3b w1b w2b w3b w4b
      obtain ⟨_, _, p4', rfl⟩ := x4b
      rw [hc5.he] at p4'; cases p4'
      subst hn2
      have hFR : F ≠ f.R := fun q => by rw [q, hb2] at hb1; injection (Option.some.inj hb1) with _ q2; cases q2
      have hbR : b5' ≠ f.R := fun q => by rw [q, hb2] at hb5; injection (Option.some.inj hb5) with _ q2; cases q2
      refine hQ a' w' F c1 b5' c5' (by omega) s5 v0a v7a v8a ⟨arr1, hb1, hsz1, by have := hc1.le; rw [n1] at this; exact this, x0a, x1a, x2a, x3a, x4a⟩ ⟨arr5', hb5, hsz5, ?_, fun k x hx => ?_⟩ (new i F c1 hi z8 hFR) (new j b5' c5' hj hc5.he hbR) ?_ stay s3.size s3.os s3.tape s3.output
      ·have := hc5.le
       have hzl : (zeros n2).length = n2 := by simp [zeros]
       omega
      ·have hk : k < n2 := by have := (List.getElem?_eq_some_iff.1 hx).1; simpa [zeros] using this
       have hxz : x = 0 := by
        unfold zeros at hx
        rw [List.getElem?_replicate, if_pos hk] at hx
        exact (Option.some.inj hx).symm
       subst hxz
       obtain ⟨v, v1, v2⟩ := hc5.cell k (by omega)
       have hcz := hz (r5.at k) (List.mem_of_getElem? (i := k) (by rw [cells_get, if_pos hk, Nat.zero_add]))
       rw [hcz] at v2
       rw [v1, show v = _ from v2]
       rfl
      ·rw [hb2, arr5 hsz2 w0a w1a w2a w3a w4a]
       rfl
     ·cases hok
    ·cases hok
   ·cases hok
  ·cases hok
 ·cases hok
end Ev
end
section
set_option maxRecDepth 100000
namespace Ev
open Go Go.Proofs
noncomputable def bodyL : Code → Code
 | .block _ (.loop b) => b
 | c => c
noncomputable def bodyB : Code → Code
 | .block _ b => b
 | c => c
noncomputable def tailC : Code → Code
 | .seq _ b => b
 | c => c
noncomputable def condB : Code → Code
 | .cond _ a _ => a
 | c => c
noncomputable def LB : Code := bodyL (headC (tail c43 6))
noncomputable def A9 : Code := headC LB
noncomputable def B1 : Code := bodyB (tailC LB)
noncomputable def R10 : Code := headC (headC B1)
noncomputable def B10 : Code := condB (tailC (headC B1))
noncomputable def R12 : Code := tailC B1
noncomputable def E43 : Code := tail c43 7
theorem tail_eq : tail c43 6 = .seq (.block 0 (.loop LB)) E43 := by kernel_rfl
theorem LB_eq : LB = .seq A9 (.block 1 (.seq (.seq R10 (.cond (.tmp 74) B10 .skip)) R12)) := by kernel_rfl
noncomputable def t9 : T := Tr.set (Tr.set (Tr.set .nil 0 (.p (.one (.ptr 2 0)))) 7 (.p (.one (.ptr 3 0)))) 8 (.p (.one (.ptr 1 0)))
noncomputable def rows9 (c : CV) (N k : Nat) : List (Nat × Row) := [(1, rowOf [.any, .any, c] 242 5), (2, rowOf [.any, .any, .any, .any, i64c 0] 140 5), (3, rowOf [.any, .any, .any, .any, .any, .sl 10 0 N (.known k)] 100 7), (10, rowOf [] 133 3)]
noncomputable def exN : Ex → Nat
 | .normal => 0
 | .ret => 1
 | .exit n => n + 2
noncomputable def out9 (r : R CSt) (k : Nat) : Option (Nat × Option AV × Option AV × Option AV × Option AV × List Nat) := match r with
 | .ok ⟨e, t, _⟩ h l => some (exN e, Tr.get t 0, Tr.get t 7, Tr.get t 8, Tr.get t k, l.w)
 | .no => none
noncomputable def ev9 (c : Code) (x : CV) (N k : Nat) : R CSt := evCode ty2 (evCall ty2 fns2 rnExt 5000 4) (2 ^ 96) 1000 (2 ^ 200) 50 c t9 1000 (hOf (rows9 x N k))
theorem run9 (j N k : Nat) : out9 (ev9 A9 (i64c j) N k) 8 = some (0, some (.p (.one (.ptr 2 0))), some (.p (.one (.ptr 3 0))), some (.p (.one (.ptr 1 0))), some (.p (.one (.ptr 1 0))), []) := by kernel_rfl
theorem run9x (N k : Nat) : out9 (ev9 A9 (.int .i64 (.negSucc 0)) N k) 8 = some (2, some (.p (.one (.ptr 2 0))), some (.p (.one (.ptr 3 0))), some (.p (.one (.ptr 1 0))), some (.p (.one (.ptr 1 0))), []) := by kernel_rfl
theorem run10 (j N k : Nat) : out9 (ev9 R10 (i64c j) N k) 74 = some (0, some (.p (.one (.ptr 2 0))), some (.p (.one (.ptr 3 0))), some (.p (.one (.ptr 1 0))), some (.p (.one (.bool (decide (Int.ofNat j ≥ Int.ofNat N))))), []) := by kernel_rfl
theorem ok9 : okCode 101 A9 = true := by kernel_rfl
theorem ok10 : okCode 101 R10 = true := by kernel_rfl
end Ev
end
section
set_option maxRecDepth 100000
namespace Ev
open Go Go.Proofs
theorem IS.same {f : FB} {w0 w w' : World} {V L : List B64} {nil : Bool} {at_ : Int} {fuel : Nat} {β : Nat → Nat} (I : IS f w0 V L nil at_ fuel β w) (hb : ∀ k, k < w.heap.size → w'.heap[k]? = w.heap[k]?) (hs : w.heap.size ≤ w'.heap.size) (h1 : w'.os = w.os) (h2 : w'.tape = w.tape) (h3 : w'.output = w.output) : IS f w0 V L nil at_ fuel β w' := by
 have kp : ∀ {b : Nat} {o : Obj}, w.heap[b]? = some o → w'.heap[b]? = some o := fun h => (hb _ (blk_lt h)).trans h
 have rw1 : ∀ {b c : Nat} {l : List B64}, Rw w b c l → Rw w' b c l := fun ⟨arr, x1, x2⟩ => ⟨arr, kp x1, x2⟩
 obtain ⟨v, bl, cl, ⟨fa, f1, f2⟩, hl, hbl, hst⟩ := I.fr
 refine ⟨⟨v, bl, cl, ⟨fa, kp f1, f2⟩, rw1 hl, hbl, ?_⟩, kp I.run, ?_, ⟨?_, ?_, ?_, ?_⟩, fun k hk hq => (hb k (Nat.lt_of_lt_of_le hk I.size)).trans (I.keep k hk hq), Nat.le_trans I.size hs, h1.trans I.os, h2.trans I.tape, h3.trans I.output, I.new, I.old⟩
 ·rcases hst with h | ⟨q1, bs, cs, q2, q3, q4⟩
  ·exact .inl h
  ·exact .inr ⟨q1, bs, cs, q2, rw1 q3, q4⟩
 ·obtain ⟨arr, x1, x2⟩ := I.byt
  exact ⟨arr, kp x1, x2⟩
 ·obtain ⟨arr, x1, x2⟩ := I.fix.N; exact ⟨arr, kp x1, x2⟩
 ·obtain ⟨arr, x1, x2⟩ := I.fix.M; exact ⟨arr, kp x1, x2⟩
 ·obtain ⟨arr, x1, x2⟩ := I.fix.S; exact ⟨arr, kp x1, x2⟩
 ·obtain ⟨arr, x1, x2⟩ := I.fix.m; exact ⟨arr, kp x1, x2⟩
structure Sl (f : FB) (a : Act) : Prop where
 sz : a.tmps.size = 101
 df : a.defers = []
 s0 : a.tmps[0]? = some (.pointer (some ⟨f.R, 0, none⟩))
 s7 : a.tmps[7]? = some (.pointer (some ⟨f.N, 0, none⟩))
 s8 : a.tmps[8]? = some (.pointer (some ⟨f.F, 0, none⟩))
structure CX (f : FB) (X N cX : Nat) (w : World) : Prop where
 n : Pre w f.N 100 (f.cN * 7) [none, none, none, none, none, some (.slice (some ⟨X, 0, none⟩) N cX)]
 x : ∃ arr c, w.heap[X]? = some (.cells arr 133 (0, 0)) ∧ arr.size = c * 3
theorem CX.same {f : FB} {X N cX : Nat} {w w' : World} (h : CX f X N cX w) (hb : ∀ k, k < w.heap.size → w'.heap[k]? = w.heap[k]?) : CX f X N cX w' := by
 obtain ⟨⟨arr, x1, x2⟩, arr2, c, y1, y2⟩ := h
 exact ⟨⟨arr, (hb _ (blk_lt x1)).trans x1, x2⟩, arr2, c, (hb _ (blk_lt y1)).trans y1, y2⟩
theorem piece {f : FB} {w0 w : World} {V L : List B64} {nil : Bool} {at_ : Int} {fuel : Nat} {β : Nat → Nat} (I : IS f w0 V L nil at_ fuel β w) {X N cX : Nat} (hX : CX f X N cX w) {a : Act} (S : Sl f a) {c : Code} (hc : okCode 101 c = true) {x : CV} (hx : ∀ e, x.rel e (.int .i64 at_)) {slot en : Nat} {u : AV}
  (ho : out9 (ev9 c x N cX) slot = some (en, some (.p (.one (.ptr 2 0))), some (.p (.one (.ptr 3 0))), some (.p (.one (.ptr 1 0))), some u, [])) {Q : Exit → Act → World → Prop}
  (hQ : ∀ (ex : Ex) (a' : Act) (w' : World), exN ex = en → Sl f a' → IS f w0 V L nil at_ fuel β w' → CX f X N cX w' → (∃ (e : Env) (y : Value), a'.tmps[slot]? = some y ∧ u.rel e y) → Q ex.exit' a' w') : c.wp Tryz.prog Q a w := by
 unfold out9 at ho
 split at ho
 ·rename_i e t n h l hev
  simp only [Option.some.injEq, Prod.mk.injEq] at ho
  obtain ⟨o1, o2, o3, o4, o5, o6⟩ := ho
  obtain ⟨v, bl, cl, ⟨fa, f1, f2, f3, f4, f5, f6, f7, f8⟩, _, _, _⟩ := I.fr
  obtain ⟨na, n1, n2, n3, n4⟩ := hX.n
  obtain ⟨xa, cc, x1, x2⟩ := hX.x
  let e0 : Env := fun n => if n = 1 then some (f.F, f.cF) else if n = 2 then some (f.R, 1) else if n = 3 then some (f.N, f.cN) else if n = 10 then some (X, cc) else none
  have e0n : ∀ id, id ≠ 1 → id ≠ 2 → id ≠ 3 → id ≠ 10 → e0 id = none := fun id q1 q2 q3 q4 => by show (if id = 1 then _ else if id = 2 then _ else if id = 3 then _ else if id = 10 then _ else none) = none; rw [if_neg q1, if_neg q2, if_neg q3, if_neg q4]
  have hrow : ∀ y ∈ rows9 x N cX, RowOK e0 y.1 y.2 w := fun y hy => by
   unfold rows9 at hy
   simp only [List.mem_cons, List.not_mem_nil, or_false] at hy
   rcases hy with rfl | rfl | rfl | rfl
   ·refine rowOf_ok (b := f.F) (c := f.cF) rfl f1 f2 (by simp; omega) (by simp) fun i c hc => ?_
    match i, hc with
    | 0, hc => cases hc; exact ⟨_, f4, rfl, rfl⟩
    | 1, hc => cases hc; exact ⟨_, f5, rfl, rfl⟩
    | 2, hc => cases hc; exact ⟨_, f6, hx _⟩
   ·refine rowOf_ok (b := f.R) (c := 1) rfl I.run rfl (by simp) (by simp) fun i c hc => ?_
    match i, hc with
    | 0, hc => cases hc; exact ⟨_, rfl, rfl, rfl⟩
    | 1, hc => cases hc; exact ⟨_, rfl, rfl, rfl⟩
    | 2, hc => cases hc; exact ⟨_, rfl, rfl, rfl⟩
    | 3, hc => cases hc; exact ⟨_, rfl, rfl, rfl⟩
    | 4, hc => cases hc; exact ⟨_, rfl, rfl⟩
   ·refine rowOf_ok (b := f.N) (c := f.cN) rfl n1 (by rw [n2]) (by rw [n2]; exact Nat.le_trans (by simp) n3) (by simp) fun i c hc => ?_
    match i, hc with
    | 0, hc => cases hc; obtain ⟨y, y1, y2, y3⟩ := n4 0 _ rfl; exact ⟨y, y1, y2⟩
    | 1, hc => cases hc; obtain ⟨y, y1, y2, y3⟩ := n4 1 _ rfl; exact ⟨y, y1, y2⟩
    | 2, hc => cases hc; obtain ⟨y, y1, y2, y3⟩ := n4 2 _ rfl; exact ⟨y, y1, y2⟩
    | 3, hc => cases hc; obtain ⟨y, y1, y2, y3⟩ := n4 3 _ rfl; exact ⟨y, y1, y2⟩
    | 4, hc => cases hc; obtain ⟨y, y1, y2, y3⟩ := n4 4 _ rfl; exact ⟨y, y1, y2⟩
    | 5, hc => cases hc; obtain ⟨y, y1, y2, y3⟩ := n4 5 _ rfl; exact ⟨y, y1, X, cc, rfl, y3 _ rfl⟩
   ·exact rowOf_ok (b := X) (c := cc) rfl x1 x2 (by simp) (by simp) fun i c hc => by simp at hc
  have hsim : Sim e0 (hOf (rows9 x N cX)) w := by
   refine sim_list _ (fun id hid => ?_) hrow ?_
   ·have m : ∀ n, n ∈ [1, 2, 3, 10] → id ≠ n := by
     intro n hn hh
     have : ∃ y ∈ rows9 x N cX, y.1 = n := by
      unfold rows9
      simp only [List.mem_cons, List.not_mem_nil, or_false] at hn
      rcases hn with rfl | rfl | rfl | rfl <;> simp
     obtain ⟨y, hy, hy1⟩ := this
     exact hid y hy (by rw [hy1, hh])
    exact e0n id (m 1 (by simp)) (m 2 (by simp)) (m 3 (by simp)) (m 10 (by simp))
   ·intro y hy z hz hkx hky b c c' q1 q2
    obtain ⟨A1, g1, z1⟩ := rowC_elem (hrow y hy) hkx q1
    obtain ⟨A2, g2, z2⟩ := rowC_elem (hrow z hz) hky q2
    have hel : y.2.elem = z.2.elem := by rw [z1] at z2; injection (Option.some.inj z2)
    unfold rows9 at hy hz
    simp only [List.mem_cons, List.not_mem_nil, or_false] at hy hz
    rcases hy with rfl | rfl | rfl | rfl <;> rcases hz with rfl | rfl | rfl | rfl <;> first | rfl | (simp [rowOf] at hel)
  have htr : TRel e0 t9 a := by
   refine ⟨fun k v hv => ?_⟩
   unfold t9 at hv
   rcases Tr.get_set_some _ _ _ _ _ hv with ⟨rfl, rfl⟩ | ⟨_, hv⟩
   ·exact ⟨_, S.s8, f.F, f.cF, rfl, rfl⟩
   rcases Tr.get_set_some _ _ _ _ _ hv with ⟨rfl, rfl⟩ | ⟨_, hv⟩
   ·exact ⟨_, S.s7, f.N, f.cN, rfl, rfl⟩
   rcases Tr.get_set_some _ _ _ _ _ hv with ⟨rfl, rfl⟩ | ⟨_, hv⟩
   ·exact ⟨_, S.s0, f.R, 1, rfl, rfl⟩
   ·cases hv
  refine (code_wp (nt := 101) (opctx rnTab_ok 5000 4) (pow_pos 4) mixed_ok (by omega) 50).1 c t9 1000 (hOf (rows9 x N cX)) _ h _ (Nat.le_refl _) hev hc e0 w a hsim htr (by rw [S.sz]; omega) Q fun e' w' a' s1 s2 s3 s4 s5 => ?_
  obtain ⟨v0, v0a, v0b⟩ := s2.tmp 0 _ o2
  obtain ⟨v7, v7a, v7b⟩ := s2.tmp 7 _ o3
  obtain ⟨v8, v8a, v8b⟩ := s2.tmp 8 _ o4
  obtain ⟨vs, vsa, vsb⟩ := s2.tmp slot _ o5
  obtain ⟨_, _, z0, rfl⟩ := v0b
  rw [s3.ext 2 (f.R, 1) rfl] at z0; cases z0
  obtain ⟨_, _, z7, rfl⟩ := v7b
  rw [s3.ext 3 (f.N, f.cN) rfl] at z7; cases z7
  obtain ⟨_, _, z8, rfl⟩ := v8b
  rw [s3.ext 1 (f.F, f.cF) rfl] at z8; cases z8
  have stay : ∀ k, k < w.heap.size → w'.heap[k]? = w.heap[k]? := fun k hk => s3.block k hk fun id hid c hh => by
   rcases hid with hid | hid
   ·rw [o6] at hid; cases hid
   ·rw [e0n id (by omega) (by omega) (by omega) (by omega)] at hh; cases hh
  exact hQ e a' w' o1 ⟨by rw [s4]; exact S.sz, by rw [s5]; exact S.df, v0a, v7a, v8a⟩ (I.same stay s3.size s3.os s3.tape s3.output) (hX.same stay) ⟨e', vs, vsa, vsb⟩
 ·cases ho
end Ev
end
section
set_option maxRecDepth 100000
namespace Ev
open Go Go.Proofs Pl
theorem cunder : ∃ fs, Tryz.prog.underlying 133 = some (.struct fs) := ⟨_, rfl⟩
theorem csize (a b c : Value) : (Tryz.prog.info? 133).map (·.size) = some ([a, b, c] : List Value).length := by kernel_rfl
theorem run_ldcel {o : Oper} {a : Act} {w : World} (x : Operand) (ho : o.op = .load 133 x) (g k : Nat) (hx : a.eval x = .pointer (some ⟨g, k, none⟩)) (y z v : Value) (h : w.rangeAt g k [y, z, v]) : (execOp a.eval o).run Tryz.prog w = .ok (.value (.agg #[y, z, v])) w := by
 obtain ⟨fs, hf⟩ := cunder
 unfold execOp
 simp only [ho, hx, Instr.loadAt, Instr.sureAddr, Sem.run_bind, Sem.run_pure, Result.andThen_ok, run_loadVar_mid w g k 133 _ _ h hf rfl (csize y z v)]
theorem isAgg_n (T : TypeId) (hT : T = 3 ∨ T = 77) : ∀ w, (isAgg T).run Tryz.prog w = .ok false w := by
 intro w
 rcases hT with rfl | rfl <;> rfl
theorem run_ld1 {o : Oper} {a : Act} {w : World} (T : TypeId) (hT : T = 3 ∨ T = 77) (x : Operand) (ho : o.op = .load T x) (g j : Nat) (hx : a.eval x = .pointer (some ⟨g, j, none⟩)) (z : Value) (h : w.cell? ⟨g, j, none⟩ = some z) : (execOp a.eval o).run Tryz.prog w = .ok (.value z) w := by
 have ha := isAgg_n T hT w
 unfold execOp
 simp only [ho, hx, Instr.loadAt, Instr.sureAddr, Sem.run_bind, Sem.run_pure, Result.andThen_ok]
 simp only [loadVar, Sem.run_bind, ha, Result.andThen_ok]
 simp [h, go_sem]
theorem run_mv {o : Oper} {a : Act} {w : World} (x : Operand) (ho : o.op = .move x) {v : Value} (hx : a.eval x = v) : (execOp a.eval o).run Tryz.prog w = .ok (.value v) w := by
 unfold execOp
 simp only [ho, hx, Sem.run_bind, Sem.run_pure, Result.andThen_ok]
theorem run_nc {o : Oper} {a : Act} {w : World} (x : Operand) (ho : o.op = .nilCheck x) {p : Addr} (hx : a.eval x = .pointer (some p)) : (execOp a.eval o).run Tryz.prog w = .ok (.value (.pointer (some p))) w := by
 unfold execOp
 simp only [ho, hx]
 rfl
theorem run_fd {o : Oper} {a : Act} {w : World} (T k : Nat) (x : Operand) (ho : o.op = .fieldAddr T x k) {b : Nat} (hx : a.eval x = .pointer (some ⟨b, 0, none⟩)) (hT : (T = 100 ∧ k = 5) ∨ (T = 242 ∧ k = 2)) : (execOp a.eval o).run Tryz.prog w = .ok (.value (.pointer (some ⟨b, k, none⟩))) w := by
 unfold execOp
 simp only [ho, hx]
 rcases hT with ⟨rfl, rfl⟩ | ⟨rfl, rfl⟩ <;> rfl
theorem run_ixc {o : Oper} {a : Act} {w : World} (x i : Operand) (ho : o.op = .indexAddr 77 x i) (b n c : Nat) (hx : a.eval x = .slice (some ⟨b, 0, none⟩) n c) (k : Nat) (hi : a.eval i = .int .i64 (k : Int)) (hk : k < n) : (execOp a.eval o).run Tryz.prog w = .ok (.value (.pointer (some ⟨b, k * 3, none⟩))) w := by
 have hs : ∀ u, (Go.sizeOf (Tryz.prog.elem 77)).run Tryz.prog u = .ok 3 u := fun u => by kernel_rfl
 have hu : Tryz.prog.underlying 77 = some (.slice (Tryz.prog.elem 77)) := by kernel_rfl
 have h2 : (0 ≤ (k : Int) ∧ (k : Int) < (n : Int)) := by omega
 unfold execOp
 simp only [ho, hx, hi, Sem.run_bind, run_indexAt_slice (h := hu)]
 rw [if_pos h2, hs]
 simp [Go.Addr.add_mid, go_sem, Nat.mul_comm]
theorem run_call2 {o : Oper} {a : Act} {w : World} (g : Nat) (hg : g = 120) (x y : Operand) {T : Array TypeId} (ho : o.op = .call { callee := .value (.func g), args := #[x, y], argTypes := T }) {v1 v2 : Value} (hx : a.eval x = v1) (hy : a.eval y = v2) : (execOp a.eval o).run Tryz.prog w = .ok (.enter g #[v1, v2]) w := by
 subst hx hy hg
 have h1 : (execOp a.eval o).run Tryz.prog w = (callFunc 120 #[a.eval x, a.eval y]).run Tryz.prog w := by
  unfold execOp
  simp only [ho]
  simp [resolve, invoke, go_sem, show a.eval (.func 120) = .func (.func 120) #[] #[] from rfl]
 rw [h1]
 obtain ⟨fn, hf, hn, hb⟩ : ∃ fn, Tryz.prog.funcs[120]? = some fn ∧ (fn.name == "runtime.NumGoroutine") = false ∧ fn.body.isNone = false := ⟨Tryz.f120, Tryz.func120, by kernel_rfl, by kernel_rfl⟩
 simp only [callFunc, program, Sem.run_bind, Sem.run, hf, hn, hb]
 rfl
theorem put_get (a : Act) (d k : Nat) (v : Value) (h : d ≠ k) : (a.put (some d) v).tmps[k]? = a.tmps[k]? := by
 simp only [Act.put]
 exact Array.getElem?_setIfInBounds_ne h
theorem reg12 {f : FB} {w0 w : World} {s : PS} {T : World → Prop} {j N X cX : Nat} {c : Ln.C} (hl : ∀ u, s.is f w0 j u → Calls Tryz.prog 120 #[.pointer (some ⟨f.F, 0, none⟩), cellV c] u fun en w' => en = .returned (.tuple #[]) ∧ T w') (hj : j < N) (hN : N < 100000) (I : s.is f w0 j w) (hX : CX f X N cX w) (hc : ∀ w' : World, (∀ k, k < w.heap.size → w'.heap[k]? = w.heap[k]?) → w'.rangeAt X (j * 3) [.int .i64 (c.1 : Int), .int .i64 (c.2.1 : Int), .int .u64 (c.2.2 : Int)])
  {a : Act} (S : Sl f a) {Q : Exit → Act → World → Prop} (hQ : ∀ (a' : Act) (w' : World), Sl f a' → T w' → Q .normal a' w') : R12.wp Tryz.prog Q a w := by
 have e0 : a.eval (.tmp 0) = .pointer (some ⟨f.R, 0, none⟩) := by simp [Act.eval, Array.getD_eq_getD_getElem?, S.s0]
 have e7 : a.eval (.tmp 7) = .pointer (some ⟨f.N, 0, none⟩) := by simp [Act.eval, Array.getD_eq_getD_getElem?, S.s7]
 have e8 : a.eval (.tmp 8) = .pointer (some ⟨f.F, 0, none⟩) := by simp [Act.eval, Array.getD_eq_getD_getElem?, S.s8]
 have sz := S.sz
 unfold R12 B1 LB c43
 dsimp only [Tryz.f43, tail, headC, tailC, bodyB, bodyL, Option.getD]
 refine region_do (fun u => s.is f w0 j u ∧ ∀ k, k < w.heap.size → u.heap[k]? = w.heap[k]?) 11 mixed_ok (by kernel_rfl) ⟨IS.same I (fun k hk => rfl) (Nat.le_refl _) rfl rfl rfl, fun k hk => rfl⟩ ?_
 simp only [List.take_succ_cons, List.take_zero, List.drop_succ_cons, List.drop_zero]
 refine wpD_pure rfl (fun u => run_mv (.tmp 8) rfl (v := .pointer (some ⟨f.F, 0, none⟩)) (by simp (decide := true) [Act.eval_put_same, Act.eval_put_ne, Act.size_put, sz, e0, e7, e8])) ?_
 refine wpD_pure rfl (fun u => run_mv (.tmp 7) rfl (v := .pointer (some ⟨f.N, 0, none⟩)) (by simp (decide := true) [Act.eval_put_same, Act.eval_put_ne, Act.size_put, sz, e0, e7, e8])) ?_
 refine wpD_pure rfl (fun u => run_nc (.tmp 78) rfl (p := ⟨f.N, 0, none⟩) (by simp (decide := true) [Act.eval_put_same, Act.eval_put_ne, Act.size_put, sz, e0, e7, e8])) ?_
 refine wpD_pure rfl (fun u => run_fd 100 5 (.tmp 79) rfl (b := f.N) (by simp (decide := true) [Act.eval_put_same, Act.eval_put_ne, Act.size_put, sz, e0, e7, e8]) (.inl ⟨rfl, rfl⟩)) ?_
 refine wpD_here rfl (fun u hu => run_ld1 77 (.inr rfl) (.tmp 80) rfl f.N 5 (by simp (decide := true) [Act.eval_put_same, Act.eval_put_ne, Act.size_put, sz, e0, e7, e8]) (.slice (some ⟨X, 0, none⟩) N cX) ?_) ?_
 ·obtain ⟨arr, n1, n2, n3, n4⟩ := (hX.same hu.2).n
  obtain ⟨y, y1, y2, y3⟩ := n4 5 _ rfl
  rw [y3 _ rfl] at y1
  simp only [World.cell?, n1]
  simpa using y1
 refine wpD_pure rfl (fun u => run_mv (.tmp 8) rfl (v := .pointer (some ⟨f.F, 0, none⟩)) (by simp (decide := true) [Act.eval_put_same, Act.eval_put_ne, Act.size_put, sz, e0, e7, e8])) ?_
 refine wpD_pure rfl (fun u => run_nc (.tmp 82) rfl (p := ⟨f.F, 0, none⟩) (by simp (decide := true) [Act.eval_put_same, Act.eval_put_ne, Act.size_put, sz, e0, e7, e8])) ?_
 refine wpD_pure rfl (fun u => run_fd 242 2 (.tmp 83) rfl (b := f.F) (by simp (decide := true) [Act.eval_put_same, Act.eval_put_ne, Act.size_put, sz, e0, e7, e8]) (.inr ⟨rfl, rfl⟩)) ?_
 refine wpD_here rfl (fun u hu => run_ld1 3 (.inl rfl) (.tmp 84) rfl f.F 2 (by simp (decide := true) [Act.eval_put_same, Act.eval_put_ne, Act.size_put, sz, e0, e7, e8]) (.int .i64 (j : Int)) ?_) ?_
 ·obtain ⟨v, bl, cl, ⟨fa, f1, f2, f3, f4, f5, f6, f7, f8⟩, _, _, _⟩ := hu.1.fr
  simp only [World.cell?, f1]
  simpa using f6
 refine wpD_pure rfl (fun u => run_ixc (.tmp 81) (.tmp 85) rfl X N cX (by simp (decide := true) [Act.eval_put_same, Act.eval_put_ne, Act.size_put, sz, e0, e7, e8]) j (by simp (decide := true) [Act.eval_put_same, Act.eval_put_ne, Act.size_put, sz, e0, e7, e8]) hj) ?_
 refine wpD_here rfl (fun u hu => run_ldcel (.tmp 86) rfl X (j * 3) (by simp (decide := true) [Act.eval_put_same, Act.eval_put_ne, Act.size_put, sz, e0, e7, e8]) _ _ _ (hc u hu.2)) ?_
 refine wpD_nil (fun wq hq => ?_)
 refine wpList_plain rfl fun K hK => ?_
 unfold Oper.wp
 rw [run_call2 120 rfl (.tmp 77) (.tmp 87) rfl (v1 := .pointer (some ⟨f.F, 0, none⟩)) (v2 := cellV c) (by simp (decide := true) [Act.eval_put_same, Act.eval_put_ne, Act.size_put, sz, e0, e7, e8]) (by simp (decide := true) [Act.eval_put_same, Act.eval_put_ne, Act.size_put, sz, e0, e7, e8]; rfl), Oper.upon_enter]
 refine (hl wq hq.1).mono fun e w' hh => ?_
 obtain ⟨rfl, hi⟩ := hh
 refine hK _ _ (wpList_nil (hQ _ _ ⟨?_, ?_, ?_, ?_, ?_⟩ hi))
 ·simp only [Act.size_put, sz]
 ·simp only [Act.defers_put', S.df]
 ·simpa (decide := true) [put_get] using S.s0
 ·simpa (decide := true) [put_get] using S.s7
 ·simpa (decide := true) [put_get] using S.s8
end Ev
end
section
set_option maxRecDepth 100000
namespace Ev
open Go Go.Proofs
def Lies (w : World) (X : Nat) (cs : List Ln.C) : Prop := ∀ (j : Nat) (c : Ln.C), cs[j]? = some c → w.rangeAt X (j * 3) [.int .i64 (c.1 : Int), .int .i64 (c.2.1 : Int), .int .u64 (c.2.2 : Int)]
theorem rangeAt_keep {w w' : World} {b o : Nat} {l : List Value} (h : w'.heap[b]? = w.heap[b]?) (hr : w.rangeAt b o l) : w'.rangeAt b o l := fun j v hj => by
 have := hr j v hj
 simp only [World.cell?, h] at this ⊢
 exact this
theorem IS.cx {f : FB} {w0 w : World} {V L : List B64} {nil : Bool} {at_ : Int} {fuel : Nat} {β : Nat → Nat} (I : IS f w0 V L nil at_ fuel β w) {X N cX : Nat} (hX : CX f X N cX w0) (hx : X < w0.heap.size ∧ X ≠ f.q) : CX f X N cX w ∧ w.heap[X]? = w0.heap[X]? := by
 obtain ⟨qa, q1, _⟩ := I.byt
 obtain ⟨⟨na, n1, n2⟩, xa, c, x1, x2⟩ := hX
 have hNq : f.N ≠ f.q := fun h => by
  obtain ⟨ma, m1, _⟩ := I.fix.N
  rw [h, q1] at m1; injection (Option.some.inj m1) with _ z; cases z
 have kN := I.keep f.N I.old.1 hNq
 have kX := I.keep X hx.1 hx.2
 exact ⟨⟨⟨na, kN.trans n1, n2⟩, xa, c, kX.trans x1, x2⟩, kX⟩
noncomputable def mu (f : FB) (N : Nat) (w : World) : Nat := match w.cell? ⟨f.F, 2, none⟩ with
 | some (.int .i64 z) => if z < 0 then 0 else N + 1 - z.toNat
 | _ => 0
theorem IS.at2 {f : FB} {w0 w : World} {V L : List B64} {nil : Bool} {at_ : Int} {fuel : Nat} {β : Nat → Nat} (I : IS f w0 V L nil at_ fuel β w) : w.cell? ⟨f.F, 2, none⟩ = some (.int .i64 at_) := by
 obtain ⟨v, bl, cl, ⟨fa, f1, f2, f3, f4, f5, f6, f7, f8⟩, _, _, _⟩ := I.fr
 simp only [World.cell?, f1]
 simpa using f6
theorem IS.mu_neg {f : FB} {w0 w : World} {V L : List B64} {nil : Bool} {fuel : Nat} {β : Nat → Nat} (I : IS f w0 V L nil (-1) fuel β w) (N : Nat) : mu f N w = 0 := by
 unfold mu; rw [I.at2]; rfl
theorem IS.mu_nat {f : FB} {w0 w : World} {V L : List B64} {nil : Bool} {fuel j : Nat} {β : Nat → Nat} (I : IS f w0 V L nil (j : Int) fuel β w) (N : Nat) : mu f N w = N + 1 - j := by
 unfold mu; rw [I.at2]
 show (if (j : Int) < 0 then 0 else N + 1 - (j : Int).toNat) = _
 rw [if_neg (by omega)]; omega
theorem PS.mu_nat {s : PS} {f : FB} {w0 w : World} {j : Nat} (I : s.is f w0 j w) (N : Nat) : mu f N w = N + 1 - j := IS.mu_nat I N
theorem loop_wp {f : FB} {w0 : World} {X N cX : Nat} {cs : List Ln.C} {s s1 : PS} (hlen : N = cs.length + 1) (hN : N < 100000) (hX : CX f X N cX w0) (hx : X < w0.heap.size ∧ X ≠ f.q) (hcs : Lies w0 X (cs ++ [(15, 0, 0)])) (tr : Tr8 cs s s1) (hV : s1.V = []) (hnil : s1.nil = false) (hm : s1.L.length ∈ mS)
  {a : Act} {w : World} (S : Sl f a) (I : s.is f w0 0 w) {Q : Exit → Act → World → Prop} (hQ : ∀ (a' : Act) (w' : World), Sl f a' → IS f w0 [] s1.L false (-1) s1.fuel s1.β w' → Q .normal a' w') : (Code.block 0 (.loop LB)).wp Tryz.prog Q a w := by
 refine wp_block (wp_loop (fun a w => Sl f a ∧ ((∃ (done rest : List Ln.C) (s : PS), cs = done ++ rest ∧ Tr8 rest s s1 ∧ s.is f w0 done.length w) ∨ IS f w0 [] s1.L false (-1) s1.fuel s1.β w)) (fun a w => mu f N w) ⟨S, .inl ⟨[], cs, s, rfl, tr, I⟩⟩ ?_)
 rintro a w ⟨S, hor⟩
 rw [LB_eq]
 rcases hor with ⟨done, rest, s, hdr, tr, I⟩ | I
 ·have hcx := (IS.cx I hX hx)
  have hjN : done.length < N := by rw [hlen, hdr, List.length_append]; omega
  refine wp_seq (piece I hcx.1 S ok9 (x := i64c done.length) (fun e => rfl) (run9 _ _ _) ?_)
  intro ex a1 w1 he S1 I1 X1 _
  cases ex with
  | ret => cases he
  | exit k => simp [exN] at he
  | normal =>
   refine wp_block (wp_seq (wp_seq (piece I1 X1 S1 ok10 (x := i64c done.length) (fun e => rfl) (run10 _ _ _) ?_)))
   intro ex a2 w2 he S2 I2 X2 hsl
   cases ex with
   | ret => cases he
   | exit k => simp [exN] at he
   | normal =>
    obtain ⟨e, y, y1, y2⟩ := hsl
    have y2 : y = .bool (decide (Int.ofNat done.length ≥ Int.ofNat N)) := y2
    have hd : decide (Int.ofNat done.length ≥ Int.ofNat N) = false := by
     rw [decide_eq_false_iff_not]
     show ¬ ((done.length : Int) ≥ (N : Int))
     omega
    rw [hd] at y2
    subst y2
    refine wp_cond_false (by simp [Act.eval, Array.getD_eq_getD_getElem?, y1]) (wp_skip ?_)
    have hkX := (IS.cx I2 hX hx).2
    have hcell : ∀ (c : Ln.C), (cs ++ [(15, 0, 0)])[done.length]? = some c → ∀ w' : World, (∀ k, k < w2.heap.size → w'.heap[k]? = w2.heap[k]?) → w'.rangeAt X (done.length * 3) [.int .i64 (c.1 : Int), .int .i64 (c.2.1 : Int), .int .u64 (c.2.2 : Int)] := fun c hc w' hw => by
     refine rangeAt_keep ?_ (hcs _ c hc)
     rw [hw X (Nat.lt_of_lt_of_le hx.1 I2.size), hkX]
    cases tr with
    | nil =>
     have hc : (cs ++ [((15, 0, 0) : Ln.C)])[done.length]? = some (15, 0, 0) := by rw [hdr]; simp
     have I2' : s1.is f w0 done.length w2 := I2
     refine reg12 (s := s1) (c := (15, 0, 0)) (T := fun w' => IS f w0 [] s1.L false (-1) s1.fuel s1.β w') (fun u hu => ?_) hjN hN I2' X2 (hcell _ hc) S2 ?_
     ·refine leads_ret hm f w0 u done.length ?_
      have hu : IS f w0 s1.V s1.L s1.nil done.length s1.fuel s1.β u := hu
      rw [hV, hnil] at hu
      exact hu
     ·intro a3 w3 S3 I3
      refine ⟨⟨S3, .inr I3⟩, ?_⟩
      show mu f N w3 < mu f N w
      rw [I3.mu_neg, PS.mu_nat I]
      omega
    | @cons c l _ s2 _ h k =>
     have hc : (cs ++ [((15, 0, 0) : Ln.C)])[done.length]? = some c := by rw [hdr]; simp
     refine reg12 (c := c) (T := fun w' => s2.is f w0 (done.length + 1) w') (fun u hu => h f w0 u _ (by omega) hu) hjN hN I2 X2 (hcell _ hc) S2 ?_
     intro a3 w3 S3 I3
     refine ⟨⟨S3, .inl ⟨done ++ [c], l, s2, by rw [hdr]; simp, k, by simpa using I3⟩⟩, ?_⟩
     show mu f N w3 < mu f N w
     rw [PS.mu_nat I3, PS.mu_nat I]
     omega
 ·have hcx := (IS.cx I hX hx)
  refine wp_seq (piece I hcx.1 S ok9 (x := .int .i64 (.negSucc 0)) (fun e => rfl) (run9x _ _) ?_)
  intro ex a1 w1 he S1 I1 X1 _
  cases ex with
  | ret => cases he
  | normal => cases he
  | exit k =>
   have hk : k = 0 := by simpa [exN] using he
   subst hk
   exact hQ a1 w1 S1 I1
end Ev
end
section
set_option maxRecDepth 100000
namespace Ev
open Go Go.Proofs
noncomputable def rowsE (n : Nat) : List (Nat × Row) := [(1, rowOf [.any, .any, .int .i64 (.negSucc 0), .sl 4 0 0 (.minus 0), .any] 242 5), (2, rowOf [.ptr 6 0, i64c n, i64c 0, i64c 1, i64c 0] 140 5), (3, rowOf [] 100 7), (4, rowOf [] 26 1), (6, rowOf [] 127 16)]
noncomputable def evE (n : Nat) : R CSt := evCode ty2 (evCall ty2 fns2 rnExt 5000 4) (2 ^ 96) 1000 (2 ^ 200) 50 E43 t9 1000 (hOf (rowsE n))
def slok (v : Option AV) : Bool := match v with
 | some (.p (.one (.sl _ 0 0 (.known 0)))) => true
 | _ => false
theorem slok_spec {v : Option AV} (h : slok v = true) : ∃ i, v = some (.p (.one (.sl i 0 0 (.known 0)))) := by
 unfold slok at h
 split at h
 ·exact ⟨_, rfl⟩
 ·cases h
noncomputable def outE (r : R CSt) : Option (Nat × Bool × List Nat × Bool × Nat × List CV) := match r with
 | .ok ⟨e, t, _⟩ h l => (match h.find 2 with
  | some r2 => some (exN e, slok (Tr.get t 6), l.w, okRow r2 140 5, r2.n, r2.cells 5 0)
  | none => none)
 | .no => none
theorem runE (n : Nat) : outE (evE n) = some (1, true, [2], true, 5, [.ptr 6 0, i64c n, i64c 0, i64c 0, i64c 0]) := by kernel_rfl
theorem okE : okCode 101 E43 = true := by kernel_rfl
structure Left (f : FB) (w w' : World) (fuel : Nat) : Prop where
 run : w'.heap[f.R]? = some (.cells #[.pointer (some ⟨f.M, 0, none⟩), .int .i64 (fuel : Int), .int .i64 ((0 : Nat) : Int), .int .i64 ((0 : Nat) : Int), .int .i64 ((0 : Nat) : Int)] 140 (0, 0))
 keep : ∀ k, k < w.heap.size → k ≠ f.R → w'.heap[k]? = w.heap[k]?
 size : w.heap.size ≤ w'.heap.size
 os : w'.os = w.os
 tape : w'.tape = w.tape
 output : w'.output = w.output
theorem end_wp {f : FB} {w0 w : World} {L : List B64} {fuel : Nat} {β : Nat → Nat} (I : IS f w0 [] L false (-1) fuel β w) {a : Act} (S : Sl f a) {R : Ending → World → Prop}
  (hR : ∀ (w' : World) (b : Nat), Left f w w' fuel → R (.returned (.slice (some ⟨b, 0, none⟩) 0 0)) w') : E43.wp Tryz.prog (bodyPost Tryz.prog Tryz.f43 R) a w := by
 have ho := runE fuel
 unfold outE at ho
 split at ho
 ·rename_i ex t n h l hev
  split at ho
  ·rename_i r2 hr2
   simp only [Option.some.injEq, Prod.mk.injEq] at ho
   obtain ⟨o1, o2, o3, o4, o5, o6⟩ := ho
   obtain ⟨v, bl, cl, ⟨fa, f1, f2, f3, f4, f5, f6, f7, f8⟩, hlrow, hblw, hst⟩ := I.fr
   obtain ⟨bs, cs, rfl, ⟨sa, s1, s2, s3, s4⟩, hbs, hne⟩ : ∃ bs cs, v = .slice (some ⟨bs, 0, none⟩) 0 cs ∧ Rw w bs cs [] ∧ w0.heap.size ≤ bs ∧ bs ≠ bl := by
    rcases hst with ⟨h, _⟩ | ⟨_, bs, cs, q1, q2, q3, q4⟩
    ·cases h
    ·exact ⟨bs, cs, q1, q2, q3, q4⟩
   obtain ⟨na, n1, n2, n3, n4⟩ := I.fix.N
   obtain ⟨ma, m1, m2, m3, m4⟩ := I.fix.M
   let e0 : Env := fun n => if n = 1 then some (f.F, f.cF) else if n = 2 then some (f.R, 1) else if n = 3 then some (f.N, f.cN) else if n = 4 then some (bs, cs) else if n = 6 then some (f.M, f.cM) else none
   have e0n : ∀ id, id ≠ 1 → id ≠ 2 → id ≠ 3 → id ≠ 4 → id ≠ 6 → e0 id = none := fun id q1 q2 q3 q4 q5 => by show (if id = 1 then _ else if id = 2 then _ else if id = 3 then _ else if id = 4 then _ else if id = 6 then _ else none) = none; rw [if_neg q1, if_neg q2, if_neg q3, if_neg q4, if_neg q5]
   have hrow : ∀ y ∈ rowsE fuel, RowOK e0 y.1 y.2 w := fun y hy => by
    unfold rowsE at hy
    simp only [List.mem_cons, List.not_mem_nil, or_false] at hy
    rcases hy with rfl | rfl | rfl | rfl | rfl
    ·refine rowOf_ok (b := f.F) (c := f.cF) rfl f1 f2 (by simp; omega) (by simp) fun i c hc => ?_
     match i, hc with
     | 0, hc => cases hc; exact ⟨_, f4, rfl, rfl⟩
     | 1, hc => cases hc; exact ⟨_, f5, rfl, rfl⟩
     | 2, hc => cases hc; exact ⟨_, f6, rfl⟩
     | 3, hc => cases hc; exact ⟨_, f7, bs, cs, rfl, rfl⟩
     | 4, hc => cases hc; exact ⟨_, f8, rfl, rfl⟩
    ·refine rowOf_ok (b := f.R) (c := 1) rfl I.run rfl (by simp) (by simp) fun i c hc => ?_
     match i, hc with
     | 0, hc => cases hc; exact ⟨_, rfl, f.M, f.cM, rfl, rfl⟩
     | 1, hc => cases hc; exact ⟨_, rfl, rfl⟩
     | 2, hc => cases hc; exact ⟨_, rfl, rfl⟩
     | 3, hc => cases hc; exact ⟨_, rfl, rfl⟩
     | 4, hc => cases hc; exact ⟨_, rfl, rfl⟩
    ·exact rowOf_ok (b := f.N) (c := f.cN) rfl n1 (by rw [n2]) (by simp) (by simp) fun i c hc => by simp at hc
    ·exact rowOf_ok (b := bs) (c := cs) rfl s1 (by rw [s2]; omega) (by simp) (by simp) fun i c hc => by simp at hc
    ·exact rowOf_ok (b := f.M) (c := f.cM) rfl m1 (by rw [m2]) (by simp) (by simp) fun i c hc => by simp at hc
   have hsim : Sim e0 (hOf (rowsE fuel)) w := by
    refine sim_list _ (fun id hid => ?_) hrow ?_
    ·have m : ∀ n, n ∈ [1, 2, 3, 4, 6] → id ≠ n := by
      intro n hn hh
      have : ∃ y ∈ rowsE fuel, y.1 = n := by
       unfold rowsE
       simp only [List.mem_cons, List.not_mem_nil, or_false] at hn
       rcases hn with rfl | rfl | rfl | rfl | rfl <;> simp
      obtain ⟨y, hy, hy1⟩ := this
      exact hid y hy (by rw [hy1, hh])
     exact e0n id (m 1 (by simp)) (m 2 (by simp)) (m 3 (by simp)) (m 4 (by simp)) (m 6 (by simp))
    ·intro y hy z hz hkx hky b c c' q1 q2
     obtain ⟨A1, g1, z1⟩ := rowC_elem (hrow y hy) hkx q1
     obtain ⟨A2, g2, z2⟩ := rowC_elem (hrow z hz) hky q2
     have hel : y.2.elem = z.2.elem := by rw [z1] at z2; injection (Option.some.inj z2)
     unfold rowsE at hy hz
     simp only [List.mem_cons, List.not_mem_nil, or_false] at hy hz
     rcases hy with rfl | rfl | rfl | rfl | rfl <;> rcases hz with rfl | rfl | rfl | rfl | rfl <;> first | rfl | (simp [rowOf] at hel)
   have htr : TRel e0 t9 a := by
    refine ⟨fun k v hv => ?_⟩
    unfold t9 at hv
    rcases Tr.get_set_some _ _ _ _ _ hv with ⟨rfl, rfl⟩ | ⟨_, hv⟩
    ·exact ⟨_, S.s8, f.F, f.cF, rfl, rfl⟩
    rcases Tr.get_set_some _ _ _ _ _ hv with ⟨rfl, rfl⟩ | ⟨_, hv⟩
    ·exact ⟨_, S.s7, f.N, f.cN, rfl, rfl⟩
    rcases Tr.get_set_some _ _ _ _ _ hv with ⟨rfl, rfl⟩ | ⟨_, hv⟩
    ·exact ⟨_, S.s0, f.R, 1, rfl, rfl⟩
    ·cases hv
   refine (code_wp (nt := 101) (opctx rnTab_ok 5000 4) (pow_pos 4) mixed_ok (by omega) 50).1 E43 t9 1000 (hOf (rowsE fuel)) _ h _ (Nat.le_refl _) hev okE e0 w a hsim htr (by rw [S.sz]; omega) _ fun e' w' a' k1 k2 k3 k4 k5 => ?_
   obtain ⟨i6, o2⟩ := slok_spec o2
   obtain ⟨v6, v6a, v6b⟩ := k2.tmp 6 _ o2
   obtain ⟨b6, c6, z6, rfl⟩ := v6b
   have hex : ex = .ret := by cases ex <;> simp [exN] at o1 ⊢
   subst hex
   refine ⟨by rw [k5]; exact S.df, .slice (some ⟨b6, 0, none⟩) 0 0, ?_, hR w' b6 ⟨?_, fun k hk hkR => ?_, k3.size, k3.os, k3.tape, k3.output⟩⟩
   ·rw [results_tmp (t := 6) (by kernel_rfl)]
    rw [Array.getD_eq_getD_getElem?, v6a]
    rfl
   ·obtain ⟨b2', _, arr2, fr2, hc2⟩ := (k1.row 2 r2 hr2).row (by rw [(okRow_spec o4).1]; rfl)
    have y2 := hc2.he
    rw [k3.ext 2 (f.R, 1) rfl] at y2; cases y2
    have kr := okRow_spec o4
    have fz2 := hc2.fz kr.1; subst fz2
    have hsz2 := hc2.sz; rw [kr.2.2, Nat.one_mul] at hsz2
    have hb2 := hc2.hb; rw [kr.2.1] at hb2
    have cg : ∀ k, k < 5 → some (r2.at k) = ([CV.ptr 6 0, i64c fuel, i64c 0, i64c 0, i64c 0] : List CV)[k]? := fun k hk => by
     rw [← o6, cells_get, if_pos hk, Nat.zero_add]
    obtain ⟨w0, w0a, w0b⟩ := hc2.cells5 o5 0 (by omega)
    obtain ⟨w1, w1a, w1b⟩ := hc2.cells5 o5 1 (by omega)
    obtain ⟨w2, w2a, w2b⟩ := hc2.cells5 o5 2 (by omega)
    obtain ⟨w3, w3a, w3b⟩ := hc2.cells5 o5 3 (by omega)
    obtain ⟨w4, w4a, w4b⟩ := hc2.cells5 o5 4 (by omega)
    rw [Option.some.inj (cg 0 (by omega))] at w0b
    rw [Option.some.inj (cg 1 (by omega))] at w1b
    rw [Option.some.inj (cg 2 (by omega))] at w2b
    rw [Option.some.inj (cg 3 (by omega))] at w3b
    rw [Option.some.inj (cg 4 (by omega))] at w4b
    obtain ⟨_, _, p6', rfl⟩ := w0b
    rw [k3.ext 6 (f.M, f.cM) rfl] at p6'; cases p6'
    have w1b : w1 = _ := w1b
    have w2b : w2 = _ := w2b
    have w3b : w3 = _ := w3b
    have w4b : w4 = _ := w4b
    subst w1b w2b w3b w4b
    rw [hb2, arr5 hsz2 w0a w1a w2a w3a w4a]
    rfl
   ·refine k3.block k hk fun id hid c hh => ?_
    rcases hid with hid | hid
    ·rw [o3] at hid
     have : id = 2 := List.mem_singleton.1 hid
     subst this
     have hh : some (f.R, 1) = some (k, c) := hh
     cases hh
     exact hkR rfl
    ·rw [e0n id (by omega) (by omega) (by omega) (by omega) (by omega)] at hh; cases hh
  ·cases ho
 ·cases ho
end Ev
end
section
set_option maxRecDepth 100000
namespace Ev
open Go Go.Proofs
structure Done (f : FB) (w0 : World) (fuel : Nat) (β : Nat → Nat) (w : World) : Prop where
 run : w.heap[f.R]? = some (.cells #[.pointer (some ⟨f.M, 0, none⟩), .int .i64 (fuel : Int), .int .i64 ((0 : Nat) : Int), .int .i64 ((0 : Nat) : Int), .int .i64 ((0 : Nat) : Int)] 140 (0, 0))
 byt : Bt w f.q f.cq β
 keep : ∀ k, k < w0.heap.size → k ≠ f.q → w.heap[k]? = w0.heap[k]?
 size : w0.heap.size ≤ w.heap.size
 os : w.os = w0.os
 tape : w.tape = w0.tape
 output : w.output = w0.output
structure Ahead (f : FB) (w0 : World) (m X N cX : Nat) (β : Nat → Nat) (w : World) : Prop where
 row : Pre w f.N 100 (f.cN * 7) [some (.int .i64 (-1)), none, none, some (.int .i64 0), some (.int .i64 (m : Int)), some (.slice (some ⟨X, 0, none⟩) N cX)]
 mach : Pre w f.M 127 (f.cM * 16) [none, some (.slice (some ⟨f.N, 0, none⟩) 1 f.cN), some (.pointer (some ⟨f.S, 0, none⟩))]
 run : w.heap[f.R]? = some (.cells #[.pointer (some ⟨f.M, 0, none⟩), .int .i64 ((50 : Nat) : Int), .int .i64 ((0 : Nat) : Int), .int .i64 ((0 : Nat) : Int), .int .i64 ((0 : Nat) : Int)] 140 (0, 0))
 fix : Fix f w
 byt : Bt w f.q f.cq β
 keep : ∀ k, k < w0.heap.size → k ≠ f.q → w.heap[k]? = w0.heap[k]?
 size : w0.heap.size ≤ w.heap.size
 os : w.os = w0.os
 tape : w.tape = w0.tape
 output : w.output = w0.output
 new : w0.heap.size ≤ f.R
 old : f.N < w0.heap.size ∧ f.M < w0.heap.size ∧ f.S < w0.heap.size ∧ f.m < w0.heap.size ∧ f.q < w0.heap.size
theorem Bt.keep {w w' : World} {q c : Nat} {β : Nat → Nat} (h : Bt w q c β) (k : w'.heap[q]? = w.heap[q]?) : Bt w' q c β := by
 obtain ⟨arr, x1, x2⟩ := h
 exact ⟨arr, k.trans x1, x2⟩
theorem call_k {f : FB} {w0 w : World} {m X N cX : Nat} {cs : List Ln.C} {s1 : PS} {β : Nat → Nat} (hm : m ∈ mS) (A : Ahead f w0 m X N cX β w) (hlen : N = cs.length + 1) (hN : N < 100000) (hX : CX f X N cX w0) (hx : X < w0.heap.size ∧ X ≠ f.q) (hcs : Lies w0 X (cs ++ [(15, 0, 0)])) (tr : Tr8 cs ⟨[], zeros m, true, 50, β⟩ s1) (hV : s1.V = []) (hnil : s1.nil = false) (hm1 : s1.L.length ∈ mS) :
  Calls Tryz.prog 43 #[.pointer (some ⟨f.R, 0, none⟩), .int .i64 ((0 : Nat) : Int), .slice none 0 0] w fun en w' => (∃ b, en = .returned (.slice (some ⟨b, 0, none⟩) 0 0)) ∧ Done f w0 s1.fuel s1.β w' := by
 refine calls_of_wp (fn := Tryz.f43) (c := c43) Tryz.func43 (by kernel_rfl) ?_
 rw [c43_eq]
 refine pre_wp (f := f) (cf := 0) hm (by rw [Array.size_append, Array.size_replicate]; kernel_rfl) (by simp) (by simp) (by simp) A.row A.mach A.run ?_
 intro a' w' F cF bl cl k1 k2 k3 k4 k5 k6 k7 k8 k9 k10 k11 k12 k13 k14 k15
 have zl : (zeros m).length = m := by simp [zeros]
 have ne : ∀ {b : Nat}, b < w0.heap.size → w'.heap[b]? = w.heap[b]? := fun {b} hb => k11 b (Nat.lt_of_lt_of_le hb A.size) (fun h => by have := A.new; omega)
 have hI : PS.is ⟨[], zeros m, true, 50, β⟩ { f with F := F, cF := cF } w0 0 w' := by
  refine ⟨⟨.slice none 0 0, bl, cl, ?_, k7, Nat.le_trans A.size k9, .inl ⟨rfl, rfl, rfl⟩⟩, k10, A.byt.keep (ne A.old.2.2.2.2), ⟨A.fix.N.keep (ne A.old.1), A.fix.M.keep (ne A.old.2.1), A.fix.S.keep (ne A.old.2.2.1), A.fix.m.keep (ne A.old.2.2.2.1)⟩, fun k hk hq => (ne hk).trans (A.keep k hk hq), Nat.le_trans A.size k12, k13.trans A.os, k14.trans A.tape, k15.trans A.output, ⟨Nat.le_trans A.size k8, A.new⟩, A.old⟩
  show Fr5 w' F cF _ _ _ _ (.slice (some ⟨bl, 0, none⟩) (zeros m).length cl)
  rw [zl]
  exact k6
 rw [tail_eq]
 refine wp_seq (loop_wp (f := { f with F := F, cF := cF }) hlen hN ⟨hX.n, hX.x⟩ hx hcs tr hV hnil hm1 ⟨k1, k2, k3, k4, k5⟩ hI ?_)
 intro a2 w2 S2 I2
 refine end_wp I2 S2 fun w3 b hl => ⟨⟨b, rfl⟩, ?_⟩
 have kq : w3.heap[f.q]? = w2.heap[f.q]? := hl.keep f.q (Nat.lt_of_lt_of_le A.old.2.2.2.2 I2.size) (fun h => by have := A.new; have := A.old.2.2.2.2; simp only at h; omega)
 exact ⟨hl.run, Bt.keep I2.byt kq, fun k hk hq => (hl.keep k (Nat.lt_of_lt_of_le hk I2.size) (fun h => by have := A.new; simp only at h; omega)).trans (I2.keep k hk hq), Nat.le_trans I2.size hl.size, hl.os.trans I2.os, hl.tape.trans I2.tape, hl.output.trans I2.output⟩
end Ev
end
