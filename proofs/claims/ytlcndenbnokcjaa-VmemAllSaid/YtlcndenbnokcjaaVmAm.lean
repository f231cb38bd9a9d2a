/-
  plaitlaw11.all: it tells that all bytes are the same.
-/
import Derived.Test.YtlcndenbnokcjaaVmBo
import Derived.Test.YtlcndenbnokcjaaMemE
import Derived.Test.YtlcndenbnokcjaaMemR
set_option linter.unusedSimpArgs false
set_option linter.unusedVariables false
namespace Go.Proofs.Ytlcndenbnokcjaa
open Go.RowKit Pl

theorem do_ldc {ops : Array Oper} {S : World → Prop} {L : Act → Prop} {o : Oper} {rest : List Oper} {a : Act} (hg : Region.wanted o (yielded ops a.tmps) = true) (T : TypeId) (ha : ∀ w, (isAgg T).run Try.prog w = .ok false w) (x : Operand) (ho : o.op = .load T x) (g j : Nat)
    (hx : a.eval x = .pointer (some ⟨g, j, none⟩)) (z : Value) (h : ∀ w, S w → w.cell? ⟨g, j, none⟩ = some z)
    (hr : wpD Try.prog ops S L rest (a.put o.dst z)) : wpD Try.prog ops S L (o :: rest) a :=
  wpD_hereg hg (fun w hS => by
    have ha := ha w
    unfold execOp
    simp only [ho, hx, Instr.loadAt, Instr.sureAddr, Sem.run_bind, Sem.run_pure, Result.andThen_ok]
    simp [loadVar, Sem.run_bind, ha, h w hS, go_sem]) hr
theorem do_conv {ops : Array Oper} {S : World → Prop} {L : Act → Prop} {o : Oper} {rest : List Oper} {a : Act} (hg : Region.wanted o (yielded ops a.tmps) = true) (x : Operand) (s d : TypeId) (ho : o.op = .convert s d x)
    (v : Value) (hx : a.eval x = v) (v1 : Value) (h : ∀ w, S w → (convert s d v).run Try.prog w = .ok v1 w) (hr : wpD Try.prog ops S L rest (a.put o.dst v1)) : wpD Try.prog ops S L (o :: rest) a :=
  wpD_hereg hg (fun w hS => by simp [execOp, ho, hx, h w hS, Result.andThen]) hr
theorem isAgg_bytes (w : World) : (isAgg 48).run Try.prog w = .ok false w := by kernel_rfl
theorem rpages_z (o : MObj) (w : World) (h : MemAt w o) (k : Int) (hk : ((o.n / 65536 : Nat) : Int) = k) :
    Calls Try.prog 16 #[.pointer (some ⟨o.p, 0, none⟩)] w fun e w' => e = .returned (.int .i64 k) ∧ w' = w := by
  rw [← hk]
  exact rpages_k o w h
theorem mem_piece {w : World} {o : MObj} (h : MemAt w o) (b : Nat) (hb : o.q = some b) (s m : Nat) (hs : s + m ≤ o.n) : BView w (.slice (some ⟨b, s, none⟩) m (o.c - s)) m (fun j => o.β (s + j)) := by
  have hr := h.row
  rw [hb] at hr
  exact BView.piece hr s m _ hs
set_option maxHeartbeats 2000000 in
set_option maxRecDepth 100000 in
theorem all11_k (p q : MObj) (w : World) (hp : MemAt w p) (hq : MemAt w q) (hn : p.n = q.n) (he : ∀ i, i < p.n → p.β i = q.β i) :
    Calls Try.prog 41 #[.pointer (some ⟨p.p, 0, none⟩), .pointer (some ⟨q.p, 0, none⟩)] w fun e w' => e = .returned (.bool true) ∧ Below w.heap.size w w' := by
  obtain ⟨K, hK, hKn⟩ := hp.pages
  have P1 := Lib.hid (fun W (h : MemAt W p) => pages_z p W h K (by rw [hKn, Nat.mul_div_cancel_left _ (by decide)]))
  have P2 := Lib.hid (fun W (h : MemAt W q) => rpages_z q W h K (by rw [← hn, hKn, Nat.mul_div_cancel_left _ (by decide)]))
  go_enter Try.func41, Try.ntmps41

  have hlen := hq.row.le
  go_wp2_with fail
  go_loopw [5] (fun av wr => ∃ I : Nat, I ≤ q.n ∧ (∃ j, I = 4096 * j) ∧ av = .int .i64 (I : Int) ∧ Below w.heap.size w wr) (fun av _ => (65536 * K - intOf av).toNat)
  case atStart => exact ⟨0, by omega, ⟨0, rfl⟩, rfl, Below.refl _ _⟩
  case round =>
    obtain ⟨I, hI, hj, rfl, hb⟩ := hrel
    have hp1 := hp.below hb
    have hq1 := hq.below hb
    by_cases hjl : I < q.n
    · obtain ⟨b, hqb, hrb⟩ := hq.row.pos (by omega)
      have m0 := hq1.c0
      rw [hqb, show headOf (some b) = some ⟨b, 0, none⟩ from rfl] at m0
      have hin : I + 4096 ≤ q.n := by obtain ⟨j, hj⟩ := hj; omega
      obtain ⟨E, hE, hE1, hE2, hE3⟩ : ∃ E : Nat, (I : Int) + 4096 = (E : Int) ∧ I + 4096 ≤ E ∧ E ≤ I + 4096 ∧ ∃ j, E = 4096 * j := ⟨I + 4096, by omega, by omega, by omega, by obtain ⟨j, hj⟩ := hj; exact ⟨j + 1, by omega⟩⟩
      have HE := Lib.hid hE3
      have hsz := hq.size
      have e9 : IntKind.i64.wrap (E : Int) = (E : Int) := IntWalk.i64_in _ (by omega)
      have h5 : (E : Int) ≤ q.n := by omega
      have h7 : (I : Int) ≤ E := by omega
      have h8 : (E : Int) ≤ q.c := by omega
      have h9 : (I : Int) < q.n := by omega
      have hK9 : (E : Int) ≤ 65536 * K := by omega
      clear hE3 hj
      go_wp2_with fail
      refine (peek_z p wr hp1 (I : Int) 4096 (by omega) (by decide) (by omega)).mono ?_
      rintro e u3 ⟨v1, rfl, k1⟩
      obtain ⟨S, hS⟩ : ∃ S, S = strB (E - I) (fun i => q.β (I + i)) := ⟨_, rfl⟩
      have c1 : ∀ W, Below u3.heap.size u3 W → (convert 48 9 v1).run Try.prog W = .ok (.string S) W := fun W hW => by
        have := conv_bytes (k1.view.below hW)
        rw [show (4096 : Int).toNat = E - I by rw [show E - I = 4096 by omega]; rfl] at this
        rw [this, hS, strB_congr (μ := fun i => q.β (I + i)) (fun i hi => by
          show p.β ((I : Int).toNat + i) = _
          rw [Int.toNat_natCast]
          exact he _ (by omega))]
      have c2 : ∀ W, Below u3.heap.size u3 W → (convert 48 9 (.slice (some ⟨b, I, none⟩) (E - I) (q.c - I))).run Try.prog W = .ok (.string S) W := fun W hW => by
        rw [hS]
        exact conv_bytes (mem_piece ((hq1.below k1.bel).below hW) b hqb I (E - I) (by omega))
      have m1 : ∀ W, Below u3.heap.size u3 W → W.cell? ⟨q.p, 0, none⟩ = some (.slice (some ⟨b, 0, none⟩) q.n q.c) := fun W hW => by
        have := ((hq1.below k1.bel).below hW).c0
        rw [hqb] at this
        exact this
      have hb4 := Below.trans hb (k1.bel.mono hb.size)
      by_cases hc : q.c = I
      · omega
      clear hS k1 hb hp1 hq1 m0 hrb
      go_wp2_with fail
      refine region_do (fun W => Below u3.heap.size u3 W) 15 (by kernel_rfl) (by kernel_rfl) (Below.refl _ _).drew ?_
      simp only [List.take_succ_cons, List.take_zero, List.drop_succ_cons, List.drop_zero]
      repeat (first | (refine do_conv rfl _ _ _ rfl _ rfl _ c1 ?_; simp only [Act.put, List.setIfInBounds_toArray, List.set_cons_zero, List.set_cons_succ]) | (refine do_conv rfl _ _ _ rfl _ rfl _ c2 ?_; simp only [Act.put, List.setIfInBounds_toArray, List.set_cons_zero, List.set_cons_succ]) | (refine do_ldc rfl _ isAgg_bytes _ rfl _ 0 rfl _ m1 ?_; simp only [Act.put, List.setIfInBounds_toArray, List.set_cons_zero, List.set_cons_succ]) | (refine wpD_skip rfl ?_; simp only [Act.put, List.setIfInBounds_toArray, List.set_cons_zero, List.set_cons_succ]) | (refine wpD_pure (v := ?_) rfl (fun u => ?_) ?_; rotate_left; (focus (go_simp; (try with_reducible rfl); done)); simp only [Act.put, List.setIfInBounds_toArray, List.set_cons_zero, List.set_cons_succ]) | (refine wpD_pureg (v := ?_) rfl (fun u => ?_) ?_; rotate_left; (focus (go_simp; (try with_reducible rfl); done)); simp only [Act.put, List.setIfInBounds_toArray, List.set_cons_zero, List.set_cons_succ]))
      refine wpD_nil (fun wr1 hr => ?_)
      replace hb4 := hb4.trans (hr.mono hb4.size)
      clear hr c1 c2 m1
      go_wp2_with fail
      exact ⟨⟨E, by omega, HE.out, rfl, hb4⟩, by simp [intOf]; omega⟩
    · have h9 : (q.n : Int) ≤ I := by omega
      have m0 := hq1.c0
      go_wp2_with fail
      refine (P1.out _ hp1).mono ?_
      rintro e u1 ⟨rfl, rfl⟩
      go_wp2_with fail
      refine (P2.out _ hq1).mono ?_
      rintro e u1 ⟨rfl, rfl⟩
      go_wp2_with fail
      go_ret
      exact ⟨rfl, hb⟩

end Go.Proofs.Ytlcndenbnokcjaa
