/-
  plaitlaw10.same: alike memories are told to be.
-/
import Derived.Test.YtlcndenbnokcjaaMemR
import Derived.Test.YtlcndenbnokcjaaG
set_option linter.unusedSimpArgs false
set_option linter.unusedVariables false
namespace Go.Proofs.Ytlcndenbnokcjaa
open Go.RowKit Pl

/-- The string that m bytes make. -/
def strB (m : Nat) (ν : Nat → Nat) : ByteArray := strOfNums ((List.range m).map fun i => ((ν i : Nat) : Int))
theorem strB_congr {m : Nat} {ν μ : Nat → Nat} (h : ∀ i, i < m → ν i = μ i) : strB m ν = strB m μ := by
  unfold strB
  congr 1
  refine List.map_congr_left fun i hi => ?_
  rw [h i (by simpa using hi)]
theorem conv_bytes {w : World} {v : Value} {m : Nat} {ν : Nat → Nat} (h : BView w v m ν) : (convert 48 9 v).run Try.prog w = .ok (.string (strB m ν)) w := by
  have hd : Try.prog.underlying 9 = some .string := by kernel_rfl
  obtain ⟨ad, c, rfl, h0 | ⟨b, off, rfl, hc⟩⟩ := h.ex
  · subst h0
    cases ad with
    | none =>
      rw [run_convert_bytes_nil w 48 5 under_bytes under_byte 0 c _ hd]
      rfl
    | some a =>
      have e := run_loadCells_list (P := Try.prog) w a [] (by simp)
      rw [run_convert_bytes_string w 48 9 5 _ 0 c under_bytes under_byte hd, run_bytesToString w a 0 c [] (by simpa using e)]
      rfl
  · exact run_convert_bytes_arg w 48 5 under_bytes under_byte b off m c _ (by simp) (fun i hi => by rw [hc i hi]; simp [hi]) _ hd
theorem wpList_convert {ops : Array Oper} {rest : List Oper} {o : Oper} {a : Act} {w : World} {Q : Exit → Act → World → Prop} (hw : Region.wanted o (yielded ops a.tmps) = true) (x : Operand) (s d : TypeId) (ho : o.op = .convert s d x)
    (v : Value) (hx : a.eval x = v) (v1 : Value) (hrun : (convert s d v).run Try.prog w = .ok v1 w)
    (h : wpList Try.prog ops Q rest (a.put o.dst v1) w) : wpList Try.prog ops Q (o :: rest) a w :=
  wpList_step fun K hK => by
    rw [if_pos hw]
    unfold Oper.wp
    simp [execOp, ho, hx, hrun, Result.andThen]
    exact hK _ _ h
theorem peek_z (o : MObj) (w : World) (h : MemAt w o) (a k : Int) (ha : 0 ≤ a) (hk : 0 ≤ k ∧ k ≤ 4096) (hin : a + k ≤ o.n) :
    Calls Try.prog 26 #[.pointer (some ⟨o.p, 0, none⟩), .int .i64 a, .int .i64 k] w fun e w' => ∃ v, e = .returned (.tuple #[v, .int .i64 0]) ∧ Peeked w w' v k.toNat (fun j => o.β (a.toNat + j)) := by
  obtain ⟨x, rfl⟩ := Int.eq_ofNat_of_zero_le ha
  obtain ⟨y, rfl⟩ := Int.eq_ofNat_of_zero_le hk.1
  exact peek_k o w h x y (by omega) (by omega)
set_option maxHeartbeats 1000000 in
set_option maxRecDepth 100000 in
theorem same_k (p q : MObj) (w : World) (hp : MemAt w p) (hq : MemAt w q) (hn : p.n = q.n) (he : ∀ i, i < p.n → p.β i = q.β i) :
    Calls Try.prog 21 #[.pointer (some ⟨p.p, 0, none⟩), .pointer (some ⟨q.p, 0, none⟩)] w fun e w' => e = .returned (.bool true) ∧ Below w.heap.size w w' := by
  obtain ⟨K, hK, hKn⟩ := hp.pages
  have P1 := Lib.hid (fun W (h : MemAt W p) => pages_z p W h K (by rw [hKn, Nat.mul_div_cancel_left _ (by decide)]))
  have P2 := Lib.hid (fun W (h : MemAt W q) => pages_z q W h K (by rw [← hn, hKn, Nat.mul_div_cancel_left _ (by decide)]))
  go_enter Try.func21, Try.ntmps21
  go_wp2_with fail
  refine (P1.out _ hp).mono ?_
  rintro e u1 ⟨rfl, rfl⟩
  go_wp2_with fail
  refine (P2.out _ hq).mono ?_
  rintro e u1 ⟨rfl, rfl⟩
  go_wp2_with fail
  go_loopw [5] (fun av wr => ∃ j : Nat, j ≤ 16 * K ∧ av = .int .i64 (4096 * (j : Int)) ∧ Below u1.heap.size u1 wr) (fun av _ => (65536 * K - intOf av).toNat)
  case atStart => exact ⟨0, by omega, rfl, Below.refl _ _⟩
  case round =>
    obtain ⟨j, hj, rfl, hb⟩ := hrel
    have hp1 := hp.below hb
    have hq1 := hq.below hb
    go_wp2_with fail
    refine (P1.out _ hp1).mono ?_
    rintro e u2 ⟨rfl, rfl⟩
    by_cases hjl : j < 16 * K
    · have hlt : decide (4096 * (j : Int) < (K : Int) * 65536) = true := decide_eq_true (by omega)
      go_wp2_with fail
      refine (peek_z p u2 hp1 (4096 * (j : Int)) 4096 (by omega) (by decide) (by omega)).mono ?_
      rintro e u3 ⟨v1, rfl, k1⟩
      go_wp2_with fail
      refine (peek_z q u3 (hq1.below k1.bel) (4096 * (j : Int)) 4096 (by omega) (by decide) (by omega)).mono ?_
      rintro e u4 ⟨v2, rfl, k2⟩
      have c1 := conv_bytes (k1.view.below k2.bel)
      have c2 := conv_bytes k2.view
      rw [← strB_congr (fun i hi => he ((4096 * (j : Int)).toNat + i) (by simp at hi; omega))] at c2
      obtain ⟨S, hS⟩ : ∃ S, S = strB (4096 : Int).toNat fun i => p.β ((4096 * (j : Int)).toNat + i) := ⟨_, rfl⟩
      rw [← hS] at c1 c2
      clear hS
      have hb4 := Below.trans hb ((k1.bel.trans (k2.bel.mono k1.bel.size)).mono hb.size)
      clear k1 k2 hb hp1 hq1
      go_wp2_with (first | (with_reducible refine wpList_convert (by rfl) _ _ _ rfl _ rfl _ c1 ?_) | (with_reducible refine wpList_convert (by rfl) _ _ _ rfl _ rfl _ c2 ?_))
      exact ⟨⟨j + 1, by omega, by rw [show (4096 : Int) * (j : Int) + 4096 = 4096 * ((j + 1 : Nat) : Int) by omega], hb4⟩, by simp only [intOf]; omega⟩
    · have hlt : decide (4096 * (j : Int) < (K : Int) * 65536) = false := decide_eq_false (by omega)
      go_wp2_with fail
      go_ret
      exact ⟨rfl, hb⟩

end Go.Proofs.Ytlcndenbnokcjaa
