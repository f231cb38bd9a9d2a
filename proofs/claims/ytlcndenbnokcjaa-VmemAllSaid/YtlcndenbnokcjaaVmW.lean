/-
  plaitlaw11.filled and untouched; an instruction that is loaded.
-/
import Derived.Test.YtlcndenbnokcjaaVmF
import Derived.Test.YtlcndenbnokcjaaVmH
import Derived.Laws.BitsAllLaws
set_option linter.unusedSimpArgs false
set_option linter.unusedVariables false
namespace Go.Proofs.Ytlcndenbnokcjaa
open Go.RowKit Pl

theorem iunder : ∃ fs, Try.prog.underlying 65 = some (.struct fs) := ⟨_, rfl⟩
theorem isize (a b c d e f : Value) : (Try.prog.info? 65).map (·.size) = some (#[a, b, c, d, e, f] : Array Value).size := by kernel_rfl
theorem load_in {ops : Array Oper} {rest : List Oper} {o : Oper} {a : Act} {w : World} {Q : Exit → Act → World → Prop} (hw : Region.wanted o (yielded ops a.tmps) = true) (x : Operand) (ho : o.op = .load 65 x)
    (g : Nat) (hx : a.eval x = .pointer (some ⟨g, 0, none⟩)) (c0 c1 c2 c3 c4 c5 : Value) (hg : w.heap[g]? = some (.cells #[c0, c1, c2, c3, c4, c5] 65 (0, 0)))
    (h : wpList Try.prog ops Q rest (a.put o.dst (.agg #[c0, c1, c2, c3, c4, c5])) w) : wpList Try.prog ops Q (o :: rest) a w :=
  wpList_step fun K hK => by
    rw [if_pos hw]
    obtain ⟨fs, hf⟩ := iunder
    exact wp_load_row _ x ho g hx _ _ _ _ hg hf rfl (isize _ _ _ _ _ _) (hK _ _ h)
/-- The byte that filled lays at a place. -/
def fillB (i : Nat) : Nat := (i % 256) ^^^ (i / 256 % 256)
theorem fillB_lt (i : Nat) : fillB i < 256 := Nat.xor_lt_two_pow (n := 8) (by omega) (by omega)
theorem fillB_bits (i : Nat) (h : i < 65536) : bits BinOp.xor IntKind.u8 ((i : Int) % 256) ((i : Int) / 256) = ((fillB i : Nat) : Int) := by
  have := u8_xor_nat (i % 256) (i / 256) (by omega) (by omega)
  rw [show ((i : Int) % 256) = ((i % 256 : Nat) : Int) by simp, show ((i : Int) / 256) = ((i / 256 : Nat) : Int) by simp, this]
  unfold fillB
  rw [Nat.mod_eq_of_lt (show i / 256 < 256 by omega)]
theorem MS.aside {w0 u u1 : World} {l : List MObj} {B : Nat} (h : MS w0 l u) (k : Keep (fun b => b = B) u u1) (hB : w0.heap.size ≤ B) (hn : ∀ o ∈ l, ¬ o.has B) : MS w0 l u1 :=
  ⟨Keep.below h.bel k h.bel.size (fun b e => e ▸ hB), fun o ho => (h.mem o ho).keep k (fun b hb e => hn o ho (e ▸ hb)), h.new, h.nd⟩
set_option maxRecDepth 100000 in
set_option maxHeartbeats 1000000 in
theorem filled_k (w : World) : Calls Try.prog 35 #[] w fun e w' => ∃ o, e = .returned (.pointer (some ⟨o.p, 0, none⟩)) ∧ Fresh w w' o 86 65536 fillB 1 := by
  have hN : ∀ W, Calls Try.prog 13 #[.int .i64 1, .int .i64 1] W fun e w' => ∃ o, e = .returned (.tuple #[.pointer (some ⟨o.p, 0, none⟩), .int .i64 0]) ∧ Fresh W w' o 86 65536 (fun _ => 0) 1 := fun W => new_ok 1 1 W (by decide) (by decide)
  have HN := Lib.hid hN
  clear hN
  go_enter Try.func35, Try.ntmps35
  go_wp2_with fail
  refine (HN.out _).mono ?_
  rintro e u1 ⟨o, rfl, hf⟩
  have hmk := make_bytes u1 65536 (by decide)
  have hz0 := row_new u1 65536
  obtain ⟨u2, hu2⟩ : ∃ u2, u2 = u1.alloc (.cells (zerosN 65536) 5) := ⟨_, rfl⟩
  rw [← hu2] at hmk hz0
  have hb2 : Below u1.heap.size u1 u2 := hu2 ▸ (Below.refl _ _).alloc (Nat.le_refl _) _
  obtain ⟨B, hB⟩ : ∃ B, B = u1.heap.size := ⟨_, rfl⟩
  rw [← hB] at hmk hz0
  have hoB : ∀ k, o.has k → k < B := fun k hk => hB ▸ hf.mem.has_lt hk
  have hwB : w.heap.size ≤ B := hB ▸ hf.bel.size
  have hm2 := hf.mem.below hb2
  have hbel : Below w.heap.size w u2 := hf.bel.trans (hb2.mono hf.bel.size)
  have hmk2 : (Instr.makeSlice 48 (.int .i64 65536) (.int .i64 65536)).run Try.prog u1 = .ok (.slice (some ⟨B, 0, none⟩) 65536 65536) u2 := hmk
  have HF := Lib.hid hf
  obtain ⟨N, hN⟩ : ∃ N : Nat, N = 65536 := ⟨_, rfl⟩
  rw [← hN] at hmk2 hz0
  have hN1 : (N : Int) ≤ 65536 := by omega
  have hN2 : (65536 : Int) ≤ N := by omega
  have HNN := Lib.hid hN
  clear hmk hB hu2 hb2 hf HN hN
  go_wp2_with fail
  go_loopw [4] (fun iv wr => ∃ I : Nat, (I : Int) ≤ 65536 ∧ iv = .int .i64 (I : Nat) ∧ BytesAt wr B N N (fun k => if k < I then fillB k else 0) ∧ Keep (fun k => k = B) u2 wr) (fun iv _ => (65536 - intOf iv).toNat)
  case atStart => exact ⟨0, by decide, rfl, hz0.congr (fun i hi => by simp), Keep.refl _ _⟩
  case round =>
    clear hz0 hmk2
    obtain ⟨I, hI, rfl, hr, hk⟩ := hrel
    by_cases hlt1 : (I : Int) < 65536
    · have hlt : I < N := by omega
      have hfz := hr.frozen I
      obtain ⟨x0, hcell⟩ : ∃ x0, wr.cell? ⟨B, I, none⟩ = some x0 := ⟨_, hr.cell hlt⟩
      have HR := Lib.hid hr
      clear hr
      have hx := fillB_bits I (by omega)
      go_wp2_with fail
      refine ⟨⟨I + 1, by omega, by go_num, (HR.out.set hlt (fillB_lt I)).congr (fun k hk => ?_), hk.setCell (.inl rfl) _⟩, by simp [intOf]; omega⟩
      unfold upd
      by_cases e : k = I
      · subst e; simp
      · by_cases c : k < I
        · rw [if_neg e, if_pos (show k < I + 1 by omega)]
          show _ = if k < I then fillB k else 0
          rw [if_pos c]
        · rw [if_neg e, if_neg (show ¬ k < I + 1 by omega)]
          show _ = if k < I then fillB k else 0
          rw [if_neg c]
    · obtain rfl : I = N := by omega
      go_wp2_with fail
      have hf := HF.out
      have hm3 := hm2.keep hk (fun b hb e => by have := hoB b hb; omega)
      have hn := hf.hn
      have hI6 := HNN.out
      refine (poke_k o wr hm3 0 I (.slice (some ⟨B, 0, none⟩) I I) (fun k => if k < I then fillB k else 0) (BView.row (q := some B) hr) (by decide) (by omega)).mono ?_
      rintro e u4 ⟨rfl, hm4, hk4⟩
      have hin : 0 + I ≤ o.n := by rw [hn, hI6]; decide
      rw [show pokeE o.n 0 I = 0 from if_pos hin]
      clear hr
      go_wp2_with fail
      go_ret
      have hbel3 : Below w.heap.size w wr := Keep.below hbel hk hbel.size (fun k e => e ▸ hwB)
      refine ⟨withβ o (pokeB o 0 I (fun k => if k < I then fillB k else 0)), rfl, ⟨hm4, Keep.below hbel3 hk4 hbel3.size (fun k e => hf.new k (.inr e)), hf.new, hf.hT, hn, fun i hi => ?_, hf.hmost⟩⟩
      show pokeB o 0 I _ i = _
      unfold pokeB
      rw [if_pos hin]
      unfold putB
      rw [if_pos (by omega)]
      show (if i - 0 < I then fillB (i - 0) else 0) = _
      rw [Nat.sub_zero, if_pos (by omega)]
set_option maxRecDepth 100000 in
set_option maxHeartbeats 1000000 in
theorem untouched_k (o : MObj) (w : World) (h : MemAt w o) (hn : o.n = 65536) (at_ n : Int) (ha : -1 ≤ at_ ∧ at_ ≤ 65536) (hnn : 0 ≤ n ∧ n ≤ 16) (hβ : ∀ k : Nat, k < 65536 → ((k : Int) < at_ ∨ at_ + n ≤ k) → o.β k = fillB k) :
    Calls Try.prog 36 #[.pointer (some ⟨o.p, 0, none⟩), .int .i64 at_, .int .i64 n] w fun e w' => e = .returned (.bool true) ∧ Below w.heap.size w w' := by
  go_enter Try.func36, Try.ntmps36
  go_wp2_with fail
  go_loopw [7] (fun fv wr => ∃ f : Nat, (f : Int) ≤ 65536 ∧ f % 4096 = 0 ∧ fv = .int .i64 (f : Nat) ∧ Below w.heap.size w wr) (fun fv _ => (65536 - intOf fv).toNat)
  case atStart => exact ⟨0, by decide, by decide, rfl, Below.refl _ _⟩
  case round =>
    obtain ⟨f, hf, hf4, rfl, hb⟩ := hrel
    by_cases hlt : (f : Int) < 65536
    · have hm := h.below hb
      have hf5 : (f : Int) + 4096 ≤ 65536 := by omega
      go_wp2_with fail
      refine (peek_z o wr hm (f : Int) 4096 (by omega) (by decide) (by rw [hn]; omega)).mono ?_
      rintro e u1 ⟨v1, rfl, k1⟩
      obtain ⟨q, c, rfl, hr, hq⟩ := k1.ex
      have hb1 := Below.trans hb (k1.bel.mono hb.size)
      obtain ⟨b, rfl, hr⟩ := hr.pos (by decide)
      rw [show headOf (some b) = some ⟨b, 0, none⟩ from rfl]
      have HR := Lib.hid hr
      have hle := hr.le
      clear hr hq k1
      go_wp2_with fail
      go_loopw [10] (fun iv wr => ∃ I : Nat, (I : Int) ≤ 4096 ∧ iv = .int .i64 (I : Nat) ∧ wr = u1) (fun iv _ => (4096 - intOf iv).toNat)
      case atStart => exact ⟨0, by decide, rfl, rfl⟩
      case round =>
        obtain ⟨I, hI, rfl, rfl⟩ := hrel
        by_cases hlI : (I : Int) < 4096
        · obtain ⟨K, hK, hK1, hK2⟩ : ∃ K : Nat, (f : Int) + (I : Int) = (K : Int) ∧ f + I ≤ K ∧ K ≤ f + I := ⟨f + I, by omega, by omega, by omega⟩
          have hcell : wr.cell? ⟨b, I, none⟩ = some (.int .u8 (o.β K : Nat)) := by
            have := HR.out.cell (i := I) (by show I < (4096 : Int).toNat; omega)
            rw [show ((f : Int)).toNat + I = K by omega] at this
            exact this
          have hx := fillB_bits K (by omega)
          have hIc : I < c := by have : (4096 : Int).toNat ≤ c := hle; omega
          by_cases c1 : (K : Int) < at_
          · have he : o.β K = fillB K := hβ K (by omega) (.inl c1)
            rw [he] at hcell
            generalize fillB K = Y at *
            go_wp2_with fail
            exact ⟨⟨I + 1, by omega, by go_num, trivial⟩, by simp [intOf]; omega⟩
          · by_cases c2 : at_ + n ≤ K
            · have he : o.β K = fillB K := hβ K (by omega) (.inr c2)
              rw [he] at hcell
              generalize fillB K = Y at *
              go_wp2_with fail
              exact ⟨⟨I + 1, by omega, by go_num, trivial⟩, by simp [intOf]; omega⟩
            · generalize fillB K = Y at *
              go_wp2_with fail
              exact ⟨⟨I + 1, by omega, by go_num, trivial⟩, by simp [intOf]; omega⟩
        · go_wp2_with fail
          exact ⟨⟨f + 4096, by omega, by omega, by go_num, hb1⟩, by simp [intOf]; omega⟩
    · go_wp2_with fail
      go_ret
      exact ⟨rfl, hb⟩

end Go.Proofs.Ytlcndenbnokcjaa
