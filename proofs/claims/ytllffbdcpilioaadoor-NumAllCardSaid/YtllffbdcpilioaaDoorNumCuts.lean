/-
  num.Un up to 120; the walk of plaitlaw03.NumCuts.
-/
import Derived.Test.YtllffbdcpilioaaDoorNumCnt
import Derived.Test.YtllffbdcpilioaaDoorNumOrders
import Derived.Test.YtllffbdcpilioaaDoorDoG
set_option linter.unusedSimpArgs false
set_option linter.unusedVariables false
namespace Go.Proofs.YtllffbdcpilioaaDoor
open Go.RowKit _root_.Nm Pl
set_option linter.unusedVariables false
set_option linter.unusedSimpArgs false

theorem tz32_op (x : B64) (w : World) (hT : Tab32 w) : Calls Tryd.prog 18 #[.int .i64 104, .int .u64 (x.toNat : Int)] w fun e w' => e = .returned (.tuple #[.int .u64 ((BitVec.ofNat 64 (Lib.ctz 32 (lo x).toNat)).toNat : Int), .int .i64 0]) ∧ w' = w := by
  have H := Lib.hid (show ((104 : Int)) = 69 ∨ (104 : Int) = 80 ∨ 103 ≤ (104 : Int) ∧ (104 : Int) ≤ 105 ∨ 121 ≤ (104 : Int) ∧ (104 : Int) ≤ 123 ∨ (104 : Int) = 167 ∨ (104 : Int) = 172 ∨ (104 : Int) = 173 ∨ 192 ≤ (104 : Int) ∧ (104 : Int) ≤ 196 by omega)
  have ex := lo_arg x
  have HT := Lib.hid hT
  have hl := ctz_le 32 (lo x).toNat
  go_enter Tryd.func18, Tryd.ntmps18
  go_wp2_with (first | (go_at_call 11; refine (arity_1 _ H.out).mono ?_; rintro e w' ⟨rfl, rfl⟩) | (go_at_call 26; refine (tz32_any _ _ HT.out).mono ?_; rintro e w' ⟨rfl, rfl⟩))
  go_ret2
  refine ⟨ret_n64 ?_ 0, rfl⟩
  rw [ofNat_small _ (by omega)]
theorem ones32_op (x : B64) (w : World) : Calls Tryd.prog 18 #[.int .i64 105, .int .u64 (x.toNat : Int)] w fun e w' => e = .returned (.tuple #[.int .u64 ((BitVec.ofNat 64 (Lib.onesCount (lo x).toNat)).toNat : Int), .int .i64 0]) ∧ ∃ n, w' = w.drewN n := by
  have H := Lib.hid (show ((105 : Int)) = 69 ∨ (105 : Int) = 80 ∨ 103 ≤ (105 : Int) ∧ (105 : Int) ≤ 105 ∨ 121 ≤ (105 : Int) ∧ (105 : Int) ≤ 123 ∨ (105 : Int) = 167 ∨ (105 : Int) = 172 ∨ (105 : Int) = 173 ∨ 192 ≤ (105 : Int) ∧ (105 : Int) ≤ 196 by omega)
  have ex := lo_arg x
  have hl := pop_le (lo x).toNat
  go_enter Tryd.func18, Tryd.ntmps18
  go_wp2_with (first | (go_at_call 11; refine (arity_1 _ H.out).mono ?_; rintro e w' ⟨rfl, rfl⟩) | (go_at_call 27; refine (ones32_any _ _).mono ?_; rintro e w' ⟨rfl, m, rfl⟩))
  go_ret2
  refine ⟨ret_n64 ?_ 0, ⟨_, rfl⟩⟩
  rw [ofNat_small _ (by omega)]
theorem un_none (op : Int) (x : B64) (w : World) (h : ¬ (op = 69 ∨ op = 80 ∨ 103 ≤ op ∧ op ≤ 105 ∨ 121 ≤ op ∧ op ≤ 123 ∨ op = 167 ∨ op = 172 ∨ op = 173 ∨ 192 ≤ op ∧ op ≤ 196)) : Calls Tryd.prog 18 #[.int .i64 op, .int .u64 (x.toNat : Int)] w fun e w' => e = .returned (.tuple #[.int .u64 ((0#64).toNat : Int), .int .i64 1]) ∧ w' = w := by
  have H := Lib.hid h
  clear h
  go_enter Tryd.func18, Tryd.ntmps18
  go_wp2_with (go_at_call 11; refine (arity_no1 _ H.out).mono ?_; rintro e w' ⟨k, hk, rfl, rfl⟩)
  go_ret2
  exact ⟨rfl, rfl⟩
theorem same_drew {f : FuncId} {args : Array Value} {w : World} {v : Ending} (h : Calls Tryd.prog f args w fun e w' => e = v ∧ w' = w) : Calls Tryd.prog f args w fun e w' => e = v ∧ ∃ n, w' = w.drewN n :=
  h.mono fun e w' ⟨h1, h2⟩ => ⟨h1, 0, h2⟩
theorem un_low (op : Int) (x : B64) (w : World) (hT : Tab32 w) (hb : op ≤ 79 ∨ 91 ≤ op ∧ op ≤ 120) : Calls Tryd.prog 18 #[.int .i64 op, .int .u64 (x.toNat : Int)] w fun e w' => e = .returned (.tuple #[.int .u64 ((unB op x).1.toNat : Int), .int .i64 (unB op x).2]) ∧ ∃ n, w' = w.drewN n := by
  by_cases a : op = 69
  · subst a; exact same_drew (eqz32_op x w)
  by_cases b : op = 103
  · subst b; exact same_drew (lz32_op x w)
  by_cases c : op = 104
  · subst c; exact same_drew (tz32_op x w hT)
  by_cases d : op = 105
  · subst d; exact ones32_op x w
  have e : unB op x = (0, 1) := by
    unfold unB
    rw [if_neg a, if_neg (show ¬ op = 80 by omega), if_neg b, if_neg c, if_neg d, if_neg (show ¬ op = 121 by omega), if_neg (show ¬ op = 122 by omega), if_neg (show ¬ op = 123 by omega), if_neg (show ¬ (op = 167 ∨ op = 173) by omega),
      if_neg (show ¬ (op = 172 ∨ op = 196) by omega), if_neg (show ¬ op = 192 by omega), if_neg (show ¬ op = 193 by omega), if_neg (show ¬ op = 194 by omega), if_neg (show ¬ op = 195 by omega)]
  rw [e]
  exact same_drew (un_none op x w (by omega))
theorem cut_facts (op : Int) (x y h : B64) (hb : op ≤ 79 ∨ 91 ≤ op ∧ op ≤ 120) : ∃ (z c : B64) (E G : Int), binB op x y = (z, E) ∧ binB op (x ^^^ h <<< 32) (y ^^^ h <<< 32) = (z, E) ∧ unB op x = (c, G) ∧ unB op (x ^^^ h <<< 32) = (c, G) ∧ decide ((4294967296 : Int) ≤ (z.toNat : Int)) = false ∧ decide ((4294967296 : Int) ≤ (c.toNat : Int)) = false := by
  refine ⟨(binB op x y).1, (unB op x).1, (binB op x y).2, (unB op x).2, rfl, ?_, rfl, ?_, ?_, ?_⟩
  · exact (lo_eq (lo_hi x h) op (by omega) _ _ (lo_hi y h))
  · exact un_lo (lo_hi x h) op (by omega) (by omega)
  · have := bin_lt op x y hb; rw [decide_eq_false_iff_not]; omega
  · have := un_lt op x hb; rw [decide_eq_false_iff_not]; omega
theorem bin_c2 (op : Int) (x y q : B64) (zx zy E : Int) (w : World) (hx : zx = (x.toNat : Int)) (hy : zy = (y.toNat : Int)) (h : binB op x y = (q, E)) (hb : -9223372036854775808 ≤ op ∧ op ≤ 9223372036854775807) :
    Calls Tryd.prog 14 #[.int .i64 op, .int .u64 zx, .int .u64 zy] w fun e w' => e = .returned (.tuple #[.int .u64 (q.toNat : Int), .int .i64 E]) ∧ w' = w := by
  subst hx hy
  have := bin_any op x y w hb
  rw [h] at this
  exact this
theorem un_c2 (op : Int) (x c : B64) (zx G : Int) (w : World) (hx : zx = (x.toNat : Int)) (hT : Tab32 w) (h : unB op x = (c, G)) (hb : op ≤ 79 ∨ 91 ≤ op ∧ op ≤ 120) :
    Calls Tryd.prog 18 #[.int .i64 op, .int .u64 zx] w fun e w' => e = .returned (.tuple #[.int .u64 (c.toNat : Int), .int .i64 G]) ∧ ∃ n, w' = w.drewN n := by
  subst hx
  have := un_low op x w hT hb
  rw [h] at this
  exact this
theorem Tab32.drewN {w : World} (h : Tab32 w) (n : Nat) : Tab32 (w.drewN n) := fun k hk => by
  have := h k hk
  induction n with
  | zero => exact this
  | succ n ih => exact ih
structure DT (w0 u : World) : Prop where
  ex : ∃ n, u = w0.drewN n
  tab : Tab32 u
theorem DT.drew {w0 u : World} (h : DT w0 u) (n : Nat) : DT w0 (u.drewN n) := ⟨by obtain ⟨m, rfl⟩ := h.ex; exact ⟨_, World.drewN_drewN _ _ _⟩, h.tab.drewN n⟩
structure DW (w0 u : World) : Prop where
  ex : ∃ n, u = w0.drewN n
theorem DW.drew {w0 u : World} (h : DW w0 u) : DW w0 u.drew := ⟨by obtain ⟨m, rfl⟩ := h.ex; exact ⟨m + 1, rfl⟩⟩
section
open Pl
variable {P : Program} {ops : Array Oper} {S : World → Prop}
theorem wpD_callg {L : Act → Prop} {o : Oper} {rest : List Oper} {v : Value} {a : Act} (hg : Region.wanted o (yielded ops a.tmps) = true) (f : FuncId) (args : Array Value)
    (h : ∀ w, (execOp a.eval o).run P w = .ok (.enter f args) w) (hc : ∀ w, S w → Calls P f args w (fun e w2 => e = .returned v ∧ S w2))
    (hr : wpD P ops S L rest (a.put o.dst v)) : wpD P ops S L (o :: rest) a :=
  ⟨v, .inl ⟨hg, fun w hS => ⟨w, .inr (.inr ⟨f, args, h w, hc w hS⟩)⟩⟩, hr⟩
end
theorem shl32_arg (h : B64) : IntKind.u64.wrap ((h.toNat : Int) * 4294967296) = ((h <<< 32).toNat : Int) := by
  rw [IntKind.wrap_u64]
  have := n_shl h 32
  rw [show (2 : Int) ^ 32 = 4294967296 from rfl, show (2 : Int) ^ 64 = 18446744073709551616 from rfl] at this
  exact this
theorem xor_any (a b : B64) : bits .xor .u64 (a.toNat : Int) (b.toNat : Int) = ((a ^^^ b).toNat : Int) := by
  rw [u64_xor_nat _ _ a.isLt b.isLt, BitVec.toNat_xor]
theorem lub_167 (y : B64) (zy : Int) (w : World) (hy : zy = (y.toNat : Int)) : Calls Tryd.prog 16 #[.int .i64 167, .int .u64 zy] w fun e w' => e = .returned (.int .u64 ((uB 167 y).toNat : Int)) ∧ w' = w := by
  subst hy; exact lun_of (fun w => wrap_op y w)
theorem lub_173 (y : B64) (zy : Int) (w : World) (hy : zy = (y.toNat : Int)) : Calls Tryd.prog 16 #[.int .i64 173, .int .u64 zy] w fun e w' => e = .returned (.int .u64 ((uB 173 y).toNat : Int)) ∧ w' = w := by
  subst hy; exact lun_of (fun w => extu_op y w)
theorem lub_172 (y : B64) (zy : Int) (w : World) (hy : zy = (y.toNat : Int)) : Calls Tryd.prog 16 #[.int .i64 172, .int .u64 zy] w fun e w' => e = .returned (.int .u64 ((uB 172 y).toNat : Int)) ∧ w' = w := by
  subst hy; exact lun_of (fun w => exts_op y w)
theorem lub_196 (y : B64) (zy : Int) (w : World) (hy : zy = (y.toNat : Int)) : Calls Tryd.prog 16 #[.int .i64 196, .int .u64 zy] w fun e w' => e = .returned (.int .u64 ((uB 196 y).toNat : Int)) ∧ w' = w := by
  subst hy; exact lun_of (fun w => exts2_op y w)
theorem lub_192 (y : B64) (zy : Int) (w : World) (hy : zy = (y.toNat : Int)) : Calls Tryd.prog 16 #[.int .i64 192, .int .u64 zy] w fun e w' => e = .returned (.int .u64 ((uB 192 y).toNat : Int)) ∧ w' = w := by
  subst hy; exact lun_of (fun w => e8_op y w)
theorem lub_193 (y : B64) (zy : Int) (w : World) (hy : zy = (y.toNat : Int)) : Calls Tryd.prog 16 #[.int .i64 193, .int .u64 zy] w fun e w' => e = .returned (.int .u64 ((uB 193 y).toNat : Int)) ∧ w' = w := by
  subst hy; exact lun_of (fun w => e16_op y w)
theorem lub_194 (y : B64) (zy : Int) (w : World) (hy : zy = (y.toNat : Int)) : Calls Tryd.prog 16 #[.int .i64 194, .int .u64 zy] w fun e w' => e = .returned (.int .u64 ((uB 194 y).toNat : Int)) ∧ w' = w := by
  subst hy; exact lun_of (fun w => e8l_op y w)
theorem lub_195 (y : B64) (zy : Int) (w : World) (hy : zy = (y.toNat : Int)) : Calls Tryd.prog 16 #[.int .i64 195, .int .u64 zy] w fun e w' => e = .returned (.int .u64 ((uB 195 y).toNat : Int)) ∧ w' = w := by
  subst hy; exact lun_of (fun w => e16l_op y w)
theorem low_arg2 (x : B64) : bits .and .u64 (x.toNat : Int) 4294967295 = ((x &&& 4294967295#64).toNat : Int) := by
  have h := u64_and_nat x.toNat 4294967295 x.isLt (by decide)
  rw [show ((4294967295 : Nat) : Int) = 4294967295 from rfl] at h
  rw [h, BitVec.toNat_and]; rfl
theorem top_test (s l : B64) (h : s >>> 63 = l >>> 31) : (((s.toNat : Int) / 9223372036854775808) == ((l.toNat : Int) / 2147483648)) = true := by
  have := congrArg BitVec.toNat h
  rw [BitVec.toNat_ushiftRight, BitVec.toNat_ushiftRight, Nat.shiftRight_eq_div_pow, Nat.shiftRight_eq_div_pow, show (2 : Nat) ^ 63 = 9223372036854775808 from rfl, show (2 : Nat) ^ 31 = 2147483648 from rfl] at this
  rw [beq_iff_eq]; omega
theorem luv_167 (y v : B64) (zy : Int) (w : World) (hy : zy = (y.toNat : Int)) (h : uB 167 y = v) : Calls Tryd.prog 16 #[.int .i64 167, .int .u64 zy] w fun e w' => e = .returned (.int .u64 (v.toNat : Int)) ∧ w' = w := by
  subst h; exact lub_167 y zy w hy
theorem luv_172 (y v : B64) (zy : Int) (w : World) (hy : zy = (y.toNat : Int)) (h : uB 172 y = v) : Calls Tryd.prog 16 #[.int .i64 172, .int .u64 zy] w fun e w' => e = .returned (.int .u64 (v.toNat : Int)) ∧ w' = w := by
  subst h; exact lub_172 y zy w hy
theorem luv_173 (y v : B64) (zy : Int) (w : World) (hy : zy = (y.toNat : Int)) (h : uB 173 y = v) : Calls Tryd.prog 16 #[.int .i64 173, .int .u64 zy] w fun e w' => e = .returned (.int .u64 (v.toNat : Int)) ∧ w' = w := by
  subst h; exact lub_173 y zy w hy
theorem luv_196 (y v : B64) (zy : Int) (w : World) (hy : zy = (y.toNat : Int)) (h : uB 196 y = v) : Calls Tryd.prog 16 #[.int .i64 196, .int .u64 zy] w fun e w' => e = .returned (.int .u64 (v.toNat : Int)) ∧ w' = w := by
  subst h; exact lub_196 y zy w hy
theorem luv_192 (y v : B64) (zy : Int) (w : World) (hy : zy = (y.toNat : Int)) (h : uB 192 y = v) : Calls Tryd.prog 16 #[.int .i64 192, .int .u64 zy] w fun e w' => e = .returned (.int .u64 (v.toNat : Int)) ∧ w' = w := by
  subst h; exact lub_192 y zy w hy
theorem luv_193 (y v : B64) (zy : Int) (w : World) (hy : zy = (y.toNat : Int)) (h : uB 193 y = v) : Calls Tryd.prog 16 #[.int .i64 193, .int .u64 zy] w fun e w' => e = .returned (.int .u64 (v.toNat : Int)) ∧ w' = w := by
  subst h; exact lub_193 y zy w hy
theorem luv_194 (y v : B64) (zy : Int) (w : World) (hy : zy = (y.toNat : Int)) (h : uB 194 y = v) : Calls Tryd.prog 16 #[.int .i64 194, .int .u64 zy] w fun e w' => e = .returned (.int .u64 (v.toNat : Int)) ∧ w' = w := by
  subst h; exact lub_194 y zy w hy
theorem luv_195 (y v : B64) (zy : Int) (w : World) (hy : zy = (y.toNat : Int)) (h : uB 195 y = v) : Calls Tryd.prog 16 #[.int .i64 195, .int .u64 zy] w fun e w' => e = .returned (.int .u64 (v.toNat : Int)) ∧ w' = w := by
  subst h; exact lub_195 y zy w hy
set_option maxHeartbeats 4000000 in
set_option maxRecDepth 100000 in
theorem cuts_walk (x y h : B64) (w : World) (hT : Tab32 w) : Calls Tryd.prog 8 #[.int .u64 (x.toNat : Int), .int .u64 (y.toNat : Int), .int .u64 (h.toNat : Int)] w fun e w' => e = .returned (.bool true) ∧ ∃ n, w' = w.drewN n := by
  obtain ⟨u, hu⟩ : ∃ u : B64, u = h <<< 32 := ⟨_, rfl⟩
  have es : IntKind.u64.wrap ((h.toNat : Int) * 4294967296) = (u.toNat : Int) := by rw [hu]; exact shl32_arg h
  have HX := Lib.hid (xor_any x u)
  have HY := Lib.hid (xor_any y u)
  have HU := Lib.hid hu
  have hd : DT w w := ⟨⟨0, rfl⟩, hT⟩
  clear hT hu
  go_enter Tryd.func8, Tryd.ntmps8
  go_wp2_with (go_at_call 10; refine (awake_any _).mono ?_; rintro e w' ⟨rfl, h0⟩; obtain rfl := h0.symm)
  go_loopw [8] (fun ov wr => ∃ op : Int, 69 ≤ op ∧ op ≤ 121 ∧ ov = .int .i64 op ∧ DT w wr) (fun ov _ => (121 - intOf ov).toNat)
  case atStart => exact ⟨69, by decide, by decide, rfl, hd⟩
  case round =>
    clear hd
    obtain ⟨op, h1, h2, rfl, hs⟩ := hrel
    rcases (show op = 121 ∨ 80 ≤ op ∧ op ≤ 90 ∨ op ≤ 79 ∨ 91 ≤ op ∧ op ≤ 120 by omega) with rfl | ⟨h3, h4⟩ | h3 | ⟨h3, h4⟩
    · obtain ⟨c1, c2, c3, c4, c5, c6, c7, c8⟩ := cuts x
      have c9 : uB 173 (x ^^^ u) = uB 167 x := by rw [HU.out]; show up (lo (x ^^^ h <<< 32)) = up (lo x); rw [lo_hi]
      have el : bits .and .u64 (x.toNat : Int) 4294967295 = ((uB 167 x).toNat : Int) := by rw [c1]; exact low_arg2 x
      have hl := Lib.hid (show uB 167 x = uB 167 x from rfl)
      obtain ⟨l, h1⟩ : ∃ l, uB 167 x = l := ⟨_, rfl⟩
      obtain ⟨s, h2⟩ : ∃ s, uB 172 x = s := ⟨_, rfl⟩
      obtain ⟨e8, h3⟩ : ∃ s, uB 192 x = s := ⟨_, rfl⟩
      obtain ⟨e16, h4⟩ : ∃ s, uB 193 x = s := ⟨_, rfl⟩
      obtain ⟨k8, h5⟩ : ∃ s, uB 194 x = s := ⟨_, rfl⟩
      obtain ⟨k16, h6⟩ : ∃ s, uB 195 x = s := ⟨_, rfl⟩
      simp only [h1, h2, h3, h4, h5, h6] at c2 c3 c4 c5 c6 c7 c8 c9 el
      have t5 := top_test _ _ c5
      have HE := Lib.hid hs.ex
      have G1 := Lib.hid h1
      have G2 := Lib.hid h2
      have G3 := Lib.hid h3
      have G4 := Lib.hid h4
      have G5 := Lib.hid h5
      have G6 := Lib.hid h6
      have C2 := Lib.hid c2
      have C3 := Lib.hid c3
      have C4 := Lib.hid c4
      have C6 := Lib.hid c6
      have C7 := Lib.hid c7
      have C8 := Lib.hid c8
      have C9 := Lib.hid c9
      clear c1 c2 c3 c4 c5 c6 c7 c8 c9 hs h1 h2 h3 h4 h5 h6 hl
      go_wp2_with (first | (go_at_call 16; (with_reducible refine (luv_167 x l _ _ rfl G1.out).mono ?_); rintro e w' ⟨rfl, rfl⟩) | (go_at_call 16; (with_reducible refine (luv_172 x s _ _ rfl G2.out).mono ?_); rintro e w' ⟨rfl, rfl⟩) | (go_at_call 16; (with_reducible refine (luv_167 s l _ _ rfl C2.out).mono ?_); rintro e w' ⟨rfl, rfl⟩) | (go_at_call 16; (with_reducible refine (luv_173 (x ^^^ u) l _ _ HX.out C9.out).mono ?_); rintro e w' ⟨rfl, rfl⟩) | (go_at_call 16; (with_reducible refine (luv_196 x s _ _ rfl C3.out).mono ?_); rintro e w' ⟨rfl, rfl⟩) | (go_at_call 16; (with_reducible refine (luv_196 s s _ _ rfl C4.out).mono ?_); rintro e w' ⟨rfl, rfl⟩) | (go_at_call 16; (with_reducible refine (luv_192 x e8 _ _ rfl G3.out).mono ?_); rintro e w' ⟨rfl, rfl⟩) | (go_at_call 16; (with_reducible refine (luv_193 e8 e8 _ _ rfl C6.out).mono ?_); rintro e w' ⟨rfl, rfl⟩) | (go_at_call 16; (with_reducible refine (luv_194 x k8 _ _ rfl G5.out).mono ?_); rintro e w' ⟨rfl, rfl⟩) | (go_at_call 16; (with_reducible refine (luv_167 k8 e8 _ _ rfl C7.out).mono ?_); rintro e w' ⟨rfl, rfl⟩) | (go_at_call 16; (with_reducible refine (luv_195 x k16 _ _ rfl G6.out).mono ?_); rintro e w' ⟨rfl, rfl⟩) | (go_at_call 16; (with_reducible refine (luv_167 k16 e16 _ _ rfl C8.out).mono ?_); rintro e w' ⟨rfl, rfl⟩) | (go_at_call 16; (with_reducible refine (luv_193 x e16 _ _ rfl G4.out).mono ?_); rintro e w' ⟨rfl, rfl⟩))
      go_ret
      exact ⟨rfl, HE.out⟩
    · go_wp2_with fail
      go_roundw
      case rel => exact ⟨op + 1, by omega, by omega, rfl, hs⟩
      case measure => (simp [intOf] <;> omega)
    all_goals
      obtain ⟨z, c, E, G, q1, q2, q3, q4, q5, q6⟩ := cut_facts op x y h (by omega)
      rw [← HU.out] at q2 q4
      have H1 := Lib.hid q1
      have H2 := Lib.hid q2
      have H3 := Lib.hid q3
      have H4 := Lib.hid q4
      have H5 := Lib.hid (show -9223372036854775808 ≤ op ∧ op ≤ 9223372036854775807 by omega)
      have H6 := Lib.hid (show op ≤ 79 ∨ 91 ≤ op ∧ op ≤ 120 by omega)
      clear q1 q2 q3 q4
      go_wp2_with (first | (go_at_call 14; (with_reducible refine (bin_c2 op x y z _ _ E _ rfl rfl H1.out H5.out).mono ?_); rintro e w' ⟨rfl, rfl⟩) | (go_at_call 14; (with_reducible refine (bin_c2 op (x ^^^ u) (y ^^^ u) z _ _ E _ HX.out HY.out H2.out H5.out).mono ?_); rintro e w' ⟨rfl, rfl⟩) | (go_at_call 18; (with_reducible refine (un_c2 op x c _ G _ rfl hs.tab H3.out H6.out).mono ?_); rintro e w' ⟨rfl, n1, rfl⟩; replace hs := hs.drew n1) | (go_at_call 18; (with_reducible refine (un_c2 op (x ^^^ u) c _ G _ HX.out hs.tab H4.out H6.out).mono ?_); rintro e w' ⟨rfl, n2, rfl⟩; replace hs := hs.drew n2))
      go_roundw
      case rel => exact ⟨op + 1, by omega, by omega, rfl, (World.drewN_drewN _ _ _) ▸ hs⟩
      case measure => (simp [intOf] <;> omega)

end Go.Proofs.YtllffbdcpilioaaDoor
