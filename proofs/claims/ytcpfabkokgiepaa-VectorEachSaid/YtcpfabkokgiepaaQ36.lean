/-
  Texts AriRS32, AriRS64.
-/
import Derived.Test.YtcpfabkokgiepaaQ34
set_option linter.unusedSimpArgs false
set_option linter.unusedVariables false
set_option maxHeartbeats 8000000
open Pl
section
namespace Go.Proofs.Ytcpfabkokgiepaa
open Go.RowKit Pl
set_option maxRecDepth 100000 in
theorem rsh_32_11 (v : Vec) (n p : Nat) (hp : n % 32 = p) (hn : n < 4294967296) (w : World) : Calls Try.prog 78 #[.int .i64 64939, .agg (mY v), .int .u32 (n : Int)] w fun e w' => e = .returned (.tuple #[.agg (mY (vs 32 11 p v)), .int .i64 0]) ∧ Below w.heap.size w w' := by
 have hp2 : (n : Int) % 32 = (p : Int) := by omega
 have hp3 : p < 32 := by omega
 clear hp
 have hs : HL w [(w.heap.size + 1, 0), (w.heap.size, v)] _ := HL.two w v 0
 rw [mU] at hs
 have T := Lib.hid (fun W => tY 64939 W (by decide))
 rw [show wF 64939 = 32 by decide] at T
 have K := Lib.hid (fun W => tE 64939 11 W (by decide) (by decide) (by decide))
 go_enter Try.func78, Try.ntmps78
 go_wp2_with (first | (go_at_call 85; (with_reducible refine (T.out _).mono ?_); rintro e u ⟨rfl, hb⟩; replace hs := hs.below hb; clear hb) | (go_at_call 86; (with_reducible refine (K.out _).mono ?_); rintro e u ⟨rfl, hb⟩; replace hs := hs.below hb; clear hb))
 rw [← mU]
 obtain ⟨O, W, hOO, hW, hA, hR, hO, hZ, nR, hWO⟩ := zH hs
 rw [← hOO]
 rw [← hW]
 clear hW hOO hs T K u
 go_loopw [11] (fun iv wr => ∃ i : Nat, i ≤ 4 ∧ iv = .int .i64 i ∧ St W O (mJ 0#128 32 (shR 32 11 p v) i) wr) (fun iv _ => 4 - (intOf iv).toNat)
 case atStart => exact xE
 case round =>
  obtain ⟨i, hi, rfl, hs⟩ := hrel
  by_cases hlt : i < 4
  ·obtain ⟨x, hxx⟩ : ∃ x, x = mT v 32 i := ⟨_, rfl⟩
   have bx : x < 4294967296 := hxx ▸ mL v 32 i
   have G := fun W => vL v i i W rfl hlt
   rw [← hxx] at G
   have HG := Lib.hid G
   clear G
   have HM : (shN 32 11 p x) % 2 ^ 32 = shR 32 11 p v i % 2 ^ 32 := by
    show _ = Pl.u64 ((mT v 32 i : Int) * 2 ^ p) % 2 ^ 32
    rw [← hxx]
    rfl
   have HE := Lib.hid (pJ 32 (shR 32 11 p v) 0#128 i (shN 32 11 p x) HM)
   clear HM hxx
   obtain ⟨g, hg⟩ : ∃ g : Nat → Nat, g = fun t => shN 32 11 t x := ⟨_, rfl⟩
   have g0 : g 0 = x := by rw [hg]; show Pl.u64 ((x : Int) * 2 ^ 0) = x; rw [show (2 : Int) ^ 0 = 1 from rfl, Int.mul_one]; unfold Pl.u64; omega
   have gs : ∀ t, IntKind.u64.wrap ((g t : Int) * 2) = ((g (t + 1) : Nat) : Int) := fun t => by rw [hg]; exact sh11 t x
   have gl : ∀ t, g t < 2 ^ 64 := fun t => by rw [hg]; exact (tR ((x : Int) * 2 ^ t))
   have hgp : (shN 32 11 p x) = g p := by rw [hg]
   rw [hgp] at HE
   have HZ2 := Lib.hid (gl p)
   have GS := Lib.hid gs
   have G0 := Lib.hid g0
   have GL := Lib.hid gl
   clear gs g0 hgp hg gl
   go_wp2_with (first | (go_at_call 82; ((with_reducible refine (pR _).mono ?_); rintro e w' ⟨rfl, rfl⟩)) | (with_reducible refine mG rfl _ rfl _ rfl _ (hs.kb.get hA (by omega)) ?_) | (go_at_call 74; (with_reducible refine (HG.out _).mono ?_); rintro e u ⟨rfl, hb⟩; replace hs := hs.below hb; clear hb))
   go_loopw [12, 14] (fun xv pv wx => ∃ t : Nat, t ≤ p ∧ pv = .int .i64 t ∧ xv = .int .u64 (g t : Nat) ∧ St W O (mJ 0#128 32 (shR 32 11 p v) i) wx) (fun _ pv _ => p - (intOf pv).toNat)
   case atStart => exact yP
   case round =>
    clear hs
    obtain ⟨t, ht, rfl, rfl, hs⟩ := hrel
    by_cases htp : t < p
    ·exact wG
    ·obtain rfl : t = p := by omega
     go_wp2_with (first | (go_at_call 82; ((with_reducible refine (pR _).mono ?_); rintro e w' ⟨rfl, rfl⟩)) | (with_reducible refine mG rfl _ rfl _ rfl _ hs.this ?_) | (go_at_call 68; (with_reducible refine (vM (mJ 0#128 32 (shR 32 11 t v) i) _ _ i (g t) _ rfl rfl hlt HZ2.out).mono ?_); rintro e u ⟨rfl, hb⟩; replace hs := hs.below hb; clear hb) | (with_reducible refine mK rfl _ _ rfl O _ rfl rfl _ hs.this ?_; intro wq hq; replace hs := hs.sets hq; clear hq))
     go_roundw
     case rel => exact xH
     case measure => exact xL
  ·obtain rfl : i = 4 := by omega
   have hR' := hs.kb.get hR (by omega)
   go_wp2_with (first | (go_at_call 82; ((with_reducible refine (pR _).mono ?_); rintro e w' ⟨rfl, rfl⟩)) | (with_reducible refine mG rfl _ rfl _ rfl _ hs.this ?_) | (with_reducible refine mK rfl _ _ rfl (w.heap.size + 1) _ rfl rfl _ hR' ?_; intro wq hq))
   refine bodyPost_ret (mS rfl _ _ (w.heap.size + 1) _ _ rfl rfl hq.this) rfl ⟨?_, (hs.kb.to_below hZ hWO).trans (hq.below.mono (by omega))⟩
   exact congrArg (fun z => Ending.returned (.tuple #[.agg (mY z), .int .i64 0])) (rJ 32 (shR 32 11 p v) v (by decide))
set_option maxRecDepth 100000 in
theorem rsh_32_12 (v : Vec) (n p : Nat) (hp : n % 32 = p) (hn : n < 4294967296) (w : World) : Calls Try.prog 78 #[.int .i64 64940, .agg (mY v), .int .u32 (n : Int)] w fun e w' => e = .returned (.tuple #[.agg (mY (vs 32 12 p v)), .int .i64 0]) ∧ Below w.heap.size w w' := by
 have hp2 : (n : Int) % 32 = (p : Int) := by omega
 have hp3 : p < 32 := by omega
 clear hp
 have hs : HL w [(w.heap.size + 1, 0), (w.heap.size, v)] _ := HL.two w v 0
 rw [mU] at hs
 have T := Lib.hid (fun W => tY 64940 W (by decide))
 rw [show wF 64940 = 32 by decide] at T
 have K := Lib.hid (fun W => tE 64940 12 W (by decide) (by decide) (by decide))
 go_enter Try.func78, Try.ntmps78
 go_wp2_with (first | (go_at_call 85; (with_reducible refine (T.out _).mono ?_); rintro e u ⟨rfl, hb⟩; replace hs := hs.below hb; clear hb) | (go_at_call 86; (with_reducible refine (K.out _).mono ?_); rintro e u ⟨rfl, hb⟩; replace hs := hs.below hb; clear hb))
 rw [← mU]
 obtain ⟨O, W, hOO, hW, hA, hR, hO, hZ, nR, hWO⟩ := zH hs
 rw [← hOO]
 rw [← hW]
 clear hW hOO hs T K u
 go_loopw [11] (fun iv wr => ∃ i : Nat, i ≤ 4 ∧ iv = .int .i64 i ∧ St W O (mJ 0#128 32 (shR 32 12 p v) i) wr) (fun iv _ => 4 - (intOf iv).toNat)
 case atStart => exact xE
 case round =>
  obtain ⟨i, hi, rfl, hs⟩ := hrel
  by_cases hlt : i < 4
  ·obtain ⟨x, hxx⟩ : ∃ x, x = mT v 32 i := ⟨_, rfl⟩
   have bx : x < 4294967296 := hxx ▸ mL v 32 i
   have G := fun W => vL v i i W rfl hlt
   rw [← hxx] at G
   have HG := Lib.hid G
   clear G
   have HM : (shN 32 12 p x) % 2 ^ 32 = shR 32 12 p v i % 2 ^ 32 := by
    show _ = Pl.u64 (sgn 32 (mT v 32 i) / 2 ^ p) % 2 ^ 32
    exact w8
   have HE := Lib.hid (pJ 32 (shR 32 12 p v) 0#128 i (shN 32 12 p x) HM)
   clear HM hxx
   by_cases hc : 0 ≤ sgn 32 x
   ·skip
    obtain ⟨g, hg⟩ : ∃ g : Nat → Nat, g = fun t => shN 32 12 t x := ⟨_, rfl⟩
    have g0 : g 0 = x := by rw [hg]; show Pl.u64 (sgn 32 x / 2 ^ 0) % 2 ^ 32 = x; rw [show (2 : Int) ^ 0 = 1 from rfl, Int.ediv_one]; unfold Pl.u64 sgn; rw [show (2 : Nat) ^ (32 - 1) = 2147483648 from rfl, show (2 : Int) ^ 32 = 4294967296 from rfl, show (2 : Nat) ^ 32 = 4294967296 from rfl]; split <;> omega
    have gs : ∀ t, bits .or .u64 ((g t : Int) / 2) 0 = ((g (t + 1) : Nat) : Int) ∧ g t < 4294967296 := fun t => by rw [hg]; rw [show (((fun t => shN 32 12 t x) t : Nat) : Int) / 2 = ((shN 32 12 t x / 2 : Nat) : Int) by simp]; exact sh12p_32 x t bx hc
    have gl : ∀ t, g t < 2 ^ 64 := fun t => by rw [hg]; exact Nat.lt_of_lt_of_le (Nat.mod_lt _ (Nat.two_pow_pos _)) (Nat.pow_le_pow_right (by decide) (by decide))
    have hgp : (shN 32 12 p x) = g p := by rw [hg]
    rw [hgp] at HE
    have HZ2 := Lib.hid (gl p)
    have ex1 : (x : Int) / 2147483648 = 0 := by unfold sgn at hc; rw [show (2 : Nat) ^ (32 - 1) = 2147483648 from rfl, show (2 : Int) ^ 32 = 4294967296 from rfl] at hc; split at hc <;> omega
    have GS := Lib.hid gs
    have G0 := Lib.hid g0
    have GL := Lib.hid gl
    clear gs g0 hgp hg gl hc
    go_wp2_with (first | (go_at_call 82; ((with_reducible refine (pR _).mono ?_); rintro e w' ⟨rfl, rfl⟩)) | (with_reducible refine mG rfl _ rfl _ rfl _ (hs.kb.get hA (by omega)) ?_) | (go_at_call 74; (with_reducible refine (HG.out _).mono ?_); rintro e u ⟨rfl, hb⟩; replace hs := hs.below hb; clear hb))
    go_loopw [12, 14] (fun xv pv wx => ∃ t : Nat, t ≤ p ∧ pv = .int .i64 t ∧ xv = .int .u64 (g t : Nat) ∧ St W O (mJ 0#128 32 (shR 32 12 p v) i) wx) (fun _ pv _ => p - (intOf pv).toNat)
    case atStart => exact yP
    case round => exact wE
   ·replace hc : sgn 32 x < 0 := by omega
    obtain ⟨g, hg⟩ : ∃ g : Nat → Nat, g = fun t => shN 32 12 t x := ⟨_, rfl⟩
    have g0 : g 0 = x := by rw [hg]; show Pl.u64 (sgn 32 x / 2 ^ 0) % 2 ^ 32 = x; rw [show (2 : Int) ^ 0 = 1 from rfl, Int.ediv_one]; unfold Pl.u64 sgn; rw [show (2 : Nat) ^ (32 - 1) = 2147483648 from rfl, show (2 : Int) ^ 32 = 4294967296 from rfl, show (2 : Nat) ^ 32 = 4294967296 from rfl]; split <;> omega
    have gs : ∀ t, bits .or .u64 ((g t : Int) / 2) 2147483648 = ((g (t + 1) : Nat) : Int) ∧ g t < 4294967296 := fun t => by rw [hg]; rw [show (((fun t => shN 32 12 t x) t : Nat) : Int) / 2 = ((shN 32 12 t x / 2 : Nat) : Int) by simp]; exact sh12n_32 x t bx hc
    have gl : ∀ t, g t < 2 ^ 64 := fun t => by rw [hg]; exact Nat.lt_of_lt_of_le (Nat.mod_lt _ (Nat.two_pow_pos _)) (Nat.pow_le_pow_right (by decide) (by decide))
    have hgp : (shN 32 12 p x) = g p := by rw [hg]
    rw [hgp] at HE
    have HZ2 := Lib.hid (gl p)
    have ex1 : (x : Int) / 2147483648 = 1 := by unfold sgn at hc; rw [show (2 : Nat) ^ (32 - 1) = 2147483648 from rfl, show (2 : Int) ^ 32 = 4294967296 from rfl] at hc; split at hc <;> omega
    have GS := Lib.hid gs
    have G0 := Lib.hid g0
    have GL := Lib.hid gl
    clear gs g0 hgp hg gl hc
    go_wp2_with (first | (go_at_call 82; ((with_reducible refine (pR _).mono ?_); rintro e w' ⟨rfl, rfl⟩)) | (with_reducible refine mG rfl _ rfl _ rfl _ (hs.kb.get hA (by omega)) ?_) | (go_at_call 74; (with_reducible refine (HG.out _).mono ?_); rintro e u ⟨rfl, hb⟩; replace hs := hs.below hb; clear hb))
    go_loopw [12, 14] (fun xv pv wx => ∃ t : Nat, t ≤ p ∧ pv = .int .i64 t ∧ xv = .int .u64 (g t : Nat) ∧ St W O (mJ 0#128 32 (shR 32 12 p v) i) wx) (fun _ pv _ => p - (intOf pv).toNat)
    case atStart => exact yP
    case round => exact wE
  ·obtain rfl : i = 4 := by omega
   have hR' := hs.kb.get hR (by omega)
   go_wp2_with (first | (go_at_call 82; ((with_reducible refine (pR _).mono ?_); rintro e w' ⟨rfl, rfl⟩)) | (with_reducible refine mG rfl _ rfl _ rfl _ hs.this ?_) | (with_reducible refine mK rfl _ _ rfl (w.heap.size + 1) _ rfl rfl _ hR' ?_; intro wq hq))
   refine bodyPost_ret (mS rfl _ _ (w.heap.size + 1) _ _ rfl rfl hq.this) rfl ⟨?_, (hs.kb.to_below hZ hWO).trans (hq.below.mono (by omega))⟩
   exact congrArg (fun z => Ending.returned (.tuple #[.agg (mY z), .int .i64 0])) (rJ 32 (shR 32 12 p v) v (by decide))
set_option maxRecDepth 100000 in
theorem rsh_32_13 (v : Vec) (n p : Nat) (hp : n % 32 = p) (hn : n < 4294967296) (w : World) : Calls Try.prog 78 #[.int .i64 64941, .agg (mY v), .int .u32 (n : Int)] w fun e w' => e = .returned (.tuple #[.agg (mY (vs 32 13 p v)), .int .i64 0]) ∧ Below w.heap.size w w' := by
 have hp2 : (n : Int) % 32 = (p : Int) := by omega
 have hp3 : p < 32 := by omega
 clear hp
 have hs : HL w [(w.heap.size + 1, 0), (w.heap.size, v)] _ := HL.two w v 0
 rw [mU] at hs
 have T := Lib.hid (fun W => tY 64941 W (by decide))
 rw [show wF 64941 = 32 by decide] at T
 have K := Lib.hid (fun W => tE 64941 13 W (by decide) (by decide) (by decide))
 go_enter Try.func78, Try.ntmps78
 go_wp2_with (first | (go_at_call 85; (with_reducible refine (T.out _).mono ?_); rintro e u ⟨rfl, hb⟩; replace hs := hs.below hb; clear hb) | (go_at_call 86; (with_reducible refine (K.out _).mono ?_); rintro e u ⟨rfl, hb⟩; replace hs := hs.below hb; clear hb))
 rw [← mU]
 obtain ⟨O, W, hOO, hW, hA, hR, hO, hZ, nR, hWO⟩ := zH hs
 rw [← hOO]
 rw [← hW]
 clear hW hOO hs T K u
 go_loopw [11] (fun iv wr => ∃ i : Nat, i ≤ 4 ∧ iv = .int .i64 i ∧ St W O (mJ 0#128 32 (shR 32 13 p v) i) wr) (fun iv _ => 4 - (intOf iv).toNat)
 case atStart => exact xE
 case round =>
  obtain ⟨i, hi, rfl, hs⟩ := hrel
  by_cases hlt : i < 4
  ·obtain ⟨x, hxx⟩ : ∃ x, x = mT v 32 i := ⟨_, rfl⟩
   have bx : x < 4294967296 := hxx ▸ mL v 32 i
   have G := fun W => vL v i i W rfl hlt
   rw [← hxx] at G
   have HG := Lib.hid G
   clear G
   have HM : (shN 32 13 p x) % 2 ^ 32 = shR 32 13 p v i % 2 ^ 32 := by
    show _ = Pl.u64 ((mT v 32 i : Int) / 2 ^ p) % 2 ^ 32
    rw [← hxx]
    rfl
   have HE := Lib.hid (pJ 32 (shR 32 13 p v) 0#128 i (shN 32 13 p x) HM)
   clear HM hxx
   obtain ⟨g, hg⟩ : ∃ g : Nat → Nat, g = fun t => shN 32 13 t x := ⟨_, rfl⟩
   have g0 : g 0 = x := by rw [hg]; show Pl.u64 ((x : Int) / 2 ^ 0) = x; rw [show (2 : Int) ^ 0 = 1 from rfl, Int.ediv_one]; unfold Pl.u64; omega
   have gs : ∀ t, (g t : Int) / 2 = ((g (t + 1) : Nat) : Int) := fun t => by rw [hg]; exact sh13 t x (by omega)
   have gl : ∀ t, g t < 2 ^ 64 := fun t => by rw [hg]; exact (tR ((x : Int) / 2 ^ t))
   have hgp : (shN 32 13 p x) = g p := by rw [hg]
   rw [hgp] at HE
   have HZ2 := Lib.hid (gl p)
   have GS := Lib.hid gs
   have G0 := Lib.hid g0
   have GL := Lib.hid gl
   clear gs g0 hgp hg gl
   go_wp2_with (first | (go_at_call 82; ((with_reducible refine (pR _).mono ?_); rintro e w' ⟨rfl, rfl⟩)) | (with_reducible refine mG rfl _ rfl _ rfl _ (hs.kb.get hA (by omega)) ?_) | (go_at_call 74; (with_reducible refine (HG.out _).mono ?_); rintro e u ⟨rfl, hb⟩; replace hs := hs.below hb; clear hb))
   go_loopw [12, 14] (fun xv pv wx => ∃ t : Nat, t ≤ p ∧ pv = .int .i64 t ∧ xv = .int .u64 (g t : Nat) ∧ St W O (mJ 0#128 32 (shR 32 13 p v) i) wx) (fun _ pv _ => p - (intOf pv).toNat)
   case atStart => exact yP
   case round =>
    clear hs
    obtain ⟨t, ht, rfl, rfl, hs⟩ := hrel
    by_cases htp : t < p
    ·exact wG
    ·obtain rfl : t = p := by omega
     go_wp2_with (first | (go_at_call 82; ((with_reducible refine (pR _).mono ?_); rintro e w' ⟨rfl, rfl⟩)) | (with_reducible refine mG rfl _ rfl _ rfl _ hs.this ?_) | (go_at_call 68; (with_reducible refine (vM (mJ 0#128 32 (shR 32 13 t v) i) _ _ i (g t) _ rfl rfl hlt HZ2.out).mono ?_); rintro e u ⟨rfl, hb⟩; replace hs := hs.below hb; clear hb) | (with_reducible refine mK rfl _ _ rfl O _ rfl rfl _ hs.this ?_; intro wq hq; replace hs := hs.sets hq; clear hq))
     go_roundw
     case rel => exact xH
     case measure => exact xL
  ·obtain rfl : i = 4 := by omega
   have hR' := hs.kb.get hR (by omega)
   go_wp2_with (first | (go_at_call 82; ((with_reducible refine (pR _).mono ?_); rintro e w' ⟨rfl, rfl⟩)) | (with_reducible refine mG rfl _ rfl _ rfl _ hs.this ?_) | (with_reducible refine mK rfl _ _ rfl (w.heap.size + 1) _ rfl rfl _ hR' ?_; intro wq hq))
   refine bodyPost_ret (mS rfl _ _ (w.heap.size + 1) _ _ rfl rfl hq.this) rfl ⟨?_, (hs.kb.to_below hZ hWO).trans (hq.below.mono (by omega))⟩
   exact congrArg (fun z => Ending.returned (.tuple #[.agg (mY z), .int .i64 0])) (rJ 32 (shR 32 13 p v) v (by decide))
end Go.Proofs.Ytcpfabkokgiepaa
end
section
namespace Go.Proofs.Ytcpfabkokgiepaa
open Go.RowKit Pl
set_option maxRecDepth 100000 in
theorem rsh_64_11 (v : Vec) (n p : Nat) (hp : n % 64 = p) (hn : n < 4294967296) (w : World) : Calls Try.prog 78 #[.int .i64 64971, .agg (mY v), .int .u32 (n : Int)] w fun e w' => e = .returned (.tuple #[.agg (mY (vs 64 11 p v)), .int .i64 0]) ∧ Below w.heap.size w w' := by
 have hp2 : (n : Int) % 64 = (p : Int) := by omega
 have hp3 : p < 64 := by omega
 clear hp
 have hs : HL w [(w.heap.size + 1, 0), (w.heap.size, v)] _ := HL.two w v 0
 rw [mU] at hs
 have T := Lib.hid (fun W => tY 64971 W (by decide))
 rw [show wF 64971 = 64 by decide] at T
 have K := Lib.hid (fun W => tE 64971 11 W (by decide) (by decide) (by decide))
 go_enter Try.func78, Try.ntmps78
 go_wp2_with (first | (go_at_call 85; (with_reducible refine (T.out _).mono ?_); rintro e u ⟨rfl, hb⟩; replace hs := hs.below hb; clear hb) | (go_at_call 86; (with_reducible refine (K.out _).mono ?_); rintro e u ⟨rfl, hb⟩; replace hs := hs.below hb; clear hb))
 rw [← mU]
 obtain ⟨O, W, hOO, hW, hA, hR, hO, hZ, nR, hWO⟩ := zH hs
 rw [← hOO]
 rw [← hW]
 clear hW hOO hs T K u
 go_loopw [11] (fun iv wr => ∃ i : Nat, i ≤ 2 ∧ iv = .int .i64 i ∧ St W O (mJ 0#128 64 (shR 64 11 p v) i) wr) (fun iv _ => 2 - (intOf iv).toNat)
 case atStart => exact xE
 case round =>
  obtain ⟨i, hi, rfl, hs⟩ := hrel
  by_cases hlt : i < 2
  ·obtain ⟨x, hxx⟩ : ∃ x, x = mT v 64 i := ⟨_, rfl⟩
   have bx : x < 18446744073709551616 := hxx ▸ mL v 64 i
   have G := fun W => vU v i i W rfl hlt
   rw [← hxx] at G
   have HG := Lib.hid G
   clear G
   have HM : (shN 64 11 p x) % 2 ^ 64 = shR 64 11 p v i % 2 ^ 64 := by
    show _ = Pl.u64 ((mT v 64 i : Int) * 2 ^ p) % 2 ^ 64
    rw [← hxx]
    rfl
   have HE := Lib.hid (pJ 64 (shR 64 11 p v) 0#128 i (shN 64 11 p x) HM)
   clear HM hxx
   obtain ⟨g, hg⟩ : ∃ g : Nat → Nat, g = fun t => shN 64 11 t x := ⟨_, rfl⟩
   have g0 : g 0 = x := by rw [hg]; show Pl.u64 ((x : Int) * 2 ^ 0) = x; rw [show (2 : Int) ^ 0 = 1 from rfl, Int.mul_one]; unfold Pl.u64; omega
   have gs : ∀ t, IntKind.u64.wrap ((g t : Int) * 2) = ((g (t + 1) : Nat) : Int) := fun t => by rw [hg]; exact sh11 t x
   have gl : ∀ t, g t < 2 ^ 64 := fun t => by rw [hg]; exact (tR ((x : Int) * 2 ^ t))
   have hgp : (shN 64 11 p x) = g p := by rw [hg]
   rw [hgp] at HE
   have HZ2 := Lib.hid (gl p)
   have GS := Lib.hid gs
   have G0 := Lib.hid g0
   have GL := Lib.hid gl
   clear gs g0 hgp hg gl
   go_wp2_with (first | (go_at_call 82; ((with_reducible refine (pH _).mono ?_); rintro e w' ⟨rfl, rfl⟩)) | (with_reducible refine mG rfl _ rfl _ rfl _ (hs.kb.get hA (by omega)) ?_) | (go_at_call 74; (with_reducible refine (HG.out _).mono ?_); rintro e u ⟨rfl, hb⟩; replace hs := hs.below hb; clear hb))
   go_loopw [12, 14] (fun xv pv wx => ∃ t : Nat, t ≤ p ∧ pv = .int .i64 t ∧ xv = .int .u64 (g t : Nat) ∧ St W O (mJ 0#128 64 (shR 64 11 p v) i) wx) (fun _ pv _ => p - (intOf pv).toNat)
   case atStart => exact yP
   case round =>
    clear hs
    obtain ⟨t, ht, rfl, rfl, hs⟩ := hrel
    by_cases htp : t < p
    ·exact wG
    ·obtain rfl : t = p := by omega
     go_wp2_with (first | (go_at_call 82; ((with_reducible refine (pH _).mono ?_); rintro e w' ⟨rfl, rfl⟩)) | (with_reducible refine mG rfl _ rfl _ rfl _ hs.this ?_) | (go_at_call 68; (with_reducible refine (vN (mJ 0#128 64 (shR 64 11 t v) i) _ _ i (g t) _ rfl rfl hlt HZ2.out).mono ?_); rintro e u ⟨rfl, hb⟩; replace hs := hs.below hb; clear hb) | (with_reducible refine mK rfl _ _ rfl O _ rfl rfl _ hs.this ?_; intro wq hq; replace hs := hs.sets hq; clear hq))
     go_roundw
     case rel => exact xH
     case measure => exact xL
  ·obtain rfl : i = 2 := by omega
   have hR' := hs.kb.get hR (by omega)
   go_wp2_with (first | (go_at_call 82; ((with_reducible refine (pH _).mono ?_); rintro e w' ⟨rfl, rfl⟩)) | (with_reducible refine mG rfl _ rfl _ rfl _ hs.this ?_) | (with_reducible refine mK rfl _ _ rfl (w.heap.size + 1) _ rfl rfl _ hR' ?_; intro wq hq))
   refine bodyPost_ret (mS rfl _ _ (w.heap.size + 1) _ _ rfl rfl hq.this) rfl ⟨?_, (hs.kb.to_below hZ hWO).trans (hq.below.mono (by omega))⟩
   exact congrArg (fun z => Ending.returned (.tuple #[.agg (mY z), .int .i64 0])) (rJ 64 (shR 64 11 p v) v (by decide))
set_option maxRecDepth 100000 in
theorem rsh_64_12 (v : Vec) (n p : Nat) (hp : n % 64 = p) (hn : n < 4294967296) (w : World) : Calls Try.prog 78 #[.int .i64 64972, .agg (mY v), .int .u32 (n : Int)] w fun e w' => e = .returned (.tuple #[.agg (mY (vs 64 12 p v)), .int .i64 0]) ∧ Below w.heap.size w w' := by
 have hp2 : (n : Int) % 64 = (p : Int) := by omega
 have hp3 : p < 64 := by omega
 clear hp
 have hs : HL w [(w.heap.size + 1, 0), (w.heap.size, v)] _ := HL.two w v 0
 rw [mU] at hs
 have T := Lib.hid (fun W => tY 64972 W (by decide))
 rw [show wF 64972 = 64 by decide] at T
 have K := Lib.hid (fun W => tE 64972 12 W (by decide) (by decide) (by decide))
 go_enter Try.func78, Try.ntmps78
 go_wp2_with (first | (go_at_call 85; (with_reducible refine (T.out _).mono ?_); rintro e u ⟨rfl, hb⟩; replace hs := hs.below hb; clear hb) | (go_at_call 86; (with_reducible refine (K.out _).mono ?_); rintro e u ⟨rfl, hb⟩; replace hs := hs.below hb; clear hb))
 rw [← mU]
 obtain ⟨O, W, hOO, hW, hA, hR, hO, hZ, nR, hWO⟩ := zH hs
 rw [← hOO]
 rw [← hW]
 clear hW hOO hs T K u
 go_loopw [11] (fun iv wr => ∃ i : Nat, i ≤ 2 ∧ iv = .int .i64 i ∧ St W O (mJ 0#128 64 (shR 64 12 p v) i) wr) (fun iv _ => 2 - (intOf iv).toNat)
 case atStart => exact xE
 case round =>
  obtain ⟨i, hi, rfl, hs⟩ := hrel
  by_cases hlt : i < 2
  ·obtain ⟨x, hxx⟩ : ∃ x, x = mT v 64 i := ⟨_, rfl⟩
   have bx : x < 18446744073709551616 := hxx ▸ mL v 64 i
   have G := fun W => vU v i i W rfl hlt
   rw [← hxx] at G
   have HG := Lib.hid G
   clear G
   have HM : (shN 64 12 p x) % 2 ^ 64 = shR 64 12 p v i % 2 ^ 64 := by
    show _ = Pl.u64 (sgn 64 (mT v 64 i) / 2 ^ p) % 2 ^ 64
    exact w8
   have HE := Lib.hid (pJ 64 (shR 64 12 p v) 0#128 i (shN 64 12 p x) HM)
   clear HM hxx
   by_cases hc : 0 ≤ sgn 64 x
   ·skip
    obtain ⟨g, hg⟩ : ∃ g : Nat → Nat, g = fun t => shN 64 12 t x := ⟨_, rfl⟩
    have g0 : g 0 = x := by rw [hg]; show Pl.u64 (sgn 64 x / 2 ^ 0) % 2 ^ 64 = x; rw [show (2 : Int) ^ 0 = 1 from rfl, Int.ediv_one]; unfold Pl.u64 sgn; rw [show (2 : Nat) ^ (64 - 1) = 9223372036854775808 from rfl, show (2 : Int) ^ 64 = 18446744073709551616 from rfl, show (2 : Nat) ^ 64 = 18446744073709551616 from rfl]; split <;> omega
    have gs : ∀ t, bits .or .u64 ((g t : Int) / 2) 0 = ((g (t + 1) : Nat) : Int) ∧ g t < 18446744073709551616 := fun t => by rw [hg]; rw [show (((fun t => shN 64 12 t x) t : Nat) : Int) / 2 = ((shN 64 12 t x / 2 : Nat) : Int) by simp]; exact sh12p_64 x t bx hc
    have gl : ∀ t, g t < 2 ^ 64 := fun t => by rw [hg]; exact Nat.lt_of_lt_of_le (Nat.mod_lt _ (Nat.two_pow_pos _)) (Nat.pow_le_pow_right (by decide) (by decide))
    have hgp : (shN 64 12 p x) = g p := by rw [hg]
    rw [hgp] at HE
    have HZ2 := Lib.hid (gl p)
    have ex1 : (x : Int) / 9223372036854775808 = 0 := by unfold sgn at hc; rw [show (2 : Nat) ^ (64 - 1) = 9223372036854775808 from rfl, show (2 : Int) ^ 64 = 18446744073709551616 from rfl] at hc; split at hc <;> omega
    have GS := Lib.hid gs
    have G0 := Lib.hid g0
    have GL := Lib.hid gl
    clear gs g0 hgp hg gl hc
    go_wp2_with (first | (go_at_call 82; ((with_reducible refine (pH _).mono ?_); rintro e w' ⟨rfl, rfl⟩)) | (with_reducible refine mG rfl _ rfl _ rfl _ (hs.kb.get hA (by omega)) ?_) | (go_at_call 74; (with_reducible refine (HG.out _).mono ?_); rintro e u ⟨rfl, hb⟩; replace hs := hs.below hb; clear hb))
    go_loopw [12, 14] (fun xv pv wx => ∃ t : Nat, t ≤ p ∧ pv = .int .i64 t ∧ xv = .int .u64 (g t : Nat) ∧ St W O (mJ 0#128 64 (shR 64 12 p v) i) wx) (fun _ pv _ => p - (intOf pv).toNat)
    case atStart => exact yP
    case round => exact wH
   ·replace hc : sgn 64 x < 0 := by omega
    obtain ⟨g, hg⟩ : ∃ g : Nat → Nat, g = fun t => shN 64 12 t x := ⟨_, rfl⟩
    have g0 : g 0 = x := by rw [hg]; show Pl.u64 (sgn 64 x / 2 ^ 0) % 2 ^ 64 = x; rw [show (2 : Int) ^ 0 = 1 from rfl, Int.ediv_one]; unfold Pl.u64 sgn; rw [show (2 : Nat) ^ (64 - 1) = 9223372036854775808 from rfl, show (2 : Int) ^ 64 = 18446744073709551616 from rfl, show (2 : Nat) ^ 64 = 18446744073709551616 from rfl]; split <;> omega
    have gs : ∀ t, bits .or .u64 ((g t : Int) / 2) 9223372036854775808 = ((g (t + 1) : Nat) : Int) ∧ g t < 18446744073709551616 := fun t => by rw [hg]; rw [show (((fun t => shN 64 12 t x) t : Nat) : Int) / 2 = ((shN 64 12 t x / 2 : Nat) : Int) by simp]; exact sh12n_64 x t bx hc
    have gl : ∀ t, g t < 2 ^ 64 := fun t => by rw [hg]; exact Nat.lt_of_lt_of_le (Nat.mod_lt _ (Nat.two_pow_pos _)) (Nat.pow_le_pow_right (by decide) (by decide))
    have hgp : (shN 64 12 p x) = g p := by rw [hg]
    rw [hgp] at HE
    have HZ2 := Lib.hid (gl p)
    have ex1 : (x : Int) / 9223372036854775808 = 1 := by unfold sgn at hc; rw [show (2 : Nat) ^ (64 - 1) = 9223372036854775808 from rfl, show (2 : Int) ^ 64 = 18446744073709551616 from rfl] at hc; split at hc <;> omega
    have GS := Lib.hid gs
    have G0 := Lib.hid g0
    have GL := Lib.hid gl
    clear gs g0 hgp hg gl hc
    go_wp2_with (first | (go_at_call 82; ((with_reducible refine (pH _).mono ?_); rintro e w' ⟨rfl, rfl⟩)) | (with_reducible refine mG rfl _ rfl _ rfl _ (hs.kb.get hA (by omega)) ?_) | (go_at_call 74; (with_reducible refine (HG.out _).mono ?_); rintro e u ⟨rfl, hb⟩; replace hs := hs.below hb; clear hb))
    go_loopw [12, 14] (fun xv pv wx => ∃ t : Nat, t ≤ p ∧ pv = .int .i64 t ∧ xv = .int .u64 (g t : Nat) ∧ St W O (mJ 0#128 64 (shR 64 12 p v) i) wx) (fun _ pv _ => p - (intOf pv).toNat)
    case atStart => exact yP
    case round => exact wH
  ·obtain rfl : i = 2 := by omega
   have hR' := hs.kb.get hR (by omega)
   go_wp2_with (first | (go_at_call 82; ((with_reducible refine (pH _).mono ?_); rintro e w' ⟨rfl, rfl⟩)) | (with_reducible refine mG rfl _ rfl _ rfl _ hs.this ?_) | (with_reducible refine mK rfl _ _ rfl (w.heap.size + 1) _ rfl rfl _ hR' ?_; intro wq hq))
   refine bodyPost_ret (mS rfl _ _ (w.heap.size + 1) _ _ rfl rfl hq.this) rfl ⟨?_, (hs.kb.to_below hZ hWO).trans (hq.below.mono (by omega))⟩
   exact congrArg (fun z => Ending.returned (.tuple #[.agg (mY z), .int .i64 0])) (rJ 64 (shR 64 12 p v) v (by decide))
set_option maxRecDepth 100000 in
theorem rsh_64_13 (v : Vec) (n p : Nat) (hp : n % 64 = p) (hn : n < 4294967296) (w : World) : Calls Try.prog 78 #[.int .i64 64973, .agg (mY v), .int .u32 (n : Int)] w fun e w' => e = .returned (.tuple #[.agg (mY (vs 64 13 p v)), .int .i64 0]) ∧ Below w.heap.size w w' := by
 have hp2 : (n : Int) % 64 = (p : Int) := by omega
 have hp3 : p < 64 := by omega
 clear hp
 have hs : HL w [(w.heap.size + 1, 0), (w.heap.size, v)] _ := HL.two w v 0
 rw [mU] at hs
 have T := Lib.hid (fun W => tY 64973 W (by decide))
 rw [show wF 64973 = 64 by decide] at T
 have K := Lib.hid (fun W => tE 64973 13 W (by decide) (by decide) (by decide))
 go_enter Try.func78, Try.ntmps78
 go_wp2_with (first | (go_at_call 85; (with_reducible refine (T.out _).mono ?_); rintro e u ⟨rfl, hb⟩; replace hs := hs.below hb; clear hb) | (go_at_call 86; (with_reducible refine (K.out _).mono ?_); rintro e u ⟨rfl, hb⟩; replace hs := hs.below hb; clear hb))
 rw [← mU]
 obtain ⟨O, W, hOO, hW, hA, hR, hO, hZ, nR, hWO⟩ := zH hs
 rw [← hOO]
 rw [← hW]
 clear hW hOO hs T K u
 go_loopw [11] (fun iv wr => ∃ i : Nat, i ≤ 2 ∧ iv = .int .i64 i ∧ St W O (mJ 0#128 64 (shR 64 13 p v) i) wr) (fun iv _ => 2 - (intOf iv).toNat)
 case atStart => exact xE
 case round =>
  obtain ⟨i, hi, rfl, hs⟩ := hrel
  by_cases hlt : i < 2
  ·obtain ⟨x, hxx⟩ : ∃ x, x = mT v 64 i := ⟨_, rfl⟩
   have bx : x < 18446744073709551616 := hxx ▸ mL v 64 i
   have G := fun W => vU v i i W rfl hlt
   rw [← hxx] at G
   have HG := Lib.hid G
   clear G
   have HM : (shN 64 13 p x) % 2 ^ 64 = shR 64 13 p v i % 2 ^ 64 := by
    show _ = Pl.u64 ((mT v 64 i : Int) / 2 ^ p) % 2 ^ 64
    rw [← hxx]
    rfl
   have HE := Lib.hid (pJ 64 (shR 64 13 p v) 0#128 i (shN 64 13 p x) HM)
   clear HM hxx
   obtain ⟨g, hg⟩ : ∃ g : Nat → Nat, g = fun t => shN 64 13 t x := ⟨_, rfl⟩
   have g0 : g 0 = x := by rw [hg]; show Pl.u64 ((x : Int) / 2 ^ 0) = x; rw [show (2 : Int) ^ 0 = 1 from rfl, Int.ediv_one]; unfold Pl.u64; omega
   have gs : ∀ t, (g t : Int) / 2 = ((g (t + 1) : Nat) : Int) := fun t => by rw [hg]; exact sh13 t x (by omega)
   have gl : ∀ t, g t < 2 ^ 64 := fun t => by rw [hg]; exact (tR ((x : Int) / 2 ^ t))
   have hgp : (shN 64 13 p x) = g p := by rw [hg]
   rw [hgp] at HE
   have HZ2 := Lib.hid (gl p)
   have GS := Lib.hid gs
   have G0 := Lib.hid g0
   have GL := Lib.hid gl
   clear gs g0 hgp hg gl
   go_wp2_with (first | (go_at_call 82; ((with_reducible refine (pH _).mono ?_); rintro e w' ⟨rfl, rfl⟩)) | (with_reducible refine mG rfl _ rfl _ rfl _ (hs.kb.get hA (by omega)) ?_) | (go_at_call 74; (with_reducible refine (HG.out _).mono ?_); rintro e u ⟨rfl, hb⟩; replace hs := hs.below hb; clear hb))
   go_loopw [12, 14] (fun xv pv wx => ∃ t : Nat, t ≤ p ∧ pv = .int .i64 t ∧ xv = .int .u64 (g t : Nat) ∧ St W O (mJ 0#128 64 (shR 64 13 p v) i) wx) (fun _ pv _ => p - (intOf pv).toNat)
   case atStart => exact yP
   case round =>
    clear hs
    obtain ⟨t, ht, rfl, rfl, hs⟩ := hrel
    by_cases htp : t < p
    ·exact wG
    ·obtain rfl : t = p := by omega
     go_wp2_with (first | (go_at_call 82; ((with_reducible refine (pH _).mono ?_); rintro e w' ⟨rfl, rfl⟩)) | (with_reducible refine mG rfl _ rfl _ rfl _ hs.this ?_) | (go_at_call 68; (with_reducible refine (vN (mJ 0#128 64 (shR 64 13 t v) i) _ _ i (g t) _ rfl rfl hlt HZ2.out).mono ?_); rintro e u ⟨rfl, hb⟩; replace hs := hs.below hb; clear hb) | (with_reducible refine mK rfl _ _ rfl O _ rfl rfl _ hs.this ?_; intro wq hq; replace hs := hs.sets hq; clear hq))
     go_roundw
     case rel => exact xH
     case measure => exact xL
  ·obtain rfl : i = 2 := by omega
   have hR' := hs.kb.get hR (by omega)
   go_wp2_with (first | (go_at_call 82; ((with_reducible refine (pH _).mono ?_); rintro e w' ⟨rfl, rfl⟩)) | (with_reducible refine mG rfl _ rfl _ rfl _ hs.this ?_) | (with_reducible refine mK rfl _ _ rfl (w.heap.size + 1) _ rfl rfl _ hR' ?_; intro wq hq))
   refine bodyPost_ret (mS rfl _ _ (w.heap.size + 1) _ _ rfl rfl hq.this) rfl ⟨?_, (hs.kb.to_below hZ hWO).trans (hq.below.mono (by omega))⟩
   exact congrArg (fun z => Ending.returned (.tuple #[.agg (mY z), .int .i64 0])) (rJ 64 (shR 64 13 p v) v (by decide))
end Go.Proofs.Ytcpfabkokgiepaa
end
