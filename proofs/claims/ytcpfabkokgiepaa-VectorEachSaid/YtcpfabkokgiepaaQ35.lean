/-
  Texts AriRS8, AriRS16.
-/
import Derived.Test.YtcpfabkokgiepaaQ34
set_option linter.unusedSimpArgs false
set_option linter.unusedVariables false
set_option maxHeartbeats 8000000
open Pl
section
namespace Go.Proofs.Ytcpfabkokgiepaa
open Go.RowKit Pl
set_option maxRecDepth 100000 in
theorem rsh_8_11 (v : Vec) (n p : Nat) (hp : n % 8 = p) (hn : n < 4294967296) (w : World) : Calls Try.prog 78 #[.int .i64 64875, .agg (mY v), .int .u32 (n : Int)] w fun e w' => e = .returned (.tuple #[.agg (mY (vs 8 11 p v)), .int .i64 0]) ∧ Below w.heap.size w w' := by
 have hp2 : (n : Int) % 8 = (p : Int) := by omega
 have hp3 : p < 8 := by omega
 clear hp
 have hs : HL w [(w.heap.size + 1, 0), (w.heap.size, v)] _ := HL.two w v 0
 rw [mU] at hs
 have T := Lib.hid (fun W => tY 64875 W (by decide))
 rw [show wF 64875 = 8 by decide] at T
 have K := Lib.hid (fun W => tE 64875 11 W (by decide) (by decide) (by decide))
 go_enter Try.func78, Try.ntmps78
 go_wp2_with (first | (go_at_call 85; (with_reducible refine (T.out _).mono ?_); rintro e u ⟨rfl, hb⟩; replace hs := hs.below hb; clear hb) | (go_at_call 86; (with_reducible refine (K.out _).mono ?_); rintro e u ⟨rfl, hb⟩; replace hs := hs.below hb; clear hb))
 rw [← mU]
 obtain ⟨O, W, hOO, hW, hA, hR, hO, hZ, nR, hWO⟩ := zH hs
 rw [← hOO]
 rw [← hW]
 clear hW hOO hs T K u
 go_loopw [11] (fun iv wr => ∃ i : Nat, i ≤ 16 ∧ iv = .int .i64 i ∧ St W O (mJ 0#128 8 (shR 8 11 p v) i) wr) (fun iv _ => 16 - (intOf iv).toNat)
 case atStart => exact xE
 case round =>
  obtain ⟨i, hi, rfl, hs⟩ := hrel
  by_cases hlt : i < 16
  ·obtain ⟨x, hxx⟩ : ∃ x, x = mT v 8 i := ⟨_, rfl⟩
   have bx : x < 256 := hxx ▸ mL v 8 i
   have G := fun W => fC v i i W rfl hlt
   rw [← hxx] at G
   have HG := Lib.hid G
   clear G
   have HM : (shN 8 11 p x) % 2 ^ 8 = shR 8 11 p v i % 2 ^ 8 := by
    show _ = Pl.u64 ((mT v 8 i : Int) * 2 ^ p) % 2 ^ 8
    rw [← hxx]
    rfl
   have HE := Lib.hid (pJ 8 (shR 8 11 p v) 0#128 i (shN 8 11 p x) HM)
   clear HM hxx
   obtain ⟨g, hg⟩ : ∃ g : Nat → Nat, g = fun t => shN 8 11 t x := ⟨_, rfl⟩
   have g0 : g 0 = x := by rw [hg]; show Pl.u64 ((x : Int) * 2 ^ 0) = x; rw [show (2 : Int) ^ 0 = 1 from rfl, Int.mul_one]; unfold Pl.u64; omega
   have gs : ∀ t, IntKind.u64.wrap ((g t : Int) * 2) = ((g (t + 1) : Nat) : Int) := fun t => by rw [hg]; exact sh11 t x
   have gl : ∀ t, g t < 2 ^ 64 := fun t => by rw [hg]; exact (tR ((x : Int) * 2 ^ t))
   have hgp : (shN 8 11 p x) = g p := by rw [hg]
   rw [hgp] at HE
   have HZ2 := Lib.hid (gl p)
   have GS := Lib.hid gs
   have G0 := Lib.hid g0
   have GL := Lib.hid gl
   clear gs g0 hgp hg gl
   go_wp2_with (first | (go_at_call 82; ((with_reducible refine (v6 _).mono ?_); rintro e w' ⟨rfl, rfl⟩)) | (with_reducible refine mG rfl _ rfl _ rfl _ (hs.kb.get hA (by omega)) ?_) | (go_at_call 74; (with_reducible refine (HG.out _).mono ?_); rintro e u ⟨rfl, hb⟩; replace hs := hs.below hb; clear hb))
   go_loopw [12, 14] (fun xv pv wx => ∃ t : Nat, t ≤ p ∧ pv = .int .i64 t ∧ xv = .int .u64 (g t : Nat) ∧ St W O (mJ 0#128 8 (shR 8 11 p v) i) wx) (fun _ pv _ => p - (intOf pv).toNat)
   case atStart => exact yP
   case round =>
    clear hs
    obtain ⟨t, ht, rfl, rfl, hs⟩ := hrel
    by_cases htp : t < p
    ·exact wG
    ·obtain rfl : t = p := by omega
     go_wp2_with (first | (go_at_call 82; ((with_reducible refine (v6 _).mono ?_); rintro e w' ⟨rfl, rfl⟩)) | (with_reducible refine mG rfl _ rfl _ rfl _ hs.this ?_) | (go_at_call 68; (with_reducible refine (uA (mJ 0#128 8 (shR 8 11 t v) i) _ _ i (g t) _ rfl rfl hlt HZ2.out).mono ?_); rintro e u ⟨rfl, hb⟩; replace hs := hs.below hb; clear hb) | (with_reducible refine mK rfl _ _ rfl O _ rfl rfl _ hs.this ?_; intro wq hq; replace hs := hs.sets hq; clear hq))
     go_roundw
     case rel => exact xH
     case measure => exact xL
  ·obtain rfl : i = 16 := by omega
   have hR' := hs.kb.get hR (by omega)
   go_wp2_with (first | (go_at_call 82; ((with_reducible refine (v6 _).mono ?_); rintro e w' ⟨rfl, rfl⟩)) | (with_reducible refine mG rfl _ rfl _ rfl _ hs.this ?_) | (with_reducible refine mK rfl _ _ rfl (w.heap.size + 1) _ rfl rfl _ hR' ?_; intro wq hq))
   refine bodyPost_ret (mS rfl _ _ (w.heap.size + 1) _ _ rfl rfl hq.this) rfl ⟨?_, (hs.kb.to_below hZ hWO).trans (hq.below.mono (by omega))⟩
   exact congrArg (fun z => Ending.returned (.tuple #[.agg (mY z), .int .i64 0])) (rJ 8 (shR 8 11 p v) v (by decide))
set_option maxRecDepth 100000 in
theorem rsh_8_12 (v : Vec) (n p : Nat) (hp : n % 8 = p) (hn : n < 4294967296) (w : World) : Calls Try.prog 78 #[.int .i64 64876, .agg (mY v), .int .u32 (n : Int)] w fun e w' => e = .returned (.tuple #[.agg (mY (vs 8 12 p v)), .int .i64 0]) ∧ Below w.heap.size w w' := by
 have hp2 : (n : Int) % 8 = (p : Int) := by omega
 have hp3 : p < 8 := by omega
 clear hp
 have hs : HL w [(w.heap.size + 1, 0), (w.heap.size, v)] _ := HL.two w v 0
 rw [mU] at hs
 have T := Lib.hid (fun W => tY 64876 W (by decide))
 rw [show wF 64876 = 8 by decide] at T
 have K := Lib.hid (fun W => tE 64876 12 W (by decide) (by decide) (by decide))
 go_enter Try.func78, Try.ntmps78
 go_wp2_with (first | (go_at_call 85; (with_reducible refine (T.out _).mono ?_); rintro e u ⟨rfl, hb⟩; replace hs := hs.below hb; clear hb) | (go_at_call 86; (with_reducible refine (K.out _).mono ?_); rintro e u ⟨rfl, hb⟩; replace hs := hs.below hb; clear hb))
 rw [← mU]
 obtain ⟨O, W, hOO, hW, hA, hR, hO, hZ, nR, hWO⟩ := zH hs
 rw [← hOO]
 rw [← hW]
 clear hW hOO hs T K u
 go_loopw [11] (fun iv wr => ∃ i : Nat, i ≤ 16 ∧ iv = .int .i64 i ∧ St W O (mJ 0#128 8 (shR 8 12 p v) i) wr) (fun iv _ => 16 - (intOf iv).toNat)
 case atStart => exact xE
 case round =>
  obtain ⟨i, hi, rfl, hs⟩ := hrel
  by_cases hlt : i < 16
  ·obtain ⟨x, hxx⟩ : ∃ x, x = mT v 8 i := ⟨_, rfl⟩
   have bx : x < 256 := hxx ▸ mL v 8 i
   have G := fun W => fC v i i W rfl hlt
   rw [← hxx] at G
   have HG := Lib.hid G
   clear G
   have HM : (shN 8 12 p x) % 2 ^ 8 = shR 8 12 p v i % 2 ^ 8 := by
    show _ = Pl.u64 (sgn 8 (mT v 8 i) / 2 ^ p) % 2 ^ 8
    exact w8
   have HE := Lib.hid (pJ 8 (shR 8 12 p v) 0#128 i (shN 8 12 p x) HM)
   clear HM hxx
   by_cases hc : 0 ≤ sgn 8 x
   ·skip
    obtain ⟨g, hg⟩ : ∃ g : Nat → Nat, g = fun t => shN 8 12 t x := ⟨_, rfl⟩
    have g0 : g 0 = x := by rw [hg]; show Pl.u64 (sgn 8 x / 2 ^ 0) % 2 ^ 8 = x; rw [show (2 : Int) ^ 0 = 1 from rfl, Int.ediv_one]; unfold Pl.u64 sgn; rw [show (2 : Nat) ^ (8 - 1) = 128 from rfl, show (2 : Int) ^ 8 = 256 from rfl, show (2 : Nat) ^ 8 = 256 from rfl]; split <;> omega
    have gs : ∀ t, bits .or .u64 ((g t : Int) / 2) 0 = ((g (t + 1) : Nat) : Int) ∧ g t < 256 := fun t => by rw [hg]; rw [show (((fun t => shN 8 12 t x) t : Nat) : Int) / 2 = ((shN 8 12 t x / 2 : Nat) : Int) by simp]; exact sh12p_8 x t bx hc
    have gl : ∀ t, g t < 2 ^ 64 := fun t => by rw [hg]; exact Nat.lt_of_lt_of_le (Nat.mod_lt _ (Nat.two_pow_pos _)) (Nat.pow_le_pow_right (by decide) (by decide))
    have hgp : (shN 8 12 p x) = g p := by rw [hg]
    rw [hgp] at HE
    have HZ2 := Lib.hid (gl p)
    have ex1 : (x : Int) / 128 = 0 := by unfold sgn at hc; rw [show (2 : Nat) ^ (8 - 1) = 128 from rfl, show (2 : Int) ^ 8 = 256 from rfl] at hc; split at hc <;> omega
    have GS := Lib.hid gs
    have G0 := Lib.hid g0
    have GL := Lib.hid gl
    clear gs g0 hgp hg gl hc
    go_wp2_with (first | (go_at_call 82; ((with_reducible refine (v6 _).mono ?_); rintro e w' ⟨rfl, rfl⟩)) | (with_reducible refine mG rfl _ rfl _ rfl _ (hs.kb.get hA (by omega)) ?_) | (go_at_call 74; (with_reducible refine (HG.out _).mono ?_); rintro e u ⟨rfl, hb⟩; replace hs := hs.below hb; clear hb))
    go_loopw [12, 14] (fun xv pv wx => ∃ t : Nat, t ≤ p ∧ pv = .int .i64 t ∧ xv = .int .u64 (g t : Nat) ∧ St W O (mJ 0#128 8 (shR 8 12 p v) i) wx) (fun _ pv _ => p - (intOf pv).toNat)
    case atStart => exact yP
    case round => exact wC
   ·replace hc : sgn 8 x < 0 := by omega
    obtain ⟨g, hg⟩ : ∃ g : Nat → Nat, g = fun t => shN 8 12 t x := ⟨_, rfl⟩
    have g0 : g 0 = x := by rw [hg]; show Pl.u64 (sgn 8 x / 2 ^ 0) % 2 ^ 8 = x; rw [show (2 : Int) ^ 0 = 1 from rfl, Int.ediv_one]; unfold Pl.u64 sgn; rw [show (2 : Nat) ^ (8 - 1) = 128 from rfl, show (2 : Int) ^ 8 = 256 from rfl, show (2 : Nat) ^ 8 = 256 from rfl]; split <;> omega
    have gs : ∀ t, bits .or .u64 ((g t : Int) / 2) 128 = ((g (t + 1) : Nat) : Int) ∧ g t < 256 := fun t => by rw [hg]; rw [show (((fun t => shN 8 12 t x) t : Nat) : Int) / 2 = ((shN 8 12 t x / 2 : Nat) : Int) by simp]; exact sh12n_8 x t bx hc
    have gl : ∀ t, g t < 2 ^ 64 := fun t => by rw [hg]; exact Nat.lt_of_lt_of_le (Nat.mod_lt _ (Nat.two_pow_pos _)) (Nat.pow_le_pow_right (by decide) (by decide))
    have hgp : (shN 8 12 p x) = g p := by rw [hg]
    rw [hgp] at HE
    have HZ2 := Lib.hid (gl p)
    have ex1 : (x : Int) / 128 = 1 := by unfold sgn at hc; rw [show (2 : Nat) ^ (8 - 1) = 128 from rfl, show (2 : Int) ^ 8 = 256 from rfl] at hc; split at hc <;> omega
    have GS := Lib.hid gs
    have G0 := Lib.hid g0
    have GL := Lib.hid gl
    clear gs g0 hgp hg gl hc
    go_wp2_with (first | (go_at_call 82; ((with_reducible refine (v6 _).mono ?_); rintro e w' ⟨rfl, rfl⟩)) | (with_reducible refine mG rfl _ rfl _ rfl _ (hs.kb.get hA (by omega)) ?_) | (go_at_call 74; (with_reducible refine (HG.out _).mono ?_); rintro e u ⟨rfl, hb⟩; replace hs := hs.below hb; clear hb))
    go_loopw [12, 14] (fun xv pv wx => ∃ t : Nat, t ≤ p ∧ pv = .int .i64 t ∧ xv = .int .u64 (g t : Nat) ∧ St W O (mJ 0#128 8 (shR 8 12 p v) i) wx) (fun _ pv _ => p - (intOf pv).toNat)
    case atStart => exact yP
    case round => exact wC
  ·obtain rfl : i = 16 := by omega
   have hR' := hs.kb.get hR (by omega)
   go_wp2_with (first | (go_at_call 82; ((with_reducible refine (v6 _).mono ?_); rintro e w' ⟨rfl, rfl⟩)) | (with_reducible refine mG rfl _ rfl _ rfl _ hs.this ?_) | (with_reducible refine mK rfl _ _ rfl (w.heap.size + 1) _ rfl rfl _ hR' ?_; intro wq hq))
   refine bodyPost_ret (mS rfl _ _ (w.heap.size + 1) _ _ rfl rfl hq.this) rfl ⟨?_, (hs.kb.to_below hZ hWO).trans (hq.below.mono (by omega))⟩
   exact congrArg (fun z => Ending.returned (.tuple #[.agg (mY z), .int .i64 0])) (rJ 8 (shR 8 12 p v) v (by decide))
set_option maxRecDepth 100000 in
theorem rsh_8_13 (v : Vec) (n p : Nat) (hp : n % 8 = p) (hn : n < 4294967296) (w : World) : Calls Try.prog 78 #[.int .i64 64877, .agg (mY v), .int .u32 (n : Int)] w fun e w' => e = .returned (.tuple #[.agg (mY (vs 8 13 p v)), .int .i64 0]) ∧ Below w.heap.size w w' := by
 have hp2 : (n : Int) % 8 = (p : Int) := by omega
 have hp3 : p < 8 := by omega
 clear hp
 have hs : HL w [(w.heap.size + 1, 0), (w.heap.size, v)] _ := HL.two w v 0
 rw [mU] at hs
 have T := Lib.hid (fun W => tY 64877 W (by decide))
 rw [show wF 64877 = 8 by decide] at T
 have K := Lib.hid (fun W => tE 64877 13 W (by decide) (by decide) (by decide))
 go_enter Try.func78, Try.ntmps78
 go_wp2_with (first | (go_at_call 85; (with_reducible refine (T.out _).mono ?_); rintro e u ⟨rfl, hb⟩; replace hs := hs.below hb; clear hb) | (go_at_call 86; (with_reducible refine (K.out _).mono ?_); rintro e u ⟨rfl, hb⟩; replace hs := hs.below hb; clear hb))
 rw [← mU]
 obtain ⟨O, W, hOO, hW, hA, hR, hO, hZ, nR, hWO⟩ := zH hs
 rw [← hOO]
 rw [← hW]
 clear hW hOO hs T K u
 go_loopw [11] (fun iv wr => ∃ i : Nat, i ≤ 16 ∧ iv = .int .i64 i ∧ St W O (mJ 0#128 8 (shR 8 13 p v) i) wr) (fun iv _ => 16 - (intOf iv).toNat)
 case atStart => exact xE
 case round =>
  obtain ⟨i, hi, rfl, hs⟩ := hrel
  by_cases hlt : i < 16
  ·obtain ⟨x, hxx⟩ : ∃ x, x = mT v 8 i := ⟨_, rfl⟩
   have bx : x < 256 := hxx ▸ mL v 8 i
   have G := fun W => fC v i i W rfl hlt
   rw [← hxx] at G
   have HG := Lib.hid G
   clear G
   have HM : (shN 8 13 p x) % 2 ^ 8 = shR 8 13 p v i % 2 ^ 8 := by
    show _ = Pl.u64 ((mT v 8 i : Int) / 2 ^ p) % 2 ^ 8
    rw [← hxx]
    rfl
   have HE := Lib.hid (pJ 8 (shR 8 13 p v) 0#128 i (shN 8 13 p x) HM)
   clear HM hxx
   obtain ⟨g, hg⟩ : ∃ g : Nat → Nat, g = fun t => shN 8 13 t x := ⟨_, rfl⟩
   have g0 : g 0 = x := by rw [hg]; show Pl.u64 ((x : Int) / 2 ^ 0) = x; rw [show (2 : Int) ^ 0 = 1 from rfl, Int.ediv_one]; unfold Pl.u64; omega
   have gs : ∀ t, (g t : Int) / 2 = ((g (t + 1) : Nat) : Int) := fun t => by rw [hg]; exact sh13 t x (by omega)
   have gl : ∀ t, g t < 2 ^ 64 := fun t => by rw [hg]; exact (tR ((x : Int) / 2 ^ t))
   have hgp : (shN 8 13 p x) = g p := by rw [hg]
   rw [hgp] at HE
   have HZ2 := Lib.hid (gl p)
   have GS := Lib.hid gs
   have G0 := Lib.hid g0
   have GL := Lib.hid gl
   clear gs g0 hgp hg gl
   go_wp2_with (first | (go_at_call 82; ((with_reducible refine (v6 _).mono ?_); rintro e w' ⟨rfl, rfl⟩)) | (with_reducible refine mG rfl _ rfl _ rfl _ (hs.kb.get hA (by omega)) ?_) | (go_at_call 74; (with_reducible refine (HG.out _).mono ?_); rintro e u ⟨rfl, hb⟩; replace hs := hs.below hb; clear hb))
   go_loopw [12, 14] (fun xv pv wx => ∃ t : Nat, t ≤ p ∧ pv = .int .i64 t ∧ xv = .int .u64 (g t : Nat) ∧ St W O (mJ 0#128 8 (shR 8 13 p v) i) wx) (fun _ pv _ => p - (intOf pv).toNat)
   case atStart => exact yP
   case round =>
    clear hs
    obtain ⟨t, ht, rfl, rfl, hs⟩ := hrel
    by_cases htp : t < p
    ·exact wG
    ·obtain rfl : t = p := by omega
     go_wp2_with (first | (go_at_call 82; ((with_reducible refine (v6 _).mono ?_); rintro e w' ⟨rfl, rfl⟩)) | (with_reducible refine mG rfl _ rfl _ rfl _ hs.this ?_) | (go_at_call 68; (with_reducible refine (uA (mJ 0#128 8 (shR 8 13 t v) i) _ _ i (g t) _ rfl rfl hlt HZ2.out).mono ?_); rintro e u ⟨rfl, hb⟩; replace hs := hs.below hb; clear hb) | (with_reducible refine mK rfl _ _ rfl O _ rfl rfl _ hs.this ?_; intro wq hq; replace hs := hs.sets hq; clear hq))
     go_roundw
     case rel => exact xH
     case measure => exact xL
  ·obtain rfl : i = 16 := by omega
   have hR' := hs.kb.get hR (by omega)
   go_wp2_with (first | (go_at_call 82; ((with_reducible refine (v6 _).mono ?_); rintro e w' ⟨rfl, rfl⟩)) | (with_reducible refine mG rfl _ rfl _ rfl _ hs.this ?_) | (with_reducible refine mK rfl _ _ rfl (w.heap.size + 1) _ rfl rfl _ hR' ?_; intro wq hq))
   refine bodyPost_ret (mS rfl _ _ (w.heap.size + 1) _ _ rfl rfl hq.this) rfl ⟨?_, (hs.kb.to_below hZ hWO).trans (hq.below.mono (by omega))⟩
   exact congrArg (fun z => Ending.returned (.tuple #[.agg (mY z), .int .i64 0])) (rJ 8 (shR 8 13 p v) v (by decide))
end Go.Proofs.Ytcpfabkokgiepaa
end
section
namespace Go.Proofs.Ytcpfabkokgiepaa
open Go.RowKit Pl
set_option maxRecDepth 100000 in
theorem rsh_16_11 (v : Vec) (n p : Nat) (hp : n % 16 = p) (hn : n < 4294967296) (w : World) : Calls Try.prog 78 #[.int .i64 64907, .agg (mY v), .int .u32 (n : Int)] w fun e w' => e = .returned (.tuple #[.agg (mY (vs 16 11 p v)), .int .i64 0]) ∧ Below w.heap.size w w' := by
 have hp2 : (n : Int) % 16 = (p : Int) := by omega
 have hp3 : p < 16 := by omega
 clear hp
 have hs : HL w [(w.heap.size + 1, 0), (w.heap.size, v)] _ := HL.two w v 0
 rw [mU] at hs
 have T := Lib.hid (fun W => tY 64907 W (by decide))
 rw [show wF 64907 = 16 by decide] at T
 have K := Lib.hid (fun W => tE 64907 11 W (by decide) (by decide) (by decide))
 go_enter Try.func78, Try.ntmps78
 go_wp2_with (first | (go_at_call 85; (with_reducible refine (T.out _).mono ?_); rintro e u ⟨rfl, hb⟩; replace hs := hs.below hb; clear hb) | (go_at_call 86; (with_reducible refine (K.out _).mono ?_); rintro e u ⟨rfl, hb⟩; replace hs := hs.below hb; clear hb))
 rw [← mU]
 obtain ⟨O, W, hOO, hW, hA, hR, hO, hZ, nR, hWO⟩ := zH hs
 rw [← hOO]
 rw [← hW]
 clear hW hOO hs T K u
 go_loopw [11] (fun iv wr => ∃ i : Nat, i ≤ 8 ∧ iv = .int .i64 i ∧ St W O (mJ 0#128 16 (shR 16 11 p v) i) wr) (fun iv _ => 8 - (intOf iv).toNat)
 case atStart => exact xE
 case round =>
  obtain ⟨i, hi, rfl, hs⟩ := hrel
  by_cases hlt : i < 8
  ·obtain ⟨x, hxx⟩ : ∃ x, x = mT v 16 i := ⟨_, rfl⟩
   have bx : x < 65536 := hxx ▸ mL v 16 i
   have G := fun W => vA v i i W rfl hlt
   rw [← hxx] at G
   have HG := Lib.hid G
   clear G
   have HM : (shN 16 11 p x) % 2 ^ 16 = shR 16 11 p v i % 2 ^ 16 := by
    show _ = Pl.u64 ((mT v 16 i : Int) * 2 ^ p) % 2 ^ 16
    rw [← hxx]
    rfl
   have HE := Lib.hid (pJ 16 (shR 16 11 p v) 0#128 i (shN 16 11 p x) HM)
   clear HM hxx
   obtain ⟨g, hg⟩ : ∃ g : Nat → Nat, g = fun t => shN 16 11 t x := ⟨_, rfl⟩
   have g0 : g 0 = x := by rw [hg]; show Pl.u64 ((x : Int) * 2 ^ 0) = x; rw [show (2 : Int) ^ 0 = 1 from rfl, Int.mul_one]; unfold Pl.u64; omega
   have gs : ∀ t, IntKind.u64.wrap ((g t : Int) * 2) = ((g (t + 1) : Nat) : Int) := fun t => by rw [hg]; exact sh11 t x
   have gl : ∀ t, g t < 2 ^ 64 := fun t => by rw [hg]; exact (tR ((x : Int) * 2 ^ t))
   have hgp : (shN 16 11 p x) = g p := by rw [hg]
   rw [hgp] at HE
   have HZ2 := Lib.hid (gl p)
   have GS := Lib.hid gs
   have G0 := Lib.hid g0
   have GL := Lib.hid gl
   clear gs g0 hgp hg gl
   go_wp2_with (first | (go_at_call 82; ((with_reducible refine (pP _).mono ?_); rintro e w' ⟨rfl, rfl⟩)) | (with_reducible refine mG rfl _ rfl _ rfl _ (hs.kb.get hA (by omega)) ?_) | (go_at_call 74; (with_reducible refine (HG.out _).mono ?_); rintro e u ⟨rfl, hb⟩; replace hs := hs.below hb; clear hb))
   go_loopw [12, 14] (fun xv pv wx => ∃ t : Nat, t ≤ p ∧ pv = .int .i64 t ∧ xv = .int .u64 (g t : Nat) ∧ St W O (mJ 0#128 16 (shR 16 11 p v) i) wx) (fun _ pv _ => p - (intOf pv).toNat)
   case atStart => exact yP
   case round =>
    clear hs
    obtain ⟨t, ht, rfl, rfl, hs⟩ := hrel
    by_cases htp : t < p
    ·exact wG
    ·obtain rfl : t = p := by omega
     go_wp2_with (first | (go_at_call 82; ((with_reducible refine (pP _).mono ?_); rintro e w' ⟨rfl, rfl⟩)) | (with_reducible refine mG rfl _ rfl _ rfl _ hs.this ?_) | (go_at_call 68; (with_reducible refine (v4 (mJ 0#128 16 (shR 16 11 t v) i) _ _ i (g t) _ rfl rfl hlt HZ2.out).mono ?_); rintro e u ⟨rfl, hb⟩; replace hs := hs.below hb; clear hb) | (with_reducible refine mK rfl _ _ rfl O _ rfl rfl _ hs.this ?_; intro wq hq; replace hs := hs.sets hq; clear hq))
     go_roundw
     case rel => exact xH
     case measure => exact xL
  ·obtain rfl : i = 8 := by omega
   have hR' := hs.kb.get hR (by omega)
   go_wp2_with (first | (go_at_call 82; ((with_reducible refine (pP _).mono ?_); rintro e w' ⟨rfl, rfl⟩)) | (with_reducible refine mG rfl _ rfl _ rfl _ hs.this ?_) | (with_reducible refine mK rfl _ _ rfl (w.heap.size + 1) _ rfl rfl _ hR' ?_; intro wq hq))
   refine bodyPost_ret (mS rfl _ _ (w.heap.size + 1) _ _ rfl rfl hq.this) rfl ⟨?_, (hs.kb.to_below hZ hWO).trans (hq.below.mono (by omega))⟩
   exact congrArg (fun z => Ending.returned (.tuple #[.agg (mY z), .int .i64 0])) (rJ 16 (shR 16 11 p v) v (by decide))
set_option maxRecDepth 100000 in
theorem rsh_16_12 (v : Vec) (n p : Nat) (hp : n % 16 = p) (hn : n < 4294967296) (w : World) : Calls Try.prog 78 #[.int .i64 64908, .agg (mY v), .int .u32 (n : Int)] w fun e w' => e = .returned (.tuple #[.agg (mY (vs 16 12 p v)), .int .i64 0]) ∧ Below w.heap.size w w' := by
 have hp2 : (n : Int) % 16 = (p : Int) := by omega
 have hp3 : p < 16 := by omega
 clear hp
 have hs : HL w [(w.heap.size + 1, 0), (w.heap.size, v)] _ := HL.two w v 0
 rw [mU] at hs
 have T := Lib.hid (fun W => tY 64908 W (by decide))
 rw [show wF 64908 = 16 by decide] at T
 have K := Lib.hid (fun W => tE 64908 12 W (by decide) (by decide) (by decide))
 go_enter Try.func78, Try.ntmps78
 go_wp2_with (first | (go_at_call 85; (with_reducible refine (T.out _).mono ?_); rintro e u ⟨rfl, hb⟩; replace hs := hs.below hb; clear hb) | (go_at_call 86; (with_reducible refine (K.out _).mono ?_); rintro e u ⟨rfl, hb⟩; replace hs := hs.below hb; clear hb))
 rw [← mU]
 obtain ⟨O, W, hOO, hW, hA, hR, hO, hZ, nR, hWO⟩ := zH hs
 rw [← hOO]
 rw [← hW]
 clear hW hOO hs T K u
 go_loopw [11] (fun iv wr => ∃ i : Nat, i ≤ 8 ∧ iv = .int .i64 i ∧ St W O (mJ 0#128 16 (shR 16 12 p v) i) wr) (fun iv _ => 8 - (intOf iv).toNat)
 case atStart => exact xE
 case round =>
  obtain ⟨i, hi, rfl, hs⟩ := hrel
  by_cases hlt : i < 8
  ·obtain ⟨x, hxx⟩ : ∃ x, x = mT v 16 i := ⟨_, rfl⟩
   have bx : x < 65536 := hxx ▸ mL v 16 i
   have G := fun W => vA v i i W rfl hlt
   rw [← hxx] at G
   have HG := Lib.hid G
   clear G
   have HM : (shN 16 12 p x) % 2 ^ 16 = shR 16 12 p v i % 2 ^ 16 := by
    show _ = Pl.u64 (sgn 16 (mT v 16 i) / 2 ^ p) % 2 ^ 16
    exact w8
   have HE := Lib.hid (pJ 16 (shR 16 12 p v) 0#128 i (shN 16 12 p x) HM)
   clear HM hxx
   by_cases hc : 0 ≤ sgn 16 x
   ·skip
    obtain ⟨g, hg⟩ : ∃ g : Nat → Nat, g = fun t => shN 16 12 t x := ⟨_, rfl⟩
    have g0 : g 0 = x := by rw [hg]; show Pl.u64 (sgn 16 x / 2 ^ 0) % 2 ^ 16 = x; rw [show (2 : Int) ^ 0 = 1 from rfl, Int.ediv_one]; unfold Pl.u64 sgn; rw [show (2 : Nat) ^ (16 - 1) = 32768 from rfl, show (2 : Int) ^ 16 = 65536 from rfl, show (2 : Nat) ^ 16 = 65536 from rfl]; split <;> omega
    have gs : ∀ t, bits .or .u64 ((g t : Int) / 2) 0 = ((g (t + 1) : Nat) : Int) ∧ g t < 65536 := fun t => by rw [hg]; rw [show (((fun t => shN 16 12 t x) t : Nat) : Int) / 2 = ((shN 16 12 t x / 2 : Nat) : Int) by simp]; exact sh12p_16 x t bx hc
    have gl : ∀ t, g t < 2 ^ 64 := fun t => by rw [hg]; exact Nat.lt_of_lt_of_le (Nat.mod_lt _ (Nat.two_pow_pos _)) (Nat.pow_le_pow_right (by decide) (by decide))
    have hgp : (shN 16 12 p x) = g p := by rw [hg]
    rw [hgp] at HE
    have HZ2 := Lib.hid (gl p)
    have ex1 : (x : Int) / 32768 = 0 := by unfold sgn at hc; rw [show (2 : Nat) ^ (16 - 1) = 32768 from rfl, show (2 : Int) ^ 16 = 65536 from rfl] at hc; split at hc <;> omega
    have GS := Lib.hid gs
    have G0 := Lib.hid g0
    have GL := Lib.hid gl
    clear gs g0 hgp hg gl hc
    go_wp2_with (first | (go_at_call 82; ((with_reducible refine (pP _).mono ?_); rintro e w' ⟨rfl, rfl⟩)) | (with_reducible refine mG rfl _ rfl _ rfl _ (hs.kb.get hA (by omega)) ?_) | (go_at_call 74; (with_reducible refine (HG.out _).mono ?_); rintro e u ⟨rfl, hb⟩; replace hs := hs.below hb; clear hb))
    go_loopw [12, 14] (fun xv pv wx => ∃ t : Nat, t ≤ p ∧ pv = .int .i64 t ∧ xv = .int .u64 (g t : Nat) ∧ St W O (mJ 0#128 16 (shR 16 12 p v) i) wx) (fun _ pv _ => p - (intOf pv).toNat)
    case atStart => exact yP
    case round => exact wD
   ·replace hc : sgn 16 x < 0 := by omega
    obtain ⟨g, hg⟩ : ∃ g : Nat → Nat, g = fun t => shN 16 12 t x := ⟨_, rfl⟩
    have g0 : g 0 = x := by rw [hg]; show Pl.u64 (sgn 16 x / 2 ^ 0) % 2 ^ 16 = x; rw [show (2 : Int) ^ 0 = 1 from rfl, Int.ediv_one]; unfold Pl.u64 sgn; rw [show (2 : Nat) ^ (16 - 1) = 32768 from rfl, show (2 : Int) ^ 16 = 65536 from rfl, show (2 : Nat) ^ 16 = 65536 from rfl]; split <;> omega
    have gs : ∀ t, bits .or .u64 ((g t : Int) / 2) 32768 = ((g (t + 1) : Nat) : Int) ∧ g t < 65536 := fun t => by rw [hg]; rw [show (((fun t => shN 16 12 t x) t : Nat) : Int) / 2 = ((shN 16 12 t x / 2 : Nat) : Int) by simp]; exact sh12n_16 x t bx hc
    have gl : ∀ t, g t < 2 ^ 64 := fun t => by rw [hg]; exact Nat.lt_of_lt_of_le (Nat.mod_lt _ (Nat.two_pow_pos _)) (Nat.pow_le_pow_right (by decide) (by decide))
    have hgp : (shN 16 12 p x) = g p := by rw [hg]
    rw [hgp] at HE
    have HZ2 := Lib.hid (gl p)
    have ex1 : (x : Int) / 32768 = 1 := by unfold sgn at hc; rw [show (2 : Nat) ^ (16 - 1) = 32768 from rfl, show (2 : Int) ^ 16 = 65536 from rfl] at hc; split at hc <;> omega
    have GS := Lib.hid gs
    have G0 := Lib.hid g0
    have GL := Lib.hid gl
    clear gs g0 hgp hg gl hc
    go_wp2_with (first | (go_at_call 82; ((with_reducible refine (pP _).mono ?_); rintro e w' ⟨rfl, rfl⟩)) | (with_reducible refine mG rfl _ rfl _ rfl _ (hs.kb.get hA (by omega)) ?_) | (go_at_call 74; (with_reducible refine (HG.out _).mono ?_); rintro e u ⟨rfl, hb⟩; replace hs := hs.below hb; clear hb))
    go_loopw [12, 14] (fun xv pv wx => ∃ t : Nat, t ≤ p ∧ pv = .int .i64 t ∧ xv = .int .u64 (g t : Nat) ∧ St W O (mJ 0#128 16 (shR 16 12 p v) i) wx) (fun _ pv _ => p - (intOf pv).toNat)
    case atStart => exact yP
    case round => exact wD
  ·obtain rfl : i = 8 := by omega
   have hR' := hs.kb.get hR (by omega)
   go_wp2_with (first | (go_at_call 82; ((with_reducible refine (pP _).mono ?_); rintro e w' ⟨rfl, rfl⟩)) | (with_reducible refine mG rfl _ rfl _ rfl _ hs.this ?_) | (with_reducible refine mK rfl _ _ rfl (w.heap.size + 1) _ rfl rfl _ hR' ?_; intro wq hq))
   refine bodyPost_ret (mS rfl _ _ (w.heap.size + 1) _ _ rfl rfl hq.this) rfl ⟨?_, (hs.kb.to_below hZ hWO).trans (hq.below.mono (by omega))⟩
   exact congrArg (fun z => Ending.returned (.tuple #[.agg (mY z), .int .i64 0])) (rJ 16 (shR 16 12 p v) v (by decide))
set_option maxRecDepth 100000 in
theorem rsh_16_13 (v : Vec) (n p : Nat) (hp : n % 16 = p) (hn : n < 4294967296) (w : World) : Calls Try.prog 78 #[.int .i64 64909, .agg (mY v), .int .u32 (n : Int)] w fun e w' => e = .returned (.tuple #[.agg (mY (vs 16 13 p v)), .int .i64 0]) ∧ Below w.heap.size w w' := by
 have hp2 : (n : Int) % 16 = (p : Int) := by omega
 have hp3 : p < 16 := by omega
 clear hp
 have hs : HL w [(w.heap.size + 1, 0), (w.heap.size, v)] _ := HL.two w v 0
 rw [mU] at hs
 have T := Lib.hid (fun W => tY 64909 W (by decide))
 rw [show wF 64909 = 16 by decide] at T
 have K := Lib.hid (fun W => tE 64909 13 W (by decide) (by decide) (by decide))
 go_enter Try.func78, Try.ntmps78
 go_wp2_with (first | (go_at_call 85; (with_reducible refine (T.out _).mono ?_); rintro e u ⟨rfl, hb⟩; replace hs := hs.below hb; clear hb) | (go_at_call 86; (with_reducible refine (K.out _).mono ?_); rintro e u ⟨rfl, hb⟩; replace hs := hs.below hb; clear hb))
 rw [← mU]
 obtain ⟨O, W, hOO, hW, hA, hR, hO, hZ, nR, hWO⟩ := zH hs
 rw [← hOO]
 rw [← hW]
 clear hW hOO hs T K u
 go_loopw [11] (fun iv wr => ∃ i : Nat, i ≤ 8 ∧ iv = .int .i64 i ∧ St W O (mJ 0#128 16 (shR 16 13 p v) i) wr) (fun iv _ => 8 - (intOf iv).toNat)
 case atStart => exact xE
 case round =>
  obtain ⟨i, hi, rfl, hs⟩ := hrel
  by_cases hlt : i < 8
  ·obtain ⟨x, hxx⟩ : ∃ x, x = mT v 16 i := ⟨_, rfl⟩
   have bx : x < 65536 := hxx ▸ mL v 16 i
   have G := fun W => vA v i i W rfl hlt
   rw [← hxx] at G
   have HG := Lib.hid G
   clear G
   have HM : (shN 16 13 p x) % 2 ^ 16 = shR 16 13 p v i % 2 ^ 16 := by
    show _ = Pl.u64 ((mT v 16 i : Int) / 2 ^ p) % 2 ^ 16
    rw [← hxx]
    rfl
   have HE := Lib.hid (pJ 16 (shR 16 13 p v) 0#128 i (shN 16 13 p x) HM)
   clear HM hxx
   obtain ⟨g, hg⟩ : ∃ g : Nat → Nat, g = fun t => shN 16 13 t x := ⟨_, rfl⟩
   have g0 : g 0 = x := by rw [hg]; show Pl.u64 ((x : Int) / 2 ^ 0) = x; rw [show (2 : Int) ^ 0 = 1 from rfl, Int.ediv_one]; unfold Pl.u64; omega
   have gs : ∀ t, (g t : Int) / 2 = ((g (t + 1) : Nat) : Int) := fun t => by rw [hg]; exact sh13 t x (by omega)
   have gl : ∀ t, g t < 2 ^ 64 := fun t => by rw [hg]; exact (tR ((x : Int) / 2 ^ t))
   have hgp : (shN 16 13 p x) = g p := by rw [hg]
   rw [hgp] at HE
   have HZ2 := Lib.hid (gl p)
   have GS := Lib.hid gs
   have G0 := Lib.hid g0
   have GL := Lib.hid gl
   clear gs g0 hgp hg gl
   go_wp2_with (first | (go_at_call 82; ((with_reducible refine (pP _).mono ?_); rintro e w' ⟨rfl, rfl⟩)) | (with_reducible refine mG rfl _ rfl _ rfl _ (hs.kb.get hA (by omega)) ?_) | (go_at_call 74; (with_reducible refine (HG.out _).mono ?_); rintro e u ⟨rfl, hb⟩; replace hs := hs.below hb; clear hb))
   go_loopw [12, 14] (fun xv pv wx => ∃ t : Nat, t ≤ p ∧ pv = .int .i64 t ∧ xv = .int .u64 (g t : Nat) ∧ St W O (mJ 0#128 16 (shR 16 13 p v) i) wx) (fun _ pv _ => p - (intOf pv).toNat)
   case atStart => exact yP
   case round =>
    clear hs
    obtain ⟨t, ht, rfl, rfl, hs⟩ := hrel
    by_cases htp : t < p
    ·exact wG
    ·obtain rfl : t = p := by omega
     go_wp2_with (first | (go_at_call 82; ((with_reducible refine (pP _).mono ?_); rintro e w' ⟨rfl, rfl⟩)) | (with_reducible refine mG rfl _ rfl _ rfl _ hs.this ?_) | (go_at_call 68; (with_reducible refine (v4 (mJ 0#128 16 (shR 16 13 t v) i) _ _ i (g t) _ rfl rfl hlt HZ2.out).mono ?_); rintro e u ⟨rfl, hb⟩; replace hs := hs.below hb; clear hb) | (with_reducible refine mK rfl _ _ rfl O _ rfl rfl _ hs.this ?_; intro wq hq; replace hs := hs.sets hq; clear hq))
     go_roundw
     case rel => exact xH
     case measure => exact xL
  ·obtain rfl : i = 8 := by omega
   have hR' := hs.kb.get hR (by omega)
   go_wp2_with (first | (go_at_call 82; ((with_reducible refine (pP _).mono ?_); rintro e w' ⟨rfl, rfl⟩)) | (with_reducible refine mG rfl _ rfl _ rfl _ hs.this ?_) | (with_reducible refine mK rfl _ _ rfl (w.heap.size + 1) _ rfl rfl _ hR' ?_; intro wq hq))
   refine bodyPost_ret (mS rfl _ _ (w.heap.size + 1) _ _ rfl rfl hq.this) rfl ⟨?_, (hs.kb.to_below hZ hWO).trans (hq.below.mono (by omega))⟩
   exact congrArg (fun z => Ending.returned (.tuple #[.agg (mY z), .int .i64 0])) (rJ 16 (shR 16 13 p v) v (by decide))
end Go.Proofs.Ytcpfabkokgiepaa
end
